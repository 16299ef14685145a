/-
  NARROWER THAN 'FOR EVERY INPUT', by the rows' own cells (each row's printed sentence says how): HyperChecks: laid · HyperProduces: laid · HyperReads: laid · HyperMatches: laid · HyperMeans: laid · HyperWrites: laid · HyperBack: laid · HyperRenames: laid · HyperVerifies: loops, laid · HyperLeaves: loops, laid.
  DERIVED. THE GIVEN ROWS OF THIS SEAT. 10 by the template 'for every input the law returns true; each argument reads behind the call as it read before'; 0 by the template 'total and deterministic' (their statements: YtiniifbmeobmgaaGreatDoorTotals.lean).
  GIVEN WITH THE SEED: the statements are not yours to turn. If you find one false, say at which input.
  Laid BY PROGRAM, IN A SANDBOX (cutbox-rows.mjs): the forced cells as the released guide's own fill.sh prints them over the translation 13be3e762401ccee… (all of the seat's roots in one cut). By AI agents, Wed Nov 11 2026. No macro, syntax, notation, axiom, sorry.
-/
import Derived.Test.YtiniifbmeobmgaaGreatDoorChecked
import GoSem.PinnedTables
import GoSem.Claim
import GoSem.ClaimJoined
import GoSem.ClaimMapViews
import Derived.JoinedTies
import Derived.KernelRfl
namespace Go.Proofs.YtiniifbmeobmgaaGreatDoor
/- THE CELL 'sum', in the pinned program and in every row, IS THE sha256 OF THE DUMP (.gsa) THAT YtiniifbmeobmgaaGreatDoorProg.lean LOADS. Nothing in Lean hashes anything: it is a label: what it is worth is what the hold of that sum in a sandbox is worth. -/
noncomputable def Tryz.pinned : Pinned := { name := "ytiniifbmeobmgaagreatdoor", sum := "13be3e762401cceee47d1d669f37ea14d84a51ed2cf50bbb7b0e3bbd6ba1e3cb", checked := Tryz.checked }
namespace Rows
def none {H : Type} : Left H := { results := [], args := [] }

/- WHAT THE LISTED PACKAGE-LEVEL VARIABLES READ AS WHEN THE CALL BEGINS. Each datum BY PROGRAM (the guide's laid-datum.mjs) off the statement by which the dump's own 'gosem.cut.vars' lays the variable. In a bare row this is a premise. The card (YtiniifbmeobmgaaGreatDoorCards.lean) ties it to the program's text. -/
def laid_unicode_utf8_acceptRanges {H : Type} : DataW H := .agg [.agg [.lit (.int .u8 128), .lit (.int .u8 191)], .agg [.lit (.int .u8 160), .lit (.int .u8 191)], .agg [.lit (.int .u8 128), .lit (.int .u8 159)], .agg [.lit (.int .u8 144), .lit (.int .u8 191)], .agg [.lit (.int .u8 128), .lit (.int .u8 143)], .agg [.lit (.int .u8 0), .lit (.int .u8 0)], .agg [.lit (.int .u8 0), .lit (.int .u8 0)], .agg [.lit (.int .u8 0), .lit (.int .u8 0)], .agg [.lit (.int .u8 0), .lit (.int .u8 0)], .agg [.lit (.int .u8 0), .lit (.int .u8 0)], .agg [.lit (.int .u8 0), .lit (.int .u8 0)], .agg [.lit (.int .u8 0), .lit (.int .u8 0)], .agg [.lit (.int .u8 0), .lit (.int .u8 0)], .agg [.lit (.int .u8 0), .lit (.int .u8 0)], .agg [.lit (.int .u8 0), .lit (.int .u8 0)], .agg [.lit (.int .u8 0), .lit (.int .u8 0)]]
/-- One of Go's own tables, pinned by name: the form's constant. -/
def laid_unicode_utf8_first : DataW Unit := Go.Pinned.utf8First

/-- 'environlaw19.HyperChecks': WHATEVER THE INPUT: true; the input reads as it did. -/
def hyperChecksSpec : ChangeSpec := { name := "hyperChecks", fn := fun _ => fun
  | [d] => { results := [.lit (.bool true)], args := [d] }
  | _ => none }
def hyperChecksRow : OpenClaim := { program := "ytiniifbmeobmgaagreatdoor", sum := "13be3e762401cceee47d1d669f37ea14d84a51ed2cf50bbb7b0e3bbd6ba1e3cb", func := "environ/environlaw19.HyperChecks", spec := "hyperChecks", inPlace := ["internal/bytealg.IndexByteString", "internal/bytealg.CountString", "internal/bytealg.IndexString", "internal/bytealg.abigen_runtime_cmpstring", "internal/abi.NoEscape", "internal/bytealg.MakeNoZero"], unfollowed := true, recurses := true, named := ["unicode/utf8.first", "unicode/utf8.acceptRanges", "internal/bytealg.MaxLen"], apart := false, laid := [("unicode/utf8.acceptRanges", laid_unicode_utf8_acceptRanges), ("unicode/utf8.first", laid_unicode_utf8_first)] }
def HyperChecksSaid : Prop := hyperChecksRow.holds Tryz.pinned (OpenSpec.ofChange hyperChecksSpec)

/-- ITS FALSE NEIGHBOUR: 'it returns false'. Refute it at one input. -/
def hyperChecksWrong : ChangeSpec := { name := "hyperChecks", fn := fun _ => fun
  | [d] => { results := [.lit (.bool false)], args := [d] }
  | _ => none }
def HyperChecksWrongFalsely : Prop := hyperChecksRow.holds Tryz.pinned (OpenSpec.ofChange hyperChecksWrong)

/-- 'environlaw19.HyperProduces': WHATEVER THE INPUT: true; the input reads as it did. -/
def hyperProducesSpec : ChangeSpec := { name := "hyperProduces", fn := fun _ => fun
  | [d1, d2, d3] => { results := [.lit (.bool true)], args := [d1, d2, d3] }
  | _ => none }
def hyperProducesRow : OpenClaim := { program := "ytiniifbmeobmgaagreatdoor", sum := "13be3e762401cceee47d1d669f37ea14d84a51ed2cf50bbb7b0e3bbd6ba1e3cb", func := "environ/environlaw19.HyperProduces", spec := "hyperProduces", inPlace := ["internal/bytealg.IndexByteString", "internal/bytealg.CountString", "internal/bytealg.IndexString", "internal/bytealg.abigen_runtime_cmpstring", "internal/abi.NoEscape", "internal/bytealg.MakeNoZero"], unfollowed := true, recurses := true, named := ["unicode/utf8.first", "unicode/utf8.acceptRanges", "internal/bytealg.MaxLen"], apart := false, laid := [("unicode/utf8.acceptRanges", laid_unicode_utf8_acceptRanges), ("unicode/utf8.first", laid_unicode_utf8_first)] }
def HyperProducesSaid : Prop := hyperProducesRow.holds Tryz.pinned (OpenSpec.ofChange hyperProducesSpec)

/-- ITS FALSE NEIGHBOUR: 'it returns false'. Refute it at one input. -/
def hyperProducesWrong : ChangeSpec := { name := "hyperProduces", fn := fun _ => fun
  | [d1, d2, d3] => { results := [.lit (.bool false)], args := [d1, d2, d3] }
  | _ => none }
def HyperProducesWrongFalsely : Prop := hyperProducesRow.holds Tryz.pinned (OpenSpec.ofChange hyperProducesWrong)

/-- 'environlaw19.HyperReads': WHATEVER THE INPUT: true; the input reads as it did. -/
def hyperReadsSpec : ChangeSpec := { name := "hyperReads", fn := fun _ => fun
  | [d] => { results := [.lit (.bool true)], args := [d] }
  | _ => none }
def hyperReadsRow : OpenClaim := { program := "ytiniifbmeobmgaagreatdoor", sum := "13be3e762401cceee47d1d669f37ea14d84a51ed2cf50bbb7b0e3bbd6ba1e3cb", func := "environ/environlaw19.HyperReads", spec := "hyperReads", inPlace := ["internal/bytealg.IndexByteString", "internal/bytealg.CountString", "internal/bytealg.IndexString", "internal/bytealg.abigen_runtime_cmpstring", "internal/abi.NoEscape", "internal/bytealg.MakeNoZero"], unfollowed := true, recurses := true, named := ["unicode/utf8.first", "unicode/utf8.acceptRanges", "internal/bytealg.MaxLen"], apart := false, laid := [("unicode/utf8.acceptRanges", laid_unicode_utf8_acceptRanges), ("unicode/utf8.first", laid_unicode_utf8_first)] }
def HyperReadsSaid : Prop := hyperReadsRow.holds Tryz.pinned (OpenSpec.ofChange hyperReadsSpec)

/-- ITS FALSE NEIGHBOUR: 'it returns false'. Refute it at one input. -/
def hyperReadsWrong : ChangeSpec := { name := "hyperReads", fn := fun _ => fun
  | [d] => { results := [.lit (.bool false)], args := [d] }
  | _ => none }
def HyperReadsWrongFalsely : Prop := hyperReadsRow.holds Tryz.pinned (OpenSpec.ofChange hyperReadsWrong)

/-- 'environlaw19.HyperMatches': WHATEVER THE INPUT: true; the input reads as it did. -/
def hyperMatchesSpec : ChangeSpec := { name := "hyperMatches", fn := fun _ => fun
  | [d1, d2, d3] => { results := [.lit (.bool true)], args := [d1, d2, d3] }
  | _ => none }
def hyperMatchesRow : OpenClaim := { program := "ytiniifbmeobmgaagreatdoor", sum := "13be3e762401cceee47d1d669f37ea14d84a51ed2cf50bbb7b0e3bbd6ba1e3cb", func := "environ/environlaw19.HyperMatches", spec := "hyperMatches", inPlace := ["internal/bytealg.IndexByteString", "internal/bytealg.CountString", "internal/bytealg.IndexString", "internal/bytealg.abigen_runtime_cmpstring", "internal/abi.NoEscape", "internal/bytealg.MakeNoZero"], unfollowed := true, recurses := true, named := ["unicode/utf8.first", "unicode/utf8.acceptRanges", "internal/bytealg.MaxLen"], apart := false, laid := [("unicode/utf8.acceptRanges", laid_unicode_utf8_acceptRanges), ("unicode/utf8.first", laid_unicode_utf8_first)] }
def HyperMatchesSaid : Prop := hyperMatchesRow.holds Tryz.pinned (OpenSpec.ofChange hyperMatchesSpec)

/-- ITS FALSE NEIGHBOUR: 'it returns false'. Refute it at one input. -/
def hyperMatchesWrong : ChangeSpec := { name := "hyperMatches", fn := fun _ => fun
  | [d1, d2, d3] => { results := [.lit (.bool false)], args := [d1, d2, d3] }
  | _ => none }
def HyperMatchesWrongFalsely : Prop := hyperMatchesRow.holds Tryz.pinned (OpenSpec.ofChange hyperMatchesWrong)

/-- 'environlaw19.HyperMeans': WHATEVER THE INPUT: true; the input reads as it did. -/
def hyperMeansSpec : ChangeSpec := { name := "hyperMeans", fn := fun _ => fun
  | [d1, d2] => { results := [.lit (.bool true)], args := [d1, d2] }
  | _ => none }
def hyperMeansRow : OpenClaim := { program := "ytiniifbmeobmgaagreatdoor", sum := "13be3e762401cceee47d1d669f37ea14d84a51ed2cf50bbb7b0e3bbd6ba1e3cb", func := "environ/environlaw19.HyperMeans", spec := "hyperMeans", inPlace := ["internal/bytealg.IndexByteString", "internal/bytealg.CountString", "internal/bytealg.IndexString", "internal/bytealg.abigen_runtime_cmpstring", "internal/abi.NoEscape", "internal/bytealg.MakeNoZero"], unfollowed := true, recurses := true, named := ["unicode/utf8.first", "unicode/utf8.acceptRanges", "internal/bytealg.MaxLen"], apart := false, laid := [("unicode/utf8.acceptRanges", laid_unicode_utf8_acceptRanges), ("unicode/utf8.first", laid_unicode_utf8_first)] }
def HyperMeansSaid : Prop := hyperMeansRow.holds Tryz.pinned (OpenSpec.ofChange hyperMeansSpec)

/-- ITS FALSE NEIGHBOUR: 'it returns false'. Refute it at one input. -/
def hyperMeansWrong : ChangeSpec := { name := "hyperMeans", fn := fun _ => fun
  | [d1, d2] => { results := [.lit (.bool false)], args := [d1, d2] }
  | _ => none }
def HyperMeansWrongFalsely : Prop := hyperMeansRow.holds Tryz.pinned (OpenSpec.ofChange hyperMeansWrong)

/-- 'environlaw19.HyperWrites': WHATEVER THE INPUT: true; the input reads as it did. -/
def hyperWritesSpec : ChangeSpec := { name := "hyperWrites", fn := fun _ => fun
  | [d] => { results := [.lit (.bool true)], args := [d] }
  | _ => none }
def hyperWritesRow : OpenClaim := { program := "ytiniifbmeobmgaagreatdoor", sum := "13be3e762401cceee47d1d669f37ea14d84a51ed2cf50bbb7b0e3bbd6ba1e3cb", func := "environ/environlaw19.HyperWrites", spec := "hyperWrites", inPlace := ["internal/bytealg.IndexByteString", "internal/bytealg.CountString", "internal/bytealg.IndexString", "internal/bytealg.abigen_runtime_cmpstring", "internal/abi.NoEscape", "internal/bytealg.MakeNoZero"], unfollowed := true, recurses := true, named := ["unicode/utf8.first", "unicode/utf8.acceptRanges", "internal/bytealg.MaxLen"], apart := false, laid := [("unicode/utf8.acceptRanges", laid_unicode_utf8_acceptRanges), ("unicode/utf8.first", laid_unicode_utf8_first)] }
def HyperWritesSaid : Prop := hyperWritesRow.holds Tryz.pinned (OpenSpec.ofChange hyperWritesSpec)

/-- ITS FALSE NEIGHBOUR: 'it returns false'. Refute it at one input. -/
def hyperWritesWrong : ChangeSpec := { name := "hyperWrites", fn := fun _ => fun
  | [d] => { results := [.lit (.bool false)], args := [d] }
  | _ => none }
def HyperWritesWrongFalsely : Prop := hyperWritesRow.holds Tryz.pinned (OpenSpec.ofChange hyperWritesWrong)

/-- 'environlaw19.HyperBack': WHATEVER THE INPUT: true; the input reads as it did. -/
def hyperBackSpec : ChangeSpec := { name := "hyperBack", fn := fun _ => fun
  | [d] => { results := [.lit (.bool true)], args := [d] }
  | _ => none }
def hyperBackRow : OpenClaim := { program := "ytiniifbmeobmgaagreatdoor", sum := "13be3e762401cceee47d1d669f37ea14d84a51ed2cf50bbb7b0e3bbd6ba1e3cb", func := "environ/environlaw19.HyperBack", spec := "hyperBack", inPlace := ["internal/bytealg.IndexByteString", "internal/bytealg.CountString", "internal/bytealg.IndexString", "internal/bytealg.abigen_runtime_cmpstring", "internal/abi.NoEscape", "internal/bytealg.MakeNoZero"], unfollowed := true, recurses := true, named := ["unicode/utf8.first", "unicode/utf8.acceptRanges", "internal/bytealg.MaxLen"], apart := false, laid := [("unicode/utf8.acceptRanges", laid_unicode_utf8_acceptRanges), ("unicode/utf8.first", laid_unicode_utf8_first)] }
def HyperBackSaid : Prop := hyperBackRow.holds Tryz.pinned (OpenSpec.ofChange hyperBackSpec)

/-- ITS FALSE NEIGHBOUR: 'it returns false'. Refute it at one input. -/
def hyperBackWrong : ChangeSpec := { name := "hyperBack", fn := fun _ => fun
  | [d] => { results := [.lit (.bool false)], args := [d] }
  | _ => none }
def HyperBackWrongFalsely : Prop := hyperBackRow.holds Tryz.pinned (OpenSpec.ofChange hyperBackWrong)

/-- 'environlaw19.HyperRenames': WHATEVER THE INPUT: true; the input reads as it did. -/
def hyperRenamesSpec : ChangeSpec := { name := "hyperRenames", fn := fun _ => fun
  | [d1, d2, d3] => { results := [.lit (.bool true)], args := [d1, d2, d3] }
  | _ => none }
def hyperRenamesRow : OpenClaim := { program := "ytiniifbmeobmgaagreatdoor", sum := "13be3e762401cceee47d1d669f37ea14d84a51ed2cf50bbb7b0e3bbd6ba1e3cb", func := "environ/environlaw19.HyperRenames", spec := "hyperRenames", inPlace := ["internal/bytealg.IndexByteString", "internal/bytealg.CountString", "internal/bytealg.IndexString", "internal/bytealg.abigen_runtime_cmpstring", "internal/abi.NoEscape", "internal/bytealg.MakeNoZero"], unfollowed := true, recurses := true, named := ["unicode/utf8.first", "unicode/utf8.acceptRanges", "internal/bytealg.MaxLen"], apart := false, laid := [("unicode/utf8.acceptRanges", laid_unicode_utf8_acceptRanges), ("unicode/utf8.first", laid_unicode_utf8_first)] }
def HyperRenamesSaid : Prop := hyperRenamesRow.holds Tryz.pinned (OpenSpec.ofChange hyperRenamesSpec)

/-- ITS FALSE NEIGHBOUR: 'it returns false'. Refute it at one input. -/
def hyperRenamesWrong : ChangeSpec := { name := "hyperRenames", fn := fun _ => fun
  | [d1, d2, d3] => { results := [.lit (.bool false)], args := [d1, d2, d3] }
  | _ => none }
def HyperRenamesWrongFalsely : Prop := hyperRenamesRow.holds Tryz.pinned (OpenSpec.ofChange hyperRenamesWrong)

/-- 'environlaw19.HyperVerifies': WHATEVER THE INPUT: true; the input reads as it did. -/
def hyperVerifiesSpec : ChangeSpec := { name := "hyperVerifies", fn := fun _ => fun
  | [d1, d2] => { results := [.lit (.bool true)], args := [d1, d2] }
  | _ => none }
def hyperVerifiesRow : OpenClaim := { program := "ytiniifbmeobmgaagreatdoor", sum := "13be3e762401cceee47d1d669f37ea14d84a51ed2cf50bbb7b0e3bbd6ba1e3cb", func := "environ/environlaw19.HyperVerifies", spec := "hyperVerifies", inPlace := ["internal/bytealg.IndexByteString", "internal/bytealg.CountString", "internal/bytealg.IndexString", "internal/bytealg.abigen_runtime_cmpstring", "internal/abi.NoEscape", "internal/bytealg.MakeNoZero"], unfollowed := true, recurses := true, named := ["unicode/utf8.first", "unicode/utf8.acceptRanges", "internal/bytealg.MaxLen"], loops := true, apart := false, laid := [("unicode/utf8.acceptRanges", laid_unicode_utf8_acceptRanges), ("unicode/utf8.first", laid_unicode_utf8_first)] }
def HyperVerifiesSaid : Prop := hyperVerifiesRow.holds Tryz.pinned (OpenSpec.ofChange hyperVerifiesSpec)

/-- ITS FALSE NEIGHBOUR: 'it returns false'. Refute it at one input. -/
def hyperVerifiesWrong : ChangeSpec := { name := "hyperVerifies", fn := fun _ => fun
  | [d1, d2] => { results := [.lit (.bool false)], args := [d1, d2] }
  | _ => none }
def HyperVerifiesWrongFalsely : Prop := hyperVerifiesRow.holds Tryz.pinned (OpenSpec.ofChange hyperVerifiesWrong)

/-- 'environlaw19.HyperLeaves': WHATEVER THE INPUT: true; the input reads as it did. -/
def hyperLeavesSpec : ChangeSpec := { name := "hyperLeaves", fn := fun _ => fun
  | [d1, d2, d3] => { results := [.lit (.bool true)], args := [d1, d2, d3] }
  | _ => none }
def hyperLeavesRow : OpenClaim := { program := "ytiniifbmeobmgaagreatdoor", sum := "13be3e762401cceee47d1d669f37ea14d84a51ed2cf50bbb7b0e3bbd6ba1e3cb", func := "environ/environlaw19.HyperLeaves", spec := "hyperLeaves", inPlace := ["internal/bytealg.IndexByteString", "internal/bytealg.CountString", "internal/bytealg.IndexString", "internal/bytealg.abigen_runtime_cmpstring", "internal/abi.NoEscape", "internal/bytealg.MakeNoZero"], unfollowed := true, recurses := true, named := ["unicode/utf8.first", "unicode/utf8.acceptRanges", "internal/bytealg.MaxLen"], loops := true, apart := false, laid := [("unicode/utf8.acceptRanges", laid_unicode_utf8_acceptRanges), ("unicode/utf8.first", laid_unicode_utf8_first)] }
def HyperLeavesSaid : Prop := hyperLeavesRow.holds Tryz.pinned (OpenSpec.ofChange hyperLeavesSpec)

/-- ITS FALSE NEIGHBOUR: 'it returns false'. Refute it at one input. -/
def hyperLeavesWrong : ChangeSpec := { name := "hyperLeaves", fn := fun _ => fun
  | [d1, d2, d3] => { results := [.lit (.bool false)], args := [d1, d2, d3] }
  | _ => none }
def HyperLeavesWrongFalsely : Prop := hyperLeavesRow.holds Tryz.pinned (OpenSpec.ofChange hyperLeavesWrong)

/- THE SECOND FORM. 'bulk': how many values and letters a reading holds, each counted each time it is reached (what is shared counts as often as it is met; a slice's spare places count too). A statement '..UptoSaid' is the law's where the arguments, and the package variables that the reading takes, are together of bulk at most 1048576: NARROWER than '..Said'. Prove '..Said' where nothing that the law and all that it calls make is longer than what came in: it says more and counts as full. Else prove '..UptoSaid'. A law counts once. -/
mutual
def uptoBulk {H : Type} : DataW H → Nat
  | .lit (.string bytes) => bytes.length + 1
  | .lit _ => 1
  | .nil => 1
  | .ptr d => uptoBulk d + 1
  | .slice elems spare => uptoBulkAll elems + uptoBulkAll spare + 1
  | .agg parts => uptoBulkAll parts + 1
  | .iface _ d => uptoBulk d + 1
  | .map entries => uptoBulkEntries entries + 1
  | .held _ => 1
def uptoBulkAll {H : Type} : List (DataW H) → Nat
  | [] => 0
  | d :: r => uptoBulk d + uptoBulkAll r
def uptoBulkEntries {H : Type} : List (Lit × DataW H) → Nat
  | [] => 0
  | x :: r => uptoBulkEntry x + uptoBulkEntries r
def uptoBulkEntry {H : Type} : Lit × DataW H → Nat
  | (.string bytes, d) => bytes.length + uptoBulk d + 1
  | (_, d) => uptoBulk d + 1
 end
def uptoSmall : (H : Type) → List (DataW H) → Bool := fun _ ds => decide (uptoBulkAll ds ≤ 1048576)
def OpenSpec.upto (s : _root_.Go.ChangeSpec) : _root_.Go.OpenSpec := { _root_.Go.OpenSpec.ofChange s with cond := some uptoSmall }

/-- 'environlaw19.HyperChecks', WHERE WHAT IT READS IS OF BULK AT MOST 1048576: true; the input reads as it did. -/
def hyperChecksUptoRow : OpenClaim := { program := "ytiniifbmeobmgaagreatdoor", sum := "13be3e762401cceee47d1d669f37ea14d84a51ed2cf50bbb7b0e3bbd6ba1e3cb", func := "environ/environlaw19.HyperChecks", spec := "hyperChecks", inPlace := ["internal/bytealg.IndexByteString", "internal/bytealg.CountString", "internal/bytealg.IndexString", "internal/bytealg.abigen_runtime_cmpstring", "internal/abi.NoEscape", "internal/bytealg.MakeNoZero"], unfollowed := true, recurses := true, named := ["unicode/utf8.first", "unicode/utf8.acceptRanges", "internal/bytealg.MaxLen"], apart := false, laid := [("unicode/utf8.acceptRanges", laid_unicode_utf8_acceptRanges), ("unicode/utf8.first", laid_unicode_utf8_first)], narrowed := true }
def HyperChecksUptoSaid : Prop := hyperChecksUptoRow.holds Tryz.pinned (OpenSpec.upto hyperChecksSpec)

/-- 'environlaw19.HyperProduces', WHERE WHAT IT READS IS OF BULK AT MOST 1048576: true; the input reads as it did. -/
def hyperProducesUptoRow : OpenClaim := { program := "ytiniifbmeobmgaagreatdoor", sum := "13be3e762401cceee47d1d669f37ea14d84a51ed2cf50bbb7b0e3bbd6ba1e3cb", func := "environ/environlaw19.HyperProduces", spec := "hyperProduces", inPlace := ["internal/bytealg.IndexByteString", "internal/bytealg.CountString", "internal/bytealg.IndexString", "internal/bytealg.abigen_runtime_cmpstring", "internal/abi.NoEscape", "internal/bytealg.MakeNoZero"], unfollowed := true, recurses := true, named := ["unicode/utf8.first", "unicode/utf8.acceptRanges", "internal/bytealg.MaxLen"], apart := false, laid := [("unicode/utf8.acceptRanges", laid_unicode_utf8_acceptRanges), ("unicode/utf8.first", laid_unicode_utf8_first)], narrowed := true }
def HyperProducesUptoSaid : Prop := hyperProducesUptoRow.holds Tryz.pinned (OpenSpec.upto hyperProducesSpec)

/-- 'environlaw19.HyperReads', WHERE WHAT IT READS IS OF BULK AT MOST 1048576: true; the input reads as it did. -/
def hyperReadsUptoRow : OpenClaim := { program := "ytiniifbmeobmgaagreatdoor", sum := "13be3e762401cceee47d1d669f37ea14d84a51ed2cf50bbb7b0e3bbd6ba1e3cb", func := "environ/environlaw19.HyperReads", spec := "hyperReads", inPlace := ["internal/bytealg.IndexByteString", "internal/bytealg.CountString", "internal/bytealg.IndexString", "internal/bytealg.abigen_runtime_cmpstring", "internal/abi.NoEscape", "internal/bytealg.MakeNoZero"], unfollowed := true, recurses := true, named := ["unicode/utf8.first", "unicode/utf8.acceptRanges", "internal/bytealg.MaxLen"], apart := false, laid := [("unicode/utf8.acceptRanges", laid_unicode_utf8_acceptRanges), ("unicode/utf8.first", laid_unicode_utf8_first)], narrowed := true }
def HyperReadsUptoSaid : Prop := hyperReadsUptoRow.holds Tryz.pinned (OpenSpec.upto hyperReadsSpec)

/-- 'environlaw19.HyperMatches', WHERE WHAT IT READS IS OF BULK AT MOST 1048576: true; the input reads as it did. -/
def hyperMatchesUptoRow : OpenClaim := { program := "ytiniifbmeobmgaagreatdoor", sum := "13be3e762401cceee47d1d669f37ea14d84a51ed2cf50bbb7b0e3bbd6ba1e3cb", func := "environ/environlaw19.HyperMatches", spec := "hyperMatches", inPlace := ["internal/bytealg.IndexByteString", "internal/bytealg.CountString", "internal/bytealg.IndexString", "internal/bytealg.abigen_runtime_cmpstring", "internal/abi.NoEscape", "internal/bytealg.MakeNoZero"], unfollowed := true, recurses := true, named := ["unicode/utf8.first", "unicode/utf8.acceptRanges", "internal/bytealg.MaxLen"], apart := false, laid := [("unicode/utf8.acceptRanges", laid_unicode_utf8_acceptRanges), ("unicode/utf8.first", laid_unicode_utf8_first)], narrowed := true }
def HyperMatchesUptoSaid : Prop := hyperMatchesUptoRow.holds Tryz.pinned (OpenSpec.upto hyperMatchesSpec)

/-- 'environlaw19.HyperMeans', WHERE WHAT IT READS IS OF BULK AT MOST 1048576: true; the input reads as it did. -/
def hyperMeansUptoRow : OpenClaim := { program := "ytiniifbmeobmgaagreatdoor", sum := "13be3e762401cceee47d1d669f37ea14d84a51ed2cf50bbb7b0e3bbd6ba1e3cb", func := "environ/environlaw19.HyperMeans", spec := "hyperMeans", inPlace := ["internal/bytealg.IndexByteString", "internal/bytealg.CountString", "internal/bytealg.IndexString", "internal/bytealg.abigen_runtime_cmpstring", "internal/abi.NoEscape", "internal/bytealg.MakeNoZero"], unfollowed := true, recurses := true, named := ["unicode/utf8.first", "unicode/utf8.acceptRanges", "internal/bytealg.MaxLen"], apart := false, laid := [("unicode/utf8.acceptRanges", laid_unicode_utf8_acceptRanges), ("unicode/utf8.first", laid_unicode_utf8_first)], narrowed := true }
def HyperMeansUptoSaid : Prop := hyperMeansUptoRow.holds Tryz.pinned (OpenSpec.upto hyperMeansSpec)

/-- 'environlaw19.HyperWrites', WHERE WHAT IT READS IS OF BULK AT MOST 1048576: true; the input reads as it did. -/
def hyperWritesUptoRow : OpenClaim := { program := "ytiniifbmeobmgaagreatdoor", sum := "13be3e762401cceee47d1d669f37ea14d84a51ed2cf50bbb7b0e3bbd6ba1e3cb", func := "environ/environlaw19.HyperWrites", spec := "hyperWrites", inPlace := ["internal/bytealg.IndexByteString", "internal/bytealg.CountString", "internal/bytealg.IndexString", "internal/bytealg.abigen_runtime_cmpstring", "internal/abi.NoEscape", "internal/bytealg.MakeNoZero"], unfollowed := true, recurses := true, named := ["unicode/utf8.first", "unicode/utf8.acceptRanges", "internal/bytealg.MaxLen"], apart := false, laid := [("unicode/utf8.acceptRanges", laid_unicode_utf8_acceptRanges), ("unicode/utf8.first", laid_unicode_utf8_first)], narrowed := true }
def HyperWritesUptoSaid : Prop := hyperWritesUptoRow.holds Tryz.pinned (OpenSpec.upto hyperWritesSpec)

/-- 'environlaw19.HyperBack', WHERE WHAT IT READS IS OF BULK AT MOST 1048576: true; the input reads as it did. -/
def hyperBackUptoRow : OpenClaim := { program := "ytiniifbmeobmgaagreatdoor", sum := "13be3e762401cceee47d1d669f37ea14d84a51ed2cf50bbb7b0e3bbd6ba1e3cb", func := "environ/environlaw19.HyperBack", spec := "hyperBack", inPlace := ["internal/bytealg.IndexByteString", "internal/bytealg.CountString", "internal/bytealg.IndexString", "internal/bytealg.abigen_runtime_cmpstring", "internal/abi.NoEscape", "internal/bytealg.MakeNoZero"], unfollowed := true, recurses := true, named := ["unicode/utf8.first", "unicode/utf8.acceptRanges", "internal/bytealg.MaxLen"], apart := false, laid := [("unicode/utf8.acceptRanges", laid_unicode_utf8_acceptRanges), ("unicode/utf8.first", laid_unicode_utf8_first)], narrowed := true }
def HyperBackUptoSaid : Prop := hyperBackUptoRow.holds Tryz.pinned (OpenSpec.upto hyperBackSpec)

/-- 'environlaw19.HyperRenames', WHERE WHAT IT READS IS OF BULK AT MOST 1048576: true; the input reads as it did. -/
def hyperRenamesUptoRow : OpenClaim := { program := "ytiniifbmeobmgaagreatdoor", sum := "13be3e762401cceee47d1d669f37ea14d84a51ed2cf50bbb7b0e3bbd6ba1e3cb", func := "environ/environlaw19.HyperRenames", spec := "hyperRenames", inPlace := ["internal/bytealg.IndexByteString", "internal/bytealg.CountString", "internal/bytealg.IndexString", "internal/bytealg.abigen_runtime_cmpstring", "internal/abi.NoEscape", "internal/bytealg.MakeNoZero"], unfollowed := true, recurses := true, named := ["unicode/utf8.first", "unicode/utf8.acceptRanges", "internal/bytealg.MaxLen"], apart := false, laid := [("unicode/utf8.acceptRanges", laid_unicode_utf8_acceptRanges), ("unicode/utf8.first", laid_unicode_utf8_first)], narrowed := true }
def HyperRenamesUptoSaid : Prop := hyperRenamesUptoRow.holds Tryz.pinned (OpenSpec.upto hyperRenamesSpec)

/-- 'environlaw19.HyperVerifies', WHERE WHAT IT READS IS OF BULK AT MOST 1048576: true; the input reads as it did. -/
def hyperVerifiesUptoRow : OpenClaim := { program := "ytiniifbmeobmgaagreatdoor", sum := "13be3e762401cceee47d1d669f37ea14d84a51ed2cf50bbb7b0e3bbd6ba1e3cb", func := "environ/environlaw19.HyperVerifies", spec := "hyperVerifies", inPlace := ["internal/bytealg.IndexByteString", "internal/bytealg.CountString", "internal/bytealg.IndexString", "internal/bytealg.abigen_runtime_cmpstring", "internal/abi.NoEscape", "internal/bytealg.MakeNoZero"], unfollowed := true, recurses := true, named := ["unicode/utf8.first", "unicode/utf8.acceptRanges", "internal/bytealg.MaxLen"], loops := true, apart := false, laid := [("unicode/utf8.acceptRanges", laid_unicode_utf8_acceptRanges), ("unicode/utf8.first", laid_unicode_utf8_first)], narrowed := true }
def HyperVerifiesUptoSaid : Prop := hyperVerifiesUptoRow.holds Tryz.pinned (OpenSpec.upto hyperVerifiesSpec)

/-- 'environlaw19.HyperLeaves', WHERE WHAT IT READS IS OF BULK AT MOST 1048576: true; the input reads as it did. -/
def hyperLeavesUptoRow : OpenClaim := { program := "ytiniifbmeobmgaagreatdoor", sum := "13be3e762401cceee47d1d669f37ea14d84a51ed2cf50bbb7b0e3bbd6ba1e3cb", func := "environ/environlaw19.HyperLeaves", spec := "hyperLeaves", inPlace := ["internal/bytealg.IndexByteString", "internal/bytealg.CountString", "internal/bytealg.IndexString", "internal/bytealg.abigen_runtime_cmpstring", "internal/abi.NoEscape", "internal/bytealg.MakeNoZero"], unfollowed := true, recurses := true, named := ["unicode/utf8.first", "unicode/utf8.acceptRanges", "internal/bytealg.MaxLen"], loops := true, apart := false, laid := [("unicode/utf8.acceptRanges", laid_unicode_utf8_acceptRanges), ("unicode/utf8.first", laid_unicode_utf8_first)], narrowed := true }
def HyperLeavesUptoSaid : Prop := hyperLeavesUptoRow.holds Tryz.pinned (OpenSpec.upto hyperLeavesSpec)

end Rows
end Go.Proofs.YtiniifbmeobmgaaGreatDoor
