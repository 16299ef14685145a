/- PROVED HERE: for any grammar, notion, tree and other text (together of bulk at most 1048576), the law HyperLeaves returns true and leaves its arguments as they were: the text that Verify returns is that of the leaves, no other notion is accepted, and by each binding of Matches the parts mean the text. The program's own code is run by the model; strings.Split, Join, IndexByte, Compare, slices.Sort and Compact by the kit's contracts. -/
import Derived.Test.YtiniifbmeobmgaaGreatDoorRowKitT
import Derived.Test.YtiniifbmeobmgaaGreatDoorLvB
import Derived.Test.YtiniifbmeobmgaaGreatDoorSpecAw
set_option linter.unusedVariables false
set_option linter.unusedSimpArgs false
namespace Go.Proofs.YtiniifbmeobmgaaGreatDoor.hyperLeaves
open Go Go.Abs Go.ChangeShapes Go.WideShapes Go.ChangeAt Go.RowKit

set_option maxRecDepth 100000 in
theorem contract (H : Type) (enc : TypeId × Value → H) (Wd : World) (base : Nat) (args : Array Value) (ds gs : List (DataW H)) (before : List MemPlace)
    (hval : ∀ (j : Nat) t v, Tryz.f12.params[j]? = some t → args[j]? = some v → Value.okWide Tryz.prog Wd .any base t v)
    (hW : DataW.Whole enc Tryz.prog Tryz.f12.params.toList Rows.hyperLeavesSpec.vars false Wd args.toList ds gs before) (hk : Rows.uptoSmall H (ds ++ gs) = true) (hsh : Wd.ShapedOpen Tryz.prog) :
    Calls Tryz.prog 12 args Wd fun e W' => ∃ v, e = .returned v ∧ Rows.hyperLeavesSpec.post enc Tryz.prog Tryz.f12 false true false false Wd args v W' := by
  have hW' := hW
  obtain ⟨p, q, hA0, hV, rfl, hfz, hnd⟩ := hW
  have hA : DataW.TrodAll enc Tryz.prog Wd 0 (fun _ => true) true Tryz.f12.params.toList args.toList ds p := hA0
  rw [Tryz.params12] at hA hval
  obtain ⟨v0, vs0, d0, ds0, p0, q0, hargs, rfl, rfl, h0, r0⟩ := trodAll_cons hA
  obtain ⟨v1, vs1, d1, ds1, p1, q1, rfl, rfl, rfl, h1, r1⟩ := trodAll_cons r0
  obtain ⟨v2, vs2, d2, ds2, p2, q2, rfl, rfl, rfl, h2, r2⟩ := trodAll_cons r1
  obtain ⟨rfl, rfl, rfl⟩ := trodAll_nil r2
  obtain rfl : args = #[v0, v1, v2] := by cases args; simp_all
  obtain ⟨rfl, rfl⟩ := trodVars_none hV
  obtain ⟨cs0, rfl, hcs0⟩ := okWide_struct Tryz.underlying25 (hval 0 25 v0 rfl rfl)
  have hcs0 : cs0.size = 2 := hcs0.trans (by kernel_rfl)
  obtain ⟨cs1, rfl, hcs1⟩ := okWide_struct Tryz.underlying91 (hval 1 91 v1 rfl rfl)
  have hcs1 : cs1.size = 5 := hcs1.trans (by kernel_rfl)
  obtain ⟨s2, rfl⟩ := okWide_string Tryz.underlying9 (hval 2 9 v2 rfl rfl)
  have lt0 : ∀ x ∈ p0, x.block < Wd.heap.size := by obtain ⟨m, hm⟩ := h0; exact DataW.trod_lt m _ _ _ hm
  have lt1 : ∀ x ∈ p1, x.block < Wd.heap.size := by obtain ⟨m, hm⟩ := h1; exact DataW.trod_lt m _ _ _ hm
  have lt2 : ∀ x ∈ p2, x.block < Wd.heap.size := by obtain ⟨m, hm⟩ := h2; exact DataW.trod_lt m _ _ _ hm
  obtain ⟨x0, rx0, dx0⟩ := opensGram.arg (by simpa [Value.cells] using hcs0) (.inr ⟨_, rfl⟩) h0 (fun _ a => ⟨_, rfl⟩) (fun h => by cases h)
  obtain ⟨x1, rx1, dx1⟩ := opensGiven.arg (by simpa [Value.cells] using hcs1) (.inr ⟨_, rfl⟩) h1 (fun _ a => ⟨_, rfl⟩) (fun h => by cases h)
  obtain ⟨x2, rx2, dx2⟩ := (opens_str Tryz.underlying9 (by kernel_rfl)).arg rfl (.inl rfl) h2 (fun ⟨cs, h⟩ => by cases h) (fun _ a cs h => by cases h)
  have hb := of_decide_eq_true hk
  simp only [Rows.uptoBulkAll, List.append_nil, List.nil_append, List.cons_append] at hb
  have hb0 : Rows.uptoBulk d0 ≤ 1048576 := by omega
  have hb1 : Rows.uptoBulk d1 ≤ 1048576 := by omega
  have hb2 : Rows.uptoBulk d2 ≤ 1048576 := by omega
  simp only [List.append_nil] at hW'
  obtain ⟨n1, t1⟩ := x1
  rw [pvGiven_eq] at rx1
  obtain ⟨b1, b2, b3⟩ := given_bulk dx1 hb1
  have law := c12 (fun σ hσ => by subst hσ; exact c13) (okGram_of dx0 hb0) b1 b2 b3 (bulk_str dx2 hb2)
  refine (law_calls law hsh (vs := #[_, _, _]) rfl (fun i x v hx hv => ?_)).mono fun e W' ⟨he, bel⟩ => ?_
  · match i with
    | 0 => simp at hx hv; subst hx hv; exact rx0
    | 1 => simp at hx hv; subst hx hv; exact rx1
    | 2 => simp at hx hv; subst hx hv; exact rx2
    | i + 3 => simp at hx
  · subst he
    exact ⟨_, rfl, _, _, _, [], _, [], hW', trodAll_mk1 (shut_bool Tryz.underlying4 _),
      (trodAll_cons_mk (Below.trod laidOut (by kernel_rfl) (of_decide_eq_true (by kernel_rfl)) h0 bel lt0) (trodAll_cons_mk (Below.trod laidOut (by kernel_rfl) (of_decide_eq_true (by kernel_rfl)) h1 bel lt1) (trodAll_cons_mk (Below.trod laidOut (by kernel_rfl) (of_decide_eq_true (by kernel_rfl)) h2 bel lt2) trodAll_mk0))), rfl, bel.frame _, fun h => by cases h⟩

def wArgs : Array Value := #[.agg #[.slice none 0 0, .slice none 0 0], .agg #[.string ⟨#[]⟩, .int .i64 0, .string ⟨#[]⟩, .slice none 0 0, .slice none 0 0], .string ⟨#[]⟩]

theorem laid_met (os : Os) : laidMet Tryz.prog Rows.hyperLeavesUptoRow.laid ((laidWorld os).forCall (fun _ _ => 0) ⟨#[], wArgs, []⟩).memory :=
  laidMet_of_run' 8 (by kernel_rfl) (by kernel_rfl)

theorem reads (os : Os) {H : Type} (enc : TypeId × Value → H) : ∃ places, DataW.whole enc Tryz.prog ((laidWorld os).forCall (fun _ _ => 0) ⟨#[], wArgs, []⟩).memory Tryz.f12.params.toList Rows.hyperLeavesSpec.vars false wArgs.toList 8 = some ([.agg [.nil, .nil], .agg [.lit (.string []), .agg [.lit (.int .i64 0), .lit (.string []), .nil, .nil]], .lit (.string [])], [], places) :=
  ⟨[], by kernel_rfl⟩

set_option maxRecDepth 100000 in
theorem lifted (os : Os) (started : os.Started) (H : Type) (enc : TypeId × Value → H) (F : Stop.Interp) :
    ReturnsInHanded {} Tryz.checked os 12 .any ((Rows.OpenSpec.upto Rows.hyperLeavesSpec).preRow enc Tryz.prog Tryz.f12 Rows.hyperLeavesUptoRow.domain false Rows.hyperLeavesUptoRow.laid) (((Rows.OpenSpec.upto Rows.hyperLeavesSpec).at F).post enc Tryz.prog Tryz.f12 false true false false) := by
  obtain ⟨places, hx⟩ := reads os enc
  refine returnsInHanded_of_row (C := Tryz.checked) (s := Rows.OpenSpec.upto Rows.hyperLeavesSpec) own started (by kernel_rfl) Tryz.func12
    (witness_row_at (enc := enc) (C := Tryz.checked) false (laidWorld os) wArgs rfl (by kernel_rfl) (by kernel_rfl) (by kernel_rfl)
      (OpenSpec.preRow_of_cond 8 hx (by kernel_rfl) (fun k hk => by cases hk; kernel_rfl) (by kernel_rfl) (laid_met os))) ?_
  intro W base args ds gs before hval hW _ hcond _ hL hsh _
  exact contract H enc W base args ds gs before hval hW (hcond _ rfl) hsh

theorem saidUpto : Rows.HyperLeavesUptoSaid :=
  OpenClaim.holds_of_cond 12 Tryz.f12 rfl rfl rfl rfl rfl rfl rfl ⟨rfl, rfl, rfl, rfl, rfl⟩ rfl rfl rfl rfl rfl (by kernel_rfl) Tryz.func12 (by kernel_rfl)
    (of_decide_eq_true (by kernel_rfl)) (by unfold Func.isWrapper; first | (rw [if_pos (by decide +kernel)]; kernel_rfl) | (rw [if_neg (by decide +kernel)]; exact ⟨rfl, rfl⟩))
    (fun os started H enc _ F => by rw [OpenClaim.pre_eq_preRow]; exact lifted os started H enc F)

theorem plain (f : FuncId) (fn : Func) (hf : Tryz.pinned.checked.prog.funcNamed "environ/environlaw19.HyperLeaves" = some f) (hfn : Tryz.pinned.checked.prog.funcs[f]? = some fn) :
    true = Tryz.pinned.checked.prog.looks [] ∧ ∀ (j : Nat) t, fn.params[j]? = some t → Tryz.pinned.checked.prog.wantsStandIn t = false := by
  obtain rfl : f = 12 := Option.some.inj ((show Tryz.prog.funcNamed "environ/environlaw19.HyperLeaves" = some 12 by kernel_rfl).symm.trans hf) |>.symm
  obtain rfl : fn = Tryz.f12 := (Option.some.inj (Tryz.func12.symm.trans hfn)).symm
  refine ⟨by kernel_rfl, fun j t ht => ?_⟩
  rw [Tryz.params12] at ht
  match j with
  | 0 => obtain rfl : t = 25 := by simpa using ht.symm
         exact (show Tryz.prog.wantsStandIn 25 = false by kernel_rfl)
  | 1 => obtain rfl : t = 91 := by simpa using ht.symm
         exact (show Tryz.prog.wantsStandIn 91 = false by kernel_rfl)
  | 2 => obtain rfl : t = 9 := by simpa using ht.symm
         exact (show Tryz.prog.wantsStandIn 9 = false by kernel_rfl)
  | j + 3 => simp at ht

end Go.Proofs.YtiniifbmeobmgaaGreatDoor.hyperLeaves
namespace Go.Proofs.YtiniifbmeobmgaaGreatDoor
open Go Go.Abs
/-- THE CARD. -/
theorem hyperLeaves_card : Rows.HyperLeavesUptoCardSaid :=
  Claim7.holds_tied_plain_at .later [] _ _ _ _ hyperLeaves.saidUpto (fun _ h => by cases h) (by kernel_rfl) (fun _ h => by cases h) hyperLeavesUpto_row_tie rfl ⟨rfl, rfl⟩ (by kernel_rfl) rfl hyperLeaves.plain (by kernel_rfl)
#print axioms hyperLeaves_card
end Go.Proofs.YtiniifbmeobmgaaGreatDoor
