/- PROVED HERE: for any text (of bulk at most 1048576), with and without its sum behind it, the law CodeReads returns true and leaves its arguments as they were: the package's Read gives the program, or the error, that the reference's gives. The program's own code is run by the model; strings.Contains by the kit's contract, the lengths of the tables of the standard environment by closed runs of the model's own code. -/
import Derived.Test.YtgghfcchanilpaaGreatDoorFnB
import Derived.Test.YtgghfcchanilpaaGreatDoorRfH
set_option linter.unusedVariables false
set_option linter.unusedSimpArgs false
namespace Go.Proofs.YtgghfcchanilpaaGreatDoor.codeReads
open Go Go.Abs Go.ChangeShapes Go.WideShapes Go.ChangeAt Go.RowKit
set_option maxRecDepth 100000 in
theorem contract (H : Type) (enc : TypeId × Value → H) (Wd : World) (base : Nat) (args : Array Value) (ds gs : List (DataW H)) (before : List MemPlace)
    (hval : ∀ (j : Nat) t v, Tryz.f9.params[j]? = some t → args[j]? = some v → Value.okWide Tryz.prog Wd .any base t v)
    (hW : DataW.Whole enc Tryz.prog Tryz.f9.params.toList Rows.codeReadsSpec.vars false Wd args.toList ds gs before) (hk : Rows.uptoSmall H (ds ++ gs) = true) (hsh : Wd.ShapedOpen Tryz.prog) (hL : laidMet Tryz.prog UA Wd) :
    Calls Tryz.prog 9 args Wd fun e W' => ∃ v, e = .returned v ∧ Rows.codeReadsSpec.post enc Tryz.prog Tryz.f9 false true false false Wd args v W' := by
  have hW' := hW
  obtain ⟨p, q, hA0, hV, rfl, hfz, hnd⟩ := hW
  have hA : DataW.TrodAll enc Tryz.prog Wd 0 (fun _ => true) true Tryz.f9.params.toList args.toList ds p := hA0
  rw [Tryz.params9] at hA hval
  obtain ⟨v0, vs0, d0, ds0, p0, q0, hargs, rfl, rfl, h0, r0⟩ := trodAll_cons hA
  obtain ⟨v1, vs1, d1, ds1, p1, q1, rfl, rfl, rfl, h1, r1⟩ := trodAll_cons r0
  obtain ⟨rfl, rfl, rfl⟩ := trodAll_nil r1
  obtain rfl : args = #[v0, v1] := by cases args; simp_all
  obtain ⟨rfl, rfl⟩ := trodVars_none hV
  obtain ⟨s0, rfl⟩ := okWide_string Tryz.underlying9 (hval 0 9 v0 rfl rfl)
  obtain ⟨b1, rfl⟩ := okWide_bool Tryz.underlying4 (hval 1 4 v1 rfl rfl)
  have lt0 : ∀ x ∈ p0, x.block < Wd.heap.size := by obtain ⟨m, hm⟩ := h0; exact DataW.trod_lt m _ _ _ hm
  have lt1 : ∀ x ∈ p1, x.block < Wd.heap.size := by obtain ⟨m, hm⟩ := h1; exact DataW.trod_lt m _ _ _ hm
  obtain ⟨x0, rx0, dx0⟩ := oStr.arg rfl (.inl rfl) h0 (fun ⟨cs, h⟩ => by cases h) (fun _ a cs h => by cases h)
  obtain ⟨x1, rx1, dx1⟩ := qq.arg rfl (.inl rfl) h1 (fun ⟨cs, h⟩ => by cases h) (fun _ a cs h => by cases h)
  have hb := of_decide_eq_true hk
  simp only [Rows.uptoBulkAll, List.append_nil, List.nil_append, List.cons_append] at hb
  have hb0 : Rows.uptoBulk d0 ≤ 1048576 := by omega
  have hb1 : Rows.uptoBulk d1 ≤ 1048576 := by omega
  simp only [List.append_nil] at hW'
  have law := c9 x0 x1
  refine (Hl (law _ rfl) hsh hL (vs := #[_, _]) rfl (fun i x v hx hv => ?_)).mono fun e W' ⟨he, bel⟩ => ?_
  · match i with
    | 0 => simp at hx hv; subst hx hv; exact rx0
    | 1 => simp at hx hv; subst hx hv; exact rx1
    | i + 2 => simp at hx
  · subst he
    exact ⟨_, rfl, _, _, _, [], _, [], hW', trodAll_mk1 (shut_bool Tryz.underlying4 _),
      (trodAll_cons_mk (Below.trod laidOut (by kernel_rfl) (of_decide_eq_true (by kernel_rfl)) h0 bel lt0) (trodAll_cons_mk (Below.trod laidOut (by kernel_rfl) (of_decide_eq_true (by kernel_rfl)) h1 bel lt1) trodAll_mk0)), rfl, bel.frame _, fun h => by cases h⟩
def wArgs : Array Value := #[.string ⟨#[]⟩, .bool false]
theorem reads (os : Os) {H : Type} (enc : TypeId × Value → H) : ∃ places, DataW.whole enc Tryz.prog ((Oe os).forCall (fun _ _ => 0) ⟨#[], wArgs, []⟩).memory Tryz.f9.params.toList Rows.codeReadsSpec.vars false wArgs.toList 8 = some ([.lit (.string []), .lit (.bool false)], [], places) :=
  ⟨[], by kernel_rfl⟩
set_option maxRecDepth 100000 in
theorem lifted (os : Os) (started : os.Started) (H : Type) (enc : TypeId × Value → H) (F : Stop.Interp) :
    ReturnsInHanded {} Tryz.checked os 9 .any ((Rows.OpenSpec.upto Rows.codeReadsSpec).preRow enc Tryz.prog Tryz.f9 Rows.codeReadsUptoRow.domain false Rows.codeReadsUptoRow.laid) (((Rows.OpenSpec.upto Rows.codeReadsSpec).at F).post enc Tryz.prog Tryz.f9 false true false false) := by
  obtain ⟨places, hx⟩ := reads os enc
  refine returnsInHanded_of_row (C := Tryz.checked) (s := Rows.OpenSpec.upto Rows.codeReadsSpec) own started (by kernel_rfl) Tryz.func9
    (witness_row_atRef (enc := enc) (C := Tryz.checked) false (Oe os) wArgs rfl (by kernel_rfl) (by kernel_rfl) (by kernel_rfl)
      (OpenSpec.preRow_of_cond 8 hx (by kernel_rfl) (fun k hk => by cases hk; kernel_rfl) (by kernel_rfl) (Fp os _))) ?_
  intro W base args ds gs before hval hW _ hcond _ hL hsh _
  exact contract H enc W base args ds gs before hval hW (hcond _ rfl) hsh hL
theorem j1 : (Rows.codeReadsUptoRow.wf (OpenSpec.ofChange (OpenSpec.bare (Rows.OpenSpec.upto Rows.codeReadsSpec)))) = true := by kernel_rfl
theorem j4 : (Tryz.f9.params.all (Tryz.prog.readableRec ·)) = true := by kernel_rfl
theorem j5 : (namedTie Tryz.prog Rows.codeReadsUptoRow.named (OpenSpec.bare (Rows.OpenSpec.upto Rows.codeReadsSpec)).vars) = true := by kernel_rfl
theorem j10 : ((Rows.codeReadsUptoRow.inPlace == Tryz.prog.inPlace 9)) = true := by kernel_rfl
theorem j11 : ((Rows.codeReadsUptoRow.unfollowed == Tryz.prog.unfollowed 9)) = true := by kernel_rfl
theorem j12 : ((Rows.codeReadsUptoRow.recurses == Tryz.prog.recurses 9)) = true := by kernel_rfl
theorem j13 : ((Rows.codeReadsUptoRow.named == Tryz.prog.varsNamed 9)) = true := by kernel_rfl
theorem j14 : ((Rows.codeReadsUptoRow.maps == (Tryz.f9.params.toList ++ (OpenSpec.bare (Rows.OpenSpec.upto Rows.codeReadsSpec)).plain.varTypes Tryz.prog).any (Tryz.prog.mapsRec ·))) = true := by kernel_rfl
theorem j15 : ((Rows.codeReadsUptoRow.ifaces == (Tryz.f9.params.toList ++ (OpenSpec.bare (Rows.OpenSpec.upto Rows.codeReadsSpec)).plain.varTypes Tryz.prog).any (Tryz.prog.ifacesRec ·))) = true := by kernel_rfl
theorem j16 : ((Rows.codeReadsUptoRow.mapsOut == Tryz.prog.mapsAmong Tryz.f9.resultTypes.toList)) = true := by kernel_rfl
theorem j17 : ((Rows.codeReadsUptoRow.loops == (Tryz.f9.params.toList ++ (OpenSpec.bare (Rows.OpenSpec.upto Rows.codeReadsSpec)).plain.varTypes Tryz.prog).any (Tryz.prog.loopsFrom ·))) = true := by kernel_rfl
theorem j18 : ((Rows.codeReadsUptoRow.wideKeys == (Tryz.f9.params.toList ++ (OpenSpec.bare (Rows.OpenSpec.upto Rows.codeReadsSpec)).plain.varTypes Tryz.prog ++ Tryz.f9.resultTypes.toList).any (Tryz.prog.wideKeysFrom ·))) = true := by kernel_rfl
theorem j19 : ((OpenSpec.bare (Rows.OpenSpec.upto Rows.codeReadsSpec)).vars.all (Tryz.prog.varReadable ·)) = true := by kernel_rfl
theorem j20 : (Tryz.f9.resultTypes.all (fun t => Tryz.prog.readableRec t && decide (t < Tryz.prog.types.size))) = true := by kernel_rfl
theorem j21 : ((Rows.codeReadsUptoRow.ifacesOut == Tryz.f9.resultTypes.toList.any (Tryz.prog.ifacesRec ·))) = true := by kernel_rfl
theorem j22 : ((Rows.codeReadsUptoRow.loopsOut == Tryz.f9.resultTypes.toList.any (Tryz.prog.loopsFrom ·))) = true := by kernel_rfl
theorem j29 : ((Rows.codeReadsUptoRow.kinds == (if Rows.codeReadsUptoRow.domain.isEmpty then [] else Tryz.f9.params.toList.map fun t => match Tryz.prog.underlying t with | some (.int k) => some k | _ => none))) = true := by kernel_rfl
theorem j30 : ((Rows.codeReadsUptoRow.pinned == Rows.codeReadsUptoRow.pinnedBy)) = true := by kernel_rfl
theorem j31 : ((Rows.codeReadsUptoRow.veiled == (Tryz.f9.params.toList ++ (OpenSpec.bare (Rows.OpenSpec.upto Rows.codeReadsSpec)).plain.varTypes Tryz.prog ++ Tryz.f9.resultTypes.toList).any (Tryz.prog.veiledRec ·))) = true := by kernel_rfl
theorem j32 : (Rows.codeReadsUptoRow.veiledFits Tryz.prog Tryz.f9.params.toList (Tryz.f9.params.toList ++ (OpenSpec.bare (Rows.OpenSpec.upto Rows.codeReadsSpec)).plain.varTypes Tryz.prog ++ Tryz.f9.resultTypes.toList)) = true := by kernel_rfl
set_option maxRecDepth 100000 in
theorem closed : joinedFacts Tryz.prog 9 Tryz.f9 (OpenSpec.bare (Rows.OpenSpec.upto Rows.codeReadsSpec)) Rows.codeReadsUptoRow = true :=
  HW j1 laidOut jj3 j4 j5 jj6 jj7 jj8 jj9 j10 j11 j12 j13 j14 j15 j16 j17 j18 j19 j20 j21 j22 jj23 jj24 jj25 jj26 uV jj28 j29 j30 j31 j32
theorem hinst : Tryz.f9.isInstance Tryz.pinned.checked.prog Rows.codeReadsUptoRow.origin Rows.codeReadsUptoRow.targs := of_decide_eq_true (by kernel_rfl)
theorem hwrap : Tryz.f9.isWrapper Tryz.pinned.checked.prog Rows.codeReadsUptoRow.wrapper Rows.codeReadsUptoRow.mainSum := by unfold Func.isWrapper; first | (rw [if_pos (by decide +kernel)]; kernel_rfl) | (rw [if_neg (by decide +kernel)]; exact ⟨rfl, rfl⟩)
theorem saidUpto : Rows.CodeReadsUptoSaid :=
  OpenClaim.holds_of_cond 9 Tryz.f9 rfl rfl rfl rfl rfl rfl rfl ⟨rfl, rfl, rfl, rfl, rfl⟩ rfl rfl rfl rfl rfl (by kernel_rfl) Tryz.func9 closed hinst hwrap
    (fun os started H enc _ F => by rw [OpenClaim.pre_eq_preRow]; exact lifted os started H enc F)
theorem plain (f : FuncId) (fn : Func) (hf : Tryz.pinned.checked.prog.funcNamed "environ/environlaw31.CodeReads" = some f) (hfn : Tryz.pinned.checked.prog.funcs[f]? = some fn) :
    true = Tryz.pinned.checked.prog.looks [] ∧ ∀ (j : Nat) t, fn.params[j]? = some t → Tryz.pinned.checked.prog.wantsStandIn t = false := by
  obtain rfl : f = 9 := Option.some.inj ((show Tryz.prog.funcNamed "environ/environlaw31.CodeReads" = some 9 by kernel_rfl).symm.trans hf) |>.symm
  obtain rfl : fn = Tryz.f9 := (Option.some.inj (Tryz.func9.symm.trans hfn)).symm
  refine ⟨by kernel_rfl, fun j t ht => ?_⟩
  rw [Tryz.params9] at ht
  match j with
  | 0 => obtain rfl : t = 9 := by simpa using ht.symm
         exact (show Tryz.prog.wantsStandIn 9 = false by kernel_rfl)
  | 1 => obtain rfl : t = 4 := by simpa using ht.symm
         exact (show Tryz.prog.wantsStandIn 4 = false by kernel_rfl)
  | j + 2 => simp at ht
end Go.Proofs.YtgghfcchanilpaaGreatDoor.codeReads
namespace Go.Proofs.YtgghfcchanilpaaGreatDoor
open Go Go.Abs
theorem codeReads_card : Rows.CodeReadsUptoCardSaid :=
  Claim7.holds_tied_plain_at .later [] _ _ _ _ codeReads.saidUpto (fun _ h => by cases h) (by kernel_rfl) (fun _ h => by cases h) codeReadsUpto_row_tie rfl ⟨rfl, rfl⟩ (by kernel_rfl) rfl codeReads.plain (by kernel_rfl)
#print axioms codeReads_card
end Go.Proofs.YtgghfcchanilpaaGreatDoor
