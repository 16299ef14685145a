/- PROVED HERE: for any table of modes (of bulk at most 1048576), the law FramesSums returns true and leaves its argument as it was: a structure has the slots of its fields, one after the other, and modes with equal slots, and no others, have the same map. The program's own code is run by the model (the examples by a closed run of it in the kernel); strconv.Itoa and FormatBool, strings.Split, ReplaceAll, Fields and Join and strings.Builder by the kit's contracts. -/
import Derived.Test.YteikomnahelckaaGreatDoorOpsG
import Derived.Test.YteikomnahelckaaGreatDoorOpsC
import Derived.Test.YteikomnahelckaaGreatDoorOpsD
set_option linter.unusedVariables false
set_option linter.unusedSimpArgs false
namespace Go.Proofs.YteikomnahelckaaGreatDoor.framesSums
open Go Go.Abs Go.ChangeShapes Go.WideShapes Go.ChangeAt Go.RowKit
set_option maxRecDepth 100000 in
theorem contract (H : Type) (enc : TypeId × Value → H) (Wd : World) (base : Nat) (args : Array Value) (ds gs : List (DataW H)) (before : List MemPlace)
    (hval : ∀ (j : Nat) t v, Tryz.f3.params[j]? = some t → args[j]? = some v → Value.okWide Tryz.prog Wd .any base t v)
    (hW : DataW.Whole enc Tryz.prog Tryz.f3.params.toList Rows.framesSumsSpec.vars false Wd args.toList ds gs before) (hk : Rows.uptoSmall H (ds ++ gs) = true) (hsh : Wd.ShapedOpen Tryz.prog) (hL : laidMet Tryz.prog laidAll Wd) :
    Calls Tryz.prog 3 args Wd fun e W' => ∃ v, e = .returned v ∧ Rows.framesSumsSpec.post enc Tryz.prog Tryz.f3 false true false false Wd args v W' := by
  have hW' := hW
  obtain ⟨p, q, hA0, hV, rfl, hfz, hnd⟩ := hW
  have hA : DataW.TrodAll enc Tryz.prog Wd 0 (fun _ => true) true Tryz.f3.params.toList args.toList ds p := hA0
  rw [Tryz.params3] at hA hval
  obtain ⟨v0, vs0, d0, ds0, p0, q0, hargs, rfl, rfl, h0, r0⟩ := trodAll_cons hA
  obtain ⟨rfl, rfl, rfl⟩ := trodAll_nil r0
  obtain rfl : args = #[v0] := by cases args; simp_all
  obtain ⟨rfl, rfl⟩ := trodVars_none hV
  obtain ⟨a0, len0, cap0, rfl⟩ := okWide_slice Tryz.underlying22 (hval 0 22 v0 rfl rfl)
  have lt0 : ∀ x ∈ p0, x.block < Wd.heap.size := by obtain ⟨m, hm⟩ := h0; exact DataW.trod_lt m _ _ _ hm
  obtain ⟨x0, rx0, dx0⟩ := oModes.arg rfl (.inl rfl) h0 (fun ⟨cs, h⟩ => by cases h) (fun _ a cs h => by cases h)
  have hb := of_decide_eq_true hk
  simp only [Rows.uptoBulkAll, List.append_nil, List.nil_append, List.cons_append] at hb
  have hb0 : Rows.uptoBulk d0 ≤ 1048576 := by omega
  simp only [List.append_nil] at hW'
  have law := sums_law dx0 hb0
  refine (law_calls (law _ rfl) hsh hL (vs := #[_]) rfl (fun i x v hx hv => ?_)).mono fun e W' ⟨he, bel⟩ => ?_
  · match i with
    | 0 => simp at hx hv; subst hx hv; exact rx0
    | i + 1 => simp at hx
  · subst he
    exact ⟨_, rfl, _, _, _, [], _, [], hW', trodAll_mk1 (shut_bool Tryz.underlying4 _),
      (trodAll_cons_mk (Below.trod laidOut (by kernel_rfl) (of_decide_eq_true (by kernel_rfl)) h0 bel lt0) trodAll_mk0), rfl, bel.frame _, fun h => by cases h⟩
def wArgs : Array Value := #[.slice none 0 0]
theorem reads (os : Os) {H : Type} (enc : TypeId × Value → H) : ∃ places, DataW.whole enc Tryz.prog ((laidWorld os).forCall (fun _ _ => 0) ⟨#[], wArgs, []⟩).memory Tryz.f3.params.toList Rows.framesSumsSpec.vars false wArgs.toList 8 = some ([.nil], [], places) :=
  ⟨[], by kernel_rfl⟩
set_option maxRecDepth 100000 in
theorem lifted (os : Os) (started : os.Started) (H : Type) (enc : TypeId × Value → H) (F : Stop.Interp) :
    ReturnsInHanded {} Tryz.checked os 3 .any ((Rows.OpenSpec.upto Rows.framesSumsSpec).preRow enc Tryz.prog Tryz.f3 Rows.framesSumsUptoRow.domain false Rows.framesSumsUptoRow.laid) (((Rows.OpenSpec.upto Rows.framesSumsSpec).at F).post enc Tryz.prog Tryz.f3 false true false false) := by
  obtain ⟨places, hx⟩ := reads os enc
  refine returnsInHanded_of_row (C := Tryz.checked) (s := Rows.OpenSpec.upto Rows.framesSumsSpec) own started (by kernel_rfl) Tryz.func3
    (witness_row_atRef (enc := enc) (C := Tryz.checked) false (laidWorld os) wArgs rfl (by kernel_rfl) (by kernel_rfl) (by kernel_rfl)
      (OpenSpec.preRow_of_cond 8 hx (by kernel_rfl) (fun k hk => by cases hk; kernel_rfl) (by kernel_rfl) (laid_met os _))) ?_
  intro W base args ds gs before hval hW _ hcond _ hL hsh _
  exact contract H enc W base args ds gs before hval hW (hcond _ rfl) hsh hL
theorem j1 : (Rows.framesSumsUptoRow.wf (OpenSpec.ofChange (OpenSpec.bare (Rows.OpenSpec.upto Rows.framesSumsSpec)))) = true := by kernel_rfl
theorem j4 : (Tryz.f3.params.all (Tryz.prog.readableRec ·)) = true := by kernel_rfl
theorem j5 : (namedTie Tryz.prog Rows.framesSumsUptoRow.named (OpenSpec.bare (Rows.OpenSpec.upto Rows.framesSumsSpec)).vars) = true := by kernel_rfl
theorem j10 : ((Rows.framesSumsUptoRow.inPlace == Tryz.prog.inPlace 3)) = true := by kernel_rfl
theorem j11 : ((Rows.framesSumsUptoRow.unfollowed == Tryz.prog.unfollowed 3)) = true := by kernel_rfl
theorem j12 : ((Rows.framesSumsUptoRow.recurses == Tryz.prog.recurses 3)) = true := by kernel_rfl
theorem j13 : ((Rows.framesSumsUptoRow.named == Tryz.prog.varsNamed 3)) = true := by kernel_rfl
theorem j14 : ((Rows.framesSumsUptoRow.maps == (Tryz.f3.params.toList ++ (OpenSpec.bare (Rows.OpenSpec.upto Rows.framesSumsSpec)).plain.varTypes Tryz.prog).any (Tryz.prog.mapsRec ·))) = true := by kernel_rfl
theorem j15 : ((Rows.framesSumsUptoRow.ifaces == (Tryz.f3.params.toList ++ (OpenSpec.bare (Rows.OpenSpec.upto Rows.framesSumsSpec)).plain.varTypes Tryz.prog).any (Tryz.prog.ifacesRec ·))) = true := by kernel_rfl
theorem j16 : ((Rows.framesSumsUptoRow.mapsOut == Tryz.prog.mapsAmong Tryz.f3.resultTypes.toList)) = true := by kernel_rfl
theorem j17 : ((Rows.framesSumsUptoRow.loops == (Tryz.f3.params.toList ++ (OpenSpec.bare (Rows.OpenSpec.upto Rows.framesSumsSpec)).plain.varTypes Tryz.prog).any (Tryz.prog.loopsFrom ·))) = true := by kernel_rfl
theorem j18 : ((Rows.framesSumsUptoRow.wideKeys == (Tryz.f3.params.toList ++ (OpenSpec.bare (Rows.OpenSpec.upto Rows.framesSumsSpec)).plain.varTypes Tryz.prog ++ Tryz.f3.resultTypes.toList).any (Tryz.prog.wideKeysFrom ·))) = true := by kernel_rfl
theorem j19 : ((OpenSpec.bare (Rows.OpenSpec.upto Rows.framesSumsSpec)).vars.all (Tryz.prog.varReadable ·)) = true := by kernel_rfl
theorem j20 : (Tryz.f3.resultTypes.all (fun t => Tryz.prog.readableRec t && decide (t < Tryz.prog.types.size))) = true := by kernel_rfl
theorem j21 : ((Rows.framesSumsUptoRow.ifacesOut == Tryz.f3.resultTypes.toList.any (Tryz.prog.ifacesRec ·))) = true := by kernel_rfl
theorem j22 : ((Rows.framesSumsUptoRow.loopsOut == Tryz.f3.resultTypes.toList.any (Tryz.prog.loopsFrom ·))) = true := by kernel_rfl
theorem j29 : ((Rows.framesSumsUptoRow.kinds == (if Rows.framesSumsUptoRow.domain.isEmpty then [] else Tryz.f3.params.toList.map fun t => match Tryz.prog.underlying t with | some (.int k) => some k | _ => none))) = true := by kernel_rfl
theorem j30 : ((Rows.framesSumsUptoRow.pinned == Rows.framesSumsUptoRow.pinnedBy)) = true := by kernel_rfl
theorem j31 : ((Rows.framesSumsUptoRow.veiled == (Tryz.f3.params.toList ++ (OpenSpec.bare (Rows.OpenSpec.upto Rows.framesSumsSpec)).plain.varTypes Tryz.prog ++ Tryz.f3.resultTypes.toList).any (Tryz.prog.veiledRec ·))) = true := by kernel_rfl
theorem j32 : (Rows.framesSumsUptoRow.veiledFits Tryz.prog Tryz.f3.params.toList (Tryz.f3.params.toList ++ (OpenSpec.bare (Rows.OpenSpec.upto Rows.framesSumsSpec)).plain.varTypes Tryz.prog ++ Tryz.f3.resultTypes.toList)) = true := by kernel_rfl
set_option maxRecDepth 100000 in
theorem closed : joinedFacts Tryz.prog 3 Tryz.f3 (OpenSpec.bare (Rows.OpenSpec.upto Rows.framesSumsSpec)) Rows.framesSumsUptoRow = true :=
  joined_of j1 laidOut jj3 j4 j5 jj6 jj7 jj8 jj9 j10 j11 j12 j13 j14 j15 j16 j17 j18 j19 j20 j21 j22 jj23 jj24 jj25 jj26 jj27 jj28 j29 j30 j31 j32
theorem hinst : Tryz.f3.isInstance Tryz.pinned.checked.prog Rows.framesSumsUptoRow.origin Rows.framesSumsUptoRow.targs := of_decide_eq_true (by kernel_rfl)
theorem hwrap : Tryz.f3.isWrapper Tryz.pinned.checked.prog Rows.framesSumsUptoRow.wrapper Rows.framesSumsUptoRow.mainSum := by unfold Func.isWrapper; first | (rw [if_pos (by decide +kernel)]; kernel_rfl) | (rw [if_neg (by decide +kernel)]; exact ⟨rfl, rfl⟩)
end Go.Proofs.YteikomnahelckaaGreatDoor.framesSums
