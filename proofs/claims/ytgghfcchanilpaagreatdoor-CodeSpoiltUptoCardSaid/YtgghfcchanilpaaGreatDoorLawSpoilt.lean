/- PROVED HERE: for any program (of bulk at most 1048576), any place and any change, the law CodeSpoilt returns true and leaves its arguments as they were: the package's Read says of a spoilt text, and of a text cut short, that its mark or its sum is wrong, or the sum fits. The program's own code is run by the model; strings.Contains by the kit's contract, the lengths of the tables of the standard environment by closed runs of the model's own code. -/
import Derived.Test.YtgghfcchanilpaaGreatDoorPlC
import Derived.Test.YtgghfcchanilpaaGreatDoorFnB
import Derived.Test.YtgghfcchanilpaaGreatDoorSpSb
set_option linter.unusedVariables false
set_option linter.unusedSimpArgs false
namespace Go.Proofs.YtgghfcchanilpaaGreatDoor.codeSpoilt
open Go Go.Abs Go.ChangeShapes Go.WideShapes Go.ChangeAt Go.RowKit
set_option maxRecDepth 100000 in
theorem contract (H : Type) (enc : TypeId × Value → H) (Wd : World) (base : Nat) (args : Array Value) (ds gs : List (DataW H)) (before : List MemPlace)
    (hval : ∀ (j : Nat) t v, Tryz.f11.params[j]? = some t → args[j]? = some v → Value.okWide Tryz.prog Wd .any base t v)
    (hW : DataW.Whole enc Tryz.prog Tryz.f11.params.toList Rows.codeSpoiltSpec.vars false Wd args.toList ds gs before) (hk : Rows.uptoSmall H (ds ++ gs) = true) (hsh : Wd.ShapedOpen Tryz.prog) (hL : laidMet Tryz.prog laidAll Wd) :
    Calls Tryz.prog 11 args Wd fun e W' => ∃ v, e = .returned v ∧ Rows.codeSpoiltSpec.post enc Tryz.prog Tryz.f11 false true false false Wd args v W' := by
  have hW' := hW
  obtain ⟨p, q, hA0, hV, rfl, hfz, hnd⟩ := hW
  have hA : DataW.TrodAll enc Tryz.prog Wd 0 (fun _ => true) true Tryz.f11.params.toList args.toList ds p := hA0
  rw [Tryz.params11] at hA hval
  obtain ⟨v0, vs0, d0, ds0, p0, q0, hargs, rfl, rfl, h0, r0⟩ := trodAll_cons hA
  obtain ⟨v1, vs1, d1, ds1, p1, q1, rfl, rfl, rfl, h1, r1⟩ := trodAll_cons r0
  obtain ⟨v2, vs2, d2, ds2, p2, q2, rfl, rfl, rfl, h2, r2⟩ := trodAll_cons r1
  obtain ⟨rfl, rfl, rfl⟩ := trodAll_nil r2
  obtain rfl : args = #[v0, v1, v2] := by cases args; simp_all
  obtain ⟨rfl, rfl⟩ := trodVars_none hV
  obtain ⟨cs0, rfl, hcs0⟩ := okWide_struct Tryz.underlying47 (hval 0 47 v0 rfl rfl)
  have hcs0 : cs0.size = 10 := hcs0.trans (by kernel_rfl)
  obtain ⟨n1, rfl⟩ := okWide_int Tryz.underlying66 (hval 1 66 v1 rfl rfl)
  obtain ⟨n2, rfl⟩ := okWide_int Tryz.underlying5 (hval 2 5 v2 rfl rfl)
  have lt0 : ∀ x ∈ p0, x.block < Wd.heap.size := by obtain ⟨m, hm⟩ := h0; exact DataW.trod_lt m _ _ _ hm
  have lt1 : ∀ x ∈ p1, x.block < Wd.heap.size := by obtain ⟨m, hm⟩ := h1; exact DataW.trod_lt m _ _ _ hm
  have lt2 : ∀ x ∈ p2, x.block < Wd.heap.size := by obtain ⟨m, hm⟩ := h2; exact DataW.trod_lt m _ _ _ hm
  obtain ⟨x0, rx0, dx0⟩ := oCode.arg (by simpa [Value.cells] using hcs0) (.inr ⟨_, rfl⟩) h0 (fun _ a => ⟨_, rfl⟩) (fun h => by cases h)
  obtain ⟨x1, rx1, dx1⟩ := oU16.arg rfl (.inl rfl) h1 (fun ⟨cs, h⟩ => by cases h) (fun _ a cs h => by cases h)
  obtain ⟨x2, rx2, dx2⟩ := oU8.arg rfl (.inl rfl) h2 (fun ⟨cs, h⟩ => by cases h) (fun _ a cs h => by cases h)
  have hb := of_decide_eq_true hk
  simp only [Rows.uptoBulkAll, List.append_nil, List.nil_append, List.cons_append] at hb
  have hb0 : Rows.uptoBulk d0 ≤ 1048576 := by omega
  have hb1 : Rows.uptoBulk d1 ≤ 1048576 := by omega
  have hb2 : Rows.uptoBulk d2 ≤ 1048576 := by omega
  simp only [List.append_nil] at hW'
  have hok := dCode_okay dx0 hb0
  obtain ⟨m, hm, rfl⟩ := u16_nat dx1
  have law := c11 hok (dCode_I dx0 hok) hm (d := x2)
  refine (law_calls (law _ rfl) hsh hL (vs := #[_, _, _]) rfl (fun i x v hx hv => ?_)).mono fun e W' ⟨he, bel⟩ => ?_
  · match i with
    | 0 => simp at hx hv; subst hx hv; exact rx0
    | 1 => simp at hx hv; subst hx hv; exact rx1
    | 2 => simp at hx hv; subst hx hv; exact rx2
    | i + 3 => simp at hx
  · subst he
    exact ⟨_, rfl, _, _, _, [], _, [], hW', trodAll_mk1 (shut_bool Tryz.underlying4 _),
      (trodAll_cons_mk (Below.trod laidOut (by kernel_rfl) (of_decide_eq_true (by kernel_rfl)) h0 bel lt0) (trodAll_cons_mk (Below.trod laidOut (by kernel_rfl) (of_decide_eq_true (by kernel_rfl)) h1 bel lt1) (trodAll_cons_mk (Below.trod laidOut (by kernel_rfl) (of_decide_eq_true (by kernel_rfl)) h2 bel lt2) trodAll_mk0))), rfl, bel.frame _, fun h => by cases h⟩
def wArgs : Array Value := #[.agg #[.slice none 0 0, .slice none 0 0, .slice none 0 0, .slice none 0 0, .slice none 0 0, .slice none 0 0, .slice none 0 0, .slice none 0 0, .slice none 0 0, .slice none 0 0], .int .u16 0, .int .u8 0]
theorem reads (os : Os) {H : Type} (enc : TypeId × Value → H) : ∃ places, DataW.whole enc Tryz.prog ((laidWorld os).forCall (fun _ _ => 0) ⟨#[], wArgs, []⟩).memory Tryz.f11.params.toList Rows.codeSpoiltSpec.vars false wArgs.toList 8 = some ([.agg [.nil, .nil, .nil, .nil, .nil, .nil, .nil, .nil, .nil, .nil], .lit (.int .u16 0), .lit (.int .u8 0)], [], places) :=
  ⟨[], by kernel_rfl⟩
set_option maxRecDepth 100000 in
theorem lifted (os : Os) (started : os.Started) (H : Type) (enc : TypeId × Value → H) (F : Stop.Interp) :
    ReturnsInHanded {} Tryz.checked os 11 .any ((Rows.OpenSpec.upto Rows.codeSpoiltSpec).preRow enc Tryz.prog Tryz.f11 Rows.codeSpoiltUptoRow.domain false Rows.codeSpoiltUptoRow.laid) (((Rows.OpenSpec.upto Rows.codeSpoiltSpec).at F).post enc Tryz.prog Tryz.f11 false true false false) := by
  obtain ⟨places, hx⟩ := reads os enc
  refine returnsInHanded_of_row (C := Tryz.checked) (s := Rows.OpenSpec.upto Rows.codeSpoiltSpec) own started (by kernel_rfl) Tryz.func11
    (witness_row_atRef (enc := enc) (C := Tryz.checked) false (laidWorld os) wArgs rfl (by kernel_rfl) (by kernel_rfl) (by kernel_rfl)
      (OpenSpec.preRow_of_cond 8 hx (by kernel_rfl) (fun k hk => by cases hk; kernel_rfl) (by kernel_rfl) (laid_met os _))) ?_
  intro W base args ds gs before hval hW _ hcond _ hL hsh _
  exact contract H enc W base args ds gs before hval hW (hcond _ rfl) hsh hL
theorem j1 : (Rows.codeSpoiltUptoRow.wf (OpenSpec.ofChange (OpenSpec.bare (Rows.OpenSpec.upto Rows.codeSpoiltSpec)))) = true := by kernel_rfl
theorem j4 : (Tryz.f11.params.all (Tryz.prog.readableRec ·)) = true := by kernel_rfl
theorem j5 : (namedTie Tryz.prog Rows.codeSpoiltUptoRow.named (OpenSpec.bare (Rows.OpenSpec.upto Rows.codeSpoiltSpec)).vars) = true := by kernel_rfl
theorem j10 : ((Rows.codeSpoiltUptoRow.inPlace == Tryz.prog.inPlace 11)) = true := by kernel_rfl
theorem j11 : ((Rows.codeSpoiltUptoRow.unfollowed == Tryz.prog.unfollowed 11)) = true := by kernel_rfl
theorem j12 : ((Rows.codeSpoiltUptoRow.recurses == Tryz.prog.recurses 11)) = true := by kernel_rfl
theorem j13 : ((Rows.codeSpoiltUptoRow.named == Tryz.prog.varsNamed 11)) = true := by kernel_rfl
theorem j14 : ((Rows.codeSpoiltUptoRow.maps == (Tryz.f11.params.toList ++ (OpenSpec.bare (Rows.OpenSpec.upto Rows.codeSpoiltSpec)).plain.varTypes Tryz.prog).any (Tryz.prog.mapsRec ·))) = true := by kernel_rfl
theorem j15 : ((Rows.codeSpoiltUptoRow.ifaces == (Tryz.f11.params.toList ++ (OpenSpec.bare (Rows.OpenSpec.upto Rows.codeSpoiltSpec)).plain.varTypes Tryz.prog).any (Tryz.prog.ifacesRec ·))) = true := by kernel_rfl
theorem j16 : ((Rows.codeSpoiltUptoRow.mapsOut == Tryz.prog.mapsAmong Tryz.f11.resultTypes.toList)) = true := by kernel_rfl
theorem j17 : ((Rows.codeSpoiltUptoRow.loops == (Tryz.f11.params.toList ++ (OpenSpec.bare (Rows.OpenSpec.upto Rows.codeSpoiltSpec)).plain.varTypes Tryz.prog).any (Tryz.prog.loopsFrom ·))) = true := by kernel_rfl
theorem j18 : ((Rows.codeSpoiltUptoRow.wideKeys == (Tryz.f11.params.toList ++ (OpenSpec.bare (Rows.OpenSpec.upto Rows.codeSpoiltSpec)).plain.varTypes Tryz.prog ++ Tryz.f11.resultTypes.toList).any (Tryz.prog.wideKeysFrom ·))) = true := by kernel_rfl
theorem j19 : ((OpenSpec.bare (Rows.OpenSpec.upto Rows.codeSpoiltSpec)).vars.all (Tryz.prog.varReadable ·)) = true := by kernel_rfl
theorem j20 : (Tryz.f11.resultTypes.all (fun t => Tryz.prog.readableRec t && decide (t < Tryz.prog.types.size))) = true := by kernel_rfl
theorem j21 : ((Rows.codeSpoiltUptoRow.ifacesOut == Tryz.f11.resultTypes.toList.any (Tryz.prog.ifacesRec ·))) = true := by kernel_rfl
theorem j22 : ((Rows.codeSpoiltUptoRow.loopsOut == Tryz.f11.resultTypes.toList.any (Tryz.prog.loopsFrom ·))) = true := by kernel_rfl
theorem j29 : ((Rows.codeSpoiltUptoRow.kinds == (if Rows.codeSpoiltUptoRow.domain.isEmpty then [] else Tryz.f11.params.toList.map fun t => match Tryz.prog.underlying t with | some (.int k) => some k | _ => none))) = true := by kernel_rfl
theorem j30 : ((Rows.codeSpoiltUptoRow.pinned == Rows.codeSpoiltUptoRow.pinnedBy)) = true := by kernel_rfl
theorem j31 : ((Rows.codeSpoiltUptoRow.veiled == (Tryz.f11.params.toList ++ (OpenSpec.bare (Rows.OpenSpec.upto Rows.codeSpoiltSpec)).plain.varTypes Tryz.prog ++ Tryz.f11.resultTypes.toList).any (Tryz.prog.veiledRec ·))) = true := by kernel_rfl
theorem j32 : (Rows.codeSpoiltUptoRow.veiledFits Tryz.prog Tryz.f11.params.toList (Tryz.f11.params.toList ++ (OpenSpec.bare (Rows.OpenSpec.upto Rows.codeSpoiltSpec)).plain.varTypes Tryz.prog ++ Tryz.f11.resultTypes.toList)) = true := by kernel_rfl
set_option maxRecDepth 100000 in
theorem closed : joinedFacts Tryz.prog 11 Tryz.f11 (OpenSpec.bare (Rows.OpenSpec.upto Rows.codeSpoiltSpec)) Rows.codeSpoiltUptoRow = true :=
  joined_of j1 laidOut jj3 j4 j5 jj6 jj7 jj8 jj9 j10 j11 j12 j13 j14 j15 j16 j17 j18 j19 j20 j21 j22 jj23 jj24 jj25 jj26 jj27 jj28 j29 j30 j31 j32
theorem hinst : Tryz.f11.isInstance Tryz.pinned.checked.prog Rows.codeSpoiltUptoRow.origin Rows.codeSpoiltUptoRow.targs := of_decide_eq_true (by kernel_rfl)
theorem hwrap : Tryz.f11.isWrapper Tryz.pinned.checked.prog Rows.codeSpoiltUptoRow.wrapper Rows.codeSpoiltUptoRow.mainSum := by unfold Func.isWrapper; first | (rw [if_pos (by decide +kernel)]; kernel_rfl) | (rw [if_neg (by decide +kernel)]; exact ⟨rfl, rfl⟩)
theorem saidUpto : Rows.CodeSpoiltUptoSaid :=
  OpenClaim.holds_of_cond 11 Tryz.f11 rfl rfl rfl rfl rfl rfl rfl ⟨rfl, rfl, rfl, rfl, rfl⟩ rfl rfl rfl rfl rfl (by kernel_rfl) Tryz.func11 closed hinst hwrap
    (fun os started H enc _ F => by rw [OpenClaim.pre_eq_preRow]; exact lifted os started H enc F)
theorem plain (f : FuncId) (fn : Func) (hf : Tryz.pinned.checked.prog.funcNamed "environ/environlaw31.CodeSpoilt" = some f) (hfn : Tryz.pinned.checked.prog.funcs[f]? = some fn) :
    true = Tryz.pinned.checked.prog.looks [] ∧ ∀ (j : Nat) t, fn.params[j]? = some t → Tryz.pinned.checked.prog.wantsStandIn t = false := by
  obtain rfl : f = 11 := Option.some.inj ((show Tryz.prog.funcNamed "environ/environlaw31.CodeSpoilt" = some 11 by kernel_rfl).symm.trans hf) |>.symm
  obtain rfl : fn = Tryz.f11 := (Option.some.inj (Tryz.func11.symm.trans hfn)).symm
  refine ⟨by kernel_rfl, fun j t ht => ?_⟩
  rw [Tryz.params11] at ht
  match j with
  | 0 => obtain rfl : t = 47 := by simpa using ht.symm
         exact (show Tryz.prog.wantsStandIn 47 = false by kernel_rfl)
  | 1 => obtain rfl : t = 66 := by simpa using ht.symm
         exact (show Tryz.prog.wantsStandIn 66 = false by kernel_rfl)
  | 2 => obtain rfl : t = 5 := by simpa using ht.symm
         exact (show Tryz.prog.wantsStandIn 5 = false by kernel_rfl)
  | j + 3 => simp at ht
end Go.Proofs.YtgghfcchanilpaaGreatDoor.codeSpoilt
namespace Go.Proofs.YtgghfcchanilpaaGreatDoor
open Go Go.Abs
theorem codeSpoilt_card : Rows.CodeSpoiltUptoCardSaid :=
  Claim7.holds_tied_plain_at .later [] _ _ _ _ codeSpoilt.saidUpto (fun _ h => by cases h) (by kernel_rfl) (fun _ h => by cases h) codeSpoiltUpto_row_tie rfl ⟨rfl, rfl⟩ (by kernel_rfl) rfl codeSpoilt.plain (by kernel_rfl)
#print axioms codeSpoilt_card
end Go.Proofs.YtgghfcchanilpaaGreatDoor
