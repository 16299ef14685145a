/- PROVED HERE: for any grammar, text and number (together of bulk at most 1048576), the law HyperRenames returns true and leaves its arguments as they were: with another name of a metanotion everywhere the grammar is right, and produces the same texts. The program's own code is run by the model; strings.Split, Join, IndexByte, Compare, Repeat and TrimRight by the kit's contracts. -/
import Derived.Test.YtiniifbmeobmgaaGreatDoorRowKitG
import Derived.Test.YtiniifbmeobmgaaGreatDoorRnC
import Derived.Test.YtiniifbmeobmgaaGreatDoorSpecAw
set_option linter.unusedVariables false
set_option linter.unusedSimpArgs false
namespace Go.Proofs.YtiniifbmeobmgaaGreatDoor.hyperRenames
open Go Go.Abs Go.ChangeShapes Go.WideShapes Go.ChangeAt Go.RowKit

set_option maxRecDepth 100000 in
theorem contract (H : Type) (enc : TypeId × Value → H) (Wd : World) (base : Nat) (args : Array Value) (ds gs : List (DataW H)) (before : List MemPlace)
    (hval : ∀ (j : Nat) t v, Tryz.f10.params[j]? = some t → args[j]? = some v → Value.okWide Tryz.prog Wd .any base t v)
    (hW : DataW.Whole enc Tryz.prog Tryz.f10.params.toList Rows.hyperRenamesSpec.vars false Wd args.toList ds gs before) (hk : Rows.uptoSmall H (ds ++ gs) = true) (hsh : Wd.ShapedOpen Tryz.prog) :
    Calls Tryz.prog 10 args Wd fun e W' => ∃ v, e = .returned v ∧ Rows.hyperRenamesSpec.post enc Tryz.prog Tryz.f10 false true false false Wd args v W' := by
  have hW' := hW
  obtain ⟨p, q, hA0, hV, rfl, hfz, hnd⟩ := hW
  have hA : DataW.TrodAll enc Tryz.prog Wd 0 (fun _ => true) true Tryz.f10.params.toList args.toList ds p := hA0
  rw [Tryz.params10] at hA hval
  obtain ⟨v0, vs0, d0, ds0, p0, q0, hargs, rfl, rfl, h0, r0⟩ := trodAll_cons hA
  obtain ⟨v1, vs1, d1, ds1, p1, q1, rfl, rfl, rfl, h1, r1⟩ := trodAll_cons r0
  obtain ⟨v2, vs2, d2, ds2, p2, q2, rfl, rfl, rfl, h2, r2⟩ := trodAll_cons r1
  obtain ⟨rfl, rfl, rfl⟩ := trodAll_nil r2
  obtain rfl : args = #[v0, v1, v2] := by cases args; simp_all
  obtain ⟨rfl, rfl⟩ := trodVars_none hV
  obtain ⟨cs0, rfl, hcs0⟩ := okWide_struct Tryz.underlying25 (hval 0 25 v0 rfl rfl)
  have hcs0 : cs0.size = 2 := hcs0.trans (by kernel_rfl)
  obtain ⟨s1, rfl⟩ := okWide_string Tryz.underlying9 (hval 1 9 v1 rfl rfl)
  obtain ⟨n2, rfl⟩ := okWide_int Tryz.underlying5 (hval 2 5 v2 rfl rfl)
  have lt0 : ∀ x ∈ p0, x.block < Wd.heap.size := by obtain ⟨m, hm⟩ := h0; exact DataW.trod_lt m _ _ _ hm
  have lt1 : ∀ x ∈ p1, x.block < Wd.heap.size := by obtain ⟨m, hm⟩ := h1; exact DataW.trod_lt m _ _ _ hm
  have lt2 : ∀ x ∈ p2, x.block < Wd.heap.size := by obtain ⟨m, hm⟩ := h2; exact DataW.trod_lt m _ _ _ hm
  obtain ⟨x0, rx0, dx0⟩ := opensGram.arg (by simpa [Value.cells] using hcs0) (.inr ⟨_, rfl⟩) h0 (fun _ a => ⟨_, rfl⟩) (fun h => by cases h)
  obtain ⟨x1, rx1, dx1⟩ := (opens_str Tryz.underlying9 (by kernel_rfl)).arg rfl (.inl rfl) h1 (fun ⟨cs, h⟩ => by cases h) (fun _ a cs h => by cases h)
  obtain ⟨x2, rx2, dx2⟩ := (opens_int Tryz.underlying5 (by kernel_rfl)).arg rfl (.inl rfl) h2 (fun ⟨cs, h⟩ => by cases h) (fun _ a cs h => by cases h)
  have hb := of_decide_eq_true hk
  simp only [Rows.uptoBulkAll, List.append_nil, List.nil_append, List.cons_append] at hb
  have hb0 : Rows.uptoBulk d0 ≤ 1048576 := by omega
  have hb1 : Rows.uptoBulk d1 ≤ 1048576 := by omega
  have hb2 : Rows.uptoBulk d2 ≤ 1048576 := by omega
  simp only [List.append_nil] at hW'
  have law := c10 (fun σ hσ => by subst hσ; exact c13) (okGram_of dx0 hb0) (kGram_of dx0) (bulk_str dx1 hb1) (u8_of dx2).1 (u8_of dx2).2
  refine (law_calls law hsh (vs := #[_, _, _]) rfl (fun i x v hx hv => ?_)).mono fun e W' ⟨he, bel⟩ => ?_
  · match i with
    | 0 => simp at hx hv; subst hx hv; exact rx0
    | 1 => simp at hx hv; subst hx hv; exact rx1
    | 2 => simp at hx hv; subst hx hv; exact rx2
    | i + 3 => simp at hx
  · subst he
    exact ⟨_, rfl, _, _, _, [], _, [], hW', trodAll_mk1 (shut_bool Tryz.underlying4 _),
      (trodAll_cons_mk (Below.trod laidOut (by kernel_rfl) (of_decide_eq_true (by kernel_rfl)) h0 bel lt0) (trodAll_cons_mk (Below.trod laidOut (by kernel_rfl) (of_decide_eq_true (by kernel_rfl)) h1 bel lt1) (trodAll_cons_mk (Below.trod laidOut (by kernel_rfl) (of_decide_eq_true (by kernel_rfl)) h2 bel lt2) trodAll_mk0))), rfl, bel.frame _, fun h => by cases h⟩

def wArgs : Array Value := #[.agg #[.slice none 0 0, .slice none 0 0], .string ⟨#[]⟩, .int .u8 0]

theorem laid_met (os : Os) : laidMet Tryz.prog Rows.hyperRenamesUptoRow.laid ((laidWorld os).forCall (fun _ _ => 0) ⟨#[], wArgs, []⟩).memory :=
  laidMet_of_run' 8 (by kernel_rfl) (by kernel_rfl)

theorem reads (os : Os) {H : Type} (enc : TypeId × Value → H) : ∃ places, DataW.whole enc Tryz.prog ((laidWorld os).forCall (fun _ _ => 0) ⟨#[], wArgs, []⟩).memory Tryz.f10.params.toList Rows.hyperRenamesSpec.vars false wArgs.toList 8 = some ([.agg [.nil, .nil], .lit (.string []), .lit (.int .u8 0)], [], places) :=
  ⟨[], by kernel_rfl⟩

set_option maxRecDepth 100000 in
theorem lifted (os : Os) (started : os.Started) (H : Type) (enc : TypeId × Value → H) (F : Stop.Interp) :
    ReturnsInHanded {} Tryz.checked os 10 .any ((Rows.OpenSpec.upto Rows.hyperRenamesSpec).preRow enc Tryz.prog Tryz.f10 Rows.hyperRenamesUptoRow.domain false Rows.hyperRenamesUptoRow.laid) (((Rows.OpenSpec.upto Rows.hyperRenamesSpec).at F).post enc Tryz.prog Tryz.f10 false true false false) := by
  obtain ⟨places, hx⟩ := reads os enc
  refine returnsInHanded_of_row (C := Tryz.checked) (s := Rows.OpenSpec.upto Rows.hyperRenamesSpec) own started (by kernel_rfl) Tryz.func10
    (witness_row_at (enc := enc) (C := Tryz.checked) false (laidWorld os) wArgs rfl (by kernel_rfl) (by kernel_rfl) (by kernel_rfl)
      (OpenSpec.preRow_of_cond 8 hx (by kernel_rfl) (fun k hk => by cases hk; kernel_rfl) (by kernel_rfl) (laid_met os))) ?_
  intro W base args ds gs before hval hW _ hcond _ hL hsh _
  exact contract H enc W base args ds gs before hval hW (hcond _ rfl) hsh

theorem saidUpto : Rows.HyperRenamesUptoSaid :=
  OpenClaim.holds_of_cond 10 Tryz.f10 rfl rfl rfl rfl rfl rfl rfl ⟨rfl, rfl, rfl, rfl, rfl⟩ rfl rfl rfl rfl rfl (by kernel_rfl) Tryz.func10 (by kernel_rfl)
    (of_decide_eq_true (by kernel_rfl)) (by unfold Func.isWrapper; first | (rw [if_pos (by decide +kernel)]; kernel_rfl) | (rw [if_neg (by decide +kernel)]; exact ⟨rfl, rfl⟩))
    (fun os started H enc _ F => by rw [OpenClaim.pre_eq_preRow]; exact lifted os started H enc F)

theorem plain (f : FuncId) (fn : Func) (hf : Tryz.pinned.checked.prog.funcNamed "environ/environlaw19.HyperRenames" = some f) (hfn : Tryz.pinned.checked.prog.funcs[f]? = some fn) :
    true = Tryz.pinned.checked.prog.looks [] ∧ ∀ (j : Nat) t, fn.params[j]? = some t → Tryz.pinned.checked.prog.wantsStandIn t = false := by
  obtain rfl : f = 10 := Option.some.inj ((show Tryz.prog.funcNamed "environ/environlaw19.HyperRenames" = some 10 by kernel_rfl).symm.trans hf) |>.symm
  obtain rfl : fn = Tryz.f10 := (Option.some.inj (Tryz.func10.symm.trans hfn)).symm
  refine ⟨by kernel_rfl, fun j t ht => ?_⟩
  rw [Tryz.params10] at ht
  match j with
  | 0 => obtain rfl : t = 25 := by simpa using ht.symm
         exact (show Tryz.prog.wantsStandIn 25 = false by kernel_rfl)
  | 1 => obtain rfl : t = 9 := by simpa using ht.symm
         exact (show Tryz.prog.wantsStandIn 9 = false by kernel_rfl)
  | 2 => obtain rfl : t = 5 := by simpa using ht.symm
         exact (show Tryz.prog.wantsStandIn 5 = false by kernel_rfl)
  | j + 3 => simp at ht

end Go.Proofs.YtiniifbmeobmgaaGreatDoor.hyperRenames
namespace Go.Proofs.YtiniifbmeobmgaaGreatDoor
open Go Go.Abs
/-- THE CARD. -/
theorem hyperRenames_card : Rows.HyperRenamesUptoCardSaid :=
  Claim7.holds_tied_plain_at .later [] _ _ _ _ hyperRenames.saidUpto (fun _ h => by cases h) (by kernel_rfl) (fun _ h => by cases h) hyperRenamesUpto_row_tie rfl ⟨rfl, rfl⟩ (by kernel_rfl) rfl hyperRenames.plain (by kernel_rfl)
#print axioms hyperRenames_card
end Go.Proofs.YtiniifbmeobmgaaGreatDoor
