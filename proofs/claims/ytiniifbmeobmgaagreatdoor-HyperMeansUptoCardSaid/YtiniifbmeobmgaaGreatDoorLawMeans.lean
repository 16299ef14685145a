/- PROVED HERE: for any parts and any binds (together of bulk at most 1048576), the law HyperMeans returns true and leaves its arguments as they were: the package's Means gives what the reference's gives. The program's own code is run by the model; strings.Split, Join, IndexByte and Compare by the kit's contracts. -/
import Derived.Test.YtiniifbmeobmgaaGreatDoorRowKit19
import Derived.Test.YtiniifbmeobmgaaGreatDoorSpecG
import Derived.Test.YtiniifbmeobmgaaGreatDoorSpecAw
set_option linter.unusedVariables false
set_option linter.unusedSimpArgs false
namespace Go.Proofs.YtiniifbmeobmgaaGreatDoor.hyperMeans
open Go Go.Abs Go.ChangeShapes Go.WideShapes Go.ChangeAt Go.RowKit

theorem all_mem {H : Type} {d : DataW H} : ∀ {l : List (DataW H)}, d ∈ l → Rows.uptoBulk d ≤ Rows.uptoBulkAll l
  | x :: r, h => by
    simp only [Rows.uptoBulkAll]
    rcases List.mem_cons.1 h with rfl | h
    · omega
    · have := all_mem h
      omega

theorem bulk_sl {H : Type} {α : Type} {dat : α → DataW H → Prop} {p : LK × List α} {d : DataW H} {n : Nat} (h : datSl dat p d) (hb : Rows.uptoBulk d ≤ n) {a : α} (ha : a ∈ p.2) : ∃ e, dat a e ∧ Rows.uptoBulk e ≤ n := by
  rcases h with ⟨rfl, rfl⟩ | ⟨es, sp, rfl, _, hl, hr⟩
  · cases ha
  · obtain ⟨i, hi⟩ := List.getElem?_of_mem ha
    have hil : i < es.length := by rw [← hl]; exact (List.getElem?_eq_some_iff.1 hi).1
    have he : es[i]? = some es[i] := by simp [hil]
    refine ⟨es[i], hr i a _ hi he, ?_⟩
    have := all_mem (List.mem_of_getElem? he)
    simp only [Rows.uptoBulk] at hb
    omega

set_option maxRecDepth 100000 in
theorem contract (H : Type) (enc : TypeId × Value → H) (Wd : World) (base : Nat) (args : Array Value) (ds gs : List (DataW H)) (before : List MemPlace)
    (hval : ∀ (j : Nat) t v, Tryz.f7.params[j]? = some t → args[j]? = some v → Value.okWide Tryz.prog Wd .any base t v)
    (hW : DataW.Whole enc Tryz.prog Tryz.f7.params.toList Rows.hyperMeansSpec.vars false Wd args.toList ds gs before) (hk : Rows.uptoSmall H (ds ++ gs) = true) (hsh : Wd.ShapedOpen Tryz.prog) :
    Calls Tryz.prog 7 args Wd fun e W' => ∃ v, e = .returned v ∧ Rows.hyperMeansSpec.post enc Tryz.prog Tryz.f7 false true false false Wd args v W' := by
  have hW' := hW
  obtain ⟨p, q, hA0, hV, rfl, hfz, hnd⟩ := hW
  have hA : DataW.TrodAll enc Tryz.prog Wd 0 (fun _ => true) true Tryz.f7.params.toList args.toList ds p := hA0
  rw [Tryz.params7] at hA hval
  obtain ⟨v0, vs0, d0, ds0, p0, q0, hargs, rfl, rfl, h0, r0⟩ := trodAll_cons hA
  obtain ⟨v1, vs1, d1, ds1, p1, q1, rfl, rfl, rfl, h1, r1⟩ := trodAll_cons r0
  obtain ⟨rfl, rfl, rfl⟩ := trodAll_nil r1
  obtain rfl : args = #[v0, v1] := by cases args; simp_all
  obtain ⟨rfl, rfl⟩ := trodVars_none hV
  obtain ⟨a0, len0, cap0, rfl⟩ := okWide_slice Tryz.underlying48 (hval 0 48 v0 rfl rfl)
  obtain ⟨a1, len1, cap1, rfl⟩ := okWide_slice Tryz.underlying59 (hval 1 59 v1 rfl rfl)
  have lt0 : ∀ x ∈ p0, x.block < Wd.heap.size := by obtain ⟨m, hm⟩ := h0; exact DataW.trod_lt m _ _ _ hm
  have lt1 : ∀ x ∈ p1, x.block < Wd.heap.size := by obtain ⟨m, hm⟩ := h1; exact DataW.trod_lt m _ _ _ hm
  obtain ⟨x0, rx0, dx0⟩ := opensParts.arg rfl (.inl rfl) h0 (fun ⟨cs, h⟩ => by cases h) (fun _ a cs h => by cases h)
  obtain ⟨x1, rx1, dx1⟩ := opensBinds.arg rfl (.inl rfl) h1 (fun ⟨cs, h⟩ => by cases h) (fun _ a cs h => by cases h)
  have hb := of_decide_eq_true hk
  simp only [Rows.uptoBulkAll, List.append_nil] at hb
  have hs : ∀ t ∈ x0.2, t.2.length ≤ 1048576 := by
    intro t ht
    obtain ⟨e, ⟨x, y, rfl, _, rfl⟩, he⟩ := bulk_sl (n := 1048576) dx0 (by omega) ht
    simp only [Rows.uptoBulk, Rows.uptoBulkAll] at he
    omega
  have hbs : ∀ t ∈ x1.2, t.2.length ≤ 1048576 := by
    intro t ht
    obtain ⟨e, ⟨x, y, rfl, _, rfl⟩, he⟩ := bulk_sl (n := 1048576) dx1 (by omega) ht
    simp only [Rows.uptoBulk, Rows.uptoBulkAll] at he
    omega
  simp only [List.append_nil] at hW'
  have law := c7 (fun σ hσ => by subst hσ; exact c13) hs hbs (lk := x0.1) (lk' := x1.1)
  refine (law_calls law hsh (vs := #[_, _]) rfl (fun i x v hx hv => ?_)).mono fun e W' ⟨he, bel⟩ => ?_
  · match i with
    | 0 => simp at hx hv; subst hx hv; exact rx0
    | 1 => simp at hx hv; subst hx hv; exact rx1
    | i + 2 => simp at hx
  · subst he
    exact ⟨_, rfl, _, _, _, [], _, [], hW', trodAll_mk1 (shut_bool Tryz.underlying4 _),
      (trodAll_cons_mk (Below.trod laidOut (by kernel_rfl) (of_decide_eq_true (by kernel_rfl)) h0 bel lt0) (trodAll_cons_mk (Below.trod laidOut (by kernel_rfl) (of_decide_eq_true (by kernel_rfl)) h1 bel lt1) trodAll_mk0)), rfl, bel.frame _, fun h => by cases h⟩

def wArgs : Array Value := #[.slice none 0 0, .slice none 0 0]

theorem laid_met (os : Os) : laidMet Tryz.prog Rows.hyperMeansUptoRow.laid ((laidWorld os).forCall (fun _ _ => 0) ⟨#[], wArgs, []⟩).memory :=
  laidMet_of_run' 8 (by kernel_rfl) (by kernel_rfl)

theorem reads (os : Os) {H : Type} (enc : TypeId × Value → H) : ∃ places, DataW.whole enc Tryz.prog ((laidWorld os).forCall (fun _ _ => 0) ⟨#[], wArgs, []⟩).memory Tryz.f7.params.toList Rows.hyperMeansSpec.vars false wArgs.toList 8 = some ([.nil, .nil], [], places) :=
  ⟨[], by kernel_rfl⟩

set_option maxRecDepth 100000 in
theorem lifted (os : Os) (started : os.Started) (H : Type) (enc : TypeId × Value → H) (F : Stop.Interp) :
    ReturnsInHanded {} Tryz.checked os 7 .any ((Rows.OpenSpec.upto Rows.hyperMeansSpec).preRow enc Tryz.prog Tryz.f7 Rows.hyperMeansUptoRow.domain false Rows.hyperMeansUptoRow.laid) (((Rows.OpenSpec.upto Rows.hyperMeansSpec).at F).post enc Tryz.prog Tryz.f7 false true false false) := by
  obtain ⟨places, hx⟩ := reads os enc
  refine returnsInHanded_of_row (C := Tryz.checked) (s := Rows.OpenSpec.upto Rows.hyperMeansSpec) own started (by kernel_rfl) Tryz.func7
    (witness_row_at (enc := enc) (C := Tryz.checked) false (laidWorld os) wArgs rfl (by kernel_rfl) (by kernel_rfl) (by kernel_rfl)
      (OpenSpec.preRow_of_cond 8 hx (by kernel_rfl) (fun k hk => by cases hk; kernel_rfl) (by kernel_rfl) (laid_met os))) ?_
  intro W base args ds gs before hval hW _ hcond _ hL hsh _
  exact contract H enc W base args ds gs before hval hW (hcond _ rfl) hsh

theorem saidUpto : Rows.HyperMeansUptoSaid :=
  OpenClaim.holds_of_cond 7 Tryz.f7 rfl rfl rfl rfl rfl rfl rfl ⟨rfl, rfl, rfl, rfl, rfl⟩ rfl rfl rfl rfl rfl (by kernel_rfl) Tryz.func7 (by kernel_rfl)
    (of_decide_eq_true (by kernel_rfl)) (by unfold Func.isWrapper; first | (rw [if_pos (by decide +kernel)]; kernel_rfl) | (rw [if_neg (by decide +kernel)]; exact ⟨rfl, rfl⟩))
    (fun os started H enc _ F => by rw [OpenClaim.pre_eq_preRow]; exact lifted os started H enc F)

theorem plain (f : FuncId) (fn : Func) (hf : Tryz.pinned.checked.prog.funcNamed "environ/environlaw19.HyperMeans" = some f) (hfn : Tryz.pinned.checked.prog.funcs[f]? = some fn) :
    true = Tryz.pinned.checked.prog.looks [] ∧ ∀ (j : Nat) t, fn.params[j]? = some t → Tryz.pinned.checked.prog.wantsStandIn t = false := by
  obtain rfl : f = 7 := Option.some.inj ((show Tryz.prog.funcNamed "environ/environlaw19.HyperMeans" = some 7 by kernel_rfl).symm.trans hf) |>.symm
  obtain rfl : fn = Tryz.f7 := (Option.some.inj (Tryz.func7.symm.trans hfn)).symm
  refine ⟨by kernel_rfl, fun j t ht => ?_⟩
  rw [Tryz.params7] at ht
  match j with
  | 0 => obtain rfl : t = 48 := by simpa using ht.symm
         exact (show Tryz.prog.wantsStandIn 48 = false by kernel_rfl)
  | 1 => obtain rfl : t = 59 := by simpa using ht.symm
         exact (show Tryz.prog.wantsStandIn 59 = false by kernel_rfl)
  | j + 2 => simp at ht

end Go.Proofs.YtiniifbmeobmgaaGreatDoor.hyperMeans
namespace Go.Proofs.YtiniifbmeobmgaaGreatDoor
open Go Go.Abs
/-- THE CARD. -/
theorem hyperMeans_card : Rows.HyperMeansUptoCardSaid :=
  Claim7.holds_tied_plain_at .later [] _ _ _ _ hyperMeans.saidUpto (fun _ h => by cases h) (by kernel_rfl) (fun _ h => by cases h) hyperMeansUpto_row_tie rfl ⟨rfl, rfl⟩ (by kernel_rfl) rfl hyperMeans.plain (by kernel_rfl)
#print axioms hyperMeans_card
end Go.Proofs.YtiniifbmeobmgaaGreatDoor
