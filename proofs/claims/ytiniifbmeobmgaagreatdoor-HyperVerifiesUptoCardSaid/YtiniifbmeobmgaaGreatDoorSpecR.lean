/- Insertion into bindings, by the reference. -/
import Derived.Test.YtiniifbmeobmgaaGreatDoorMatA
import Derived.Test.YtiniifbmeobmgaaGreatDoorFnO
set_option linter.unusedVariables false
set_option linter.unusedSimpArgs false
namespace Go.Proofs.YtiniifbmeobmgaaGreatDoor
open Go Go.Abs

theorem ins_split : ∀ {B : Binds} {k : Nat} {b : Bind}, k ≤ B.length → (∀ x ∈ B.take k, ltB x.1 b.1 = true) → (∀ x, B[k]? = some x → ltB x.1 b.1 = false) → B.take k ++ b :: B.drop k = ins b B
  | [], k, b, hk, _, _ => by
    obtain rfl : k = 0 := by simpa using hk
    rfl
  | a :: B, 0, b, _, _, h => by
    have := h a rfl
    simp [ins, this]
  | a :: B, k + 1, b, hk, h1, h2 => by
    have ha := h1 a (by simp)
    have ih := @ins_split B k b (by simpa using hk) (fun x hx => h1 x (by simp [hx])) (fun x hx => h2 x (by simpa using hx))
    simp only [List.take_succ_cons, List.drop_succ_cons, List.cons_append, ins, ha, if_true, ih]

theorem lss_str (a b : Str) : vBin none .lss (.str a) (.str b) = some (.bool (ltB a b)) := by simp [vBin, vStrOp]

theorem app_full_nil {sz by_ : Nat} {σ : St} {y : PV} (h : vElems y σ = some []) : vAppend sz by_ (.list .full []) y σ = some (.list .full [], σ) := by
  simp [vAppend, h]
theorem app_full {sz by_ : Nat} {σ : St} {y : PV} {zs : List PV} (h : vElems y σ = some zs) (hne : zs ≠ []) (hz : ∀ z ∈ zs, Sized sz z) (hr : zs.length * by_ ≤ 140737488355328) : vAppend sz by_ (.list .full []) y σ = some (.sref σ.length 0 sz 0 zs.length, σ ++ [.arr 0 sz zs]) := by
  have hroom : roomy zs.length by_ = true := by simp [roomy, hr]
  cases zs with
  | nil => exact absurd rfl hne
  | cons z zs =>
    simp only [vAppend, h]
    simp only [List.isEmpty_cons, Bool.false_eq_true, if_false, List.length_nil, Nat.zero_add]
    rw [if_pos ⟨by simp, hroom, rfl, headSized_of hz⟩]
    rfl

theorem sized_binds {B : Binds} : ∀ z ∈ B.map pvBind, Sized 2 z := fun z hz => by
  obtain ⟨b, _, rfl⟩ := List.mem_map.1 hz
  exact sizedBind b

theorem head_binds (B : Binds) : headSized 2 (B.map pvBind) = true := headSized_of sized_binds

theorem c147 {B : Binds} (hB : B.length ≤ 1000) {bk : LK} (b : Bind) (σ : St) : Ret W 147 [.list bk (B.map pvBind), pvBind b] σ (.list .part ((ins b B).map pvBind)) := by
  refine ret_of fun R hR => ?_
  rw [fn147_eq]
  unfold fn147
  have hbx : opC.vBoxAny (pvBind b) = some (2, pvBind b) := rfl
  have hb0 : vPart false 1 (pvBind b) 0 = some (.str b.1) := rfl
  have hbt : vPart true 2 (pvBind b) 0 = some (pvBind b) := rfl
  simp only [hbx, zz, Nat.reduceEqDiff]
  refine CutW_by (fun x σ' => ∃ k, k ≤ B.length ∧ x = lookP [(0, .list bk (B.map pvBind)), (5, .int .i64 (k : Nat)), (3, pvBind b)] ∧ σ' = σ ∧ B.take k ++ b :: B.drop k = ins b B) ?_ ?_
  · rintro x σ' ⟨k, hk, rfl, rfl, hins⟩
    have hs0 : vBuildSl 2 (List.replicate 0 (.agg [(.str []), (.str [])])) [] = some [] := rfl
    have hs1 : vSubSl 2 (.list bk (B.map pvBind)) none (some (.int .i64 (k : Nat))) = some (.list (bk.sub (k == B.length)) ((B.take k).map pvBind)) := by
      simp [vSubSl, bound, hk, head_binds, List.map_take]
    have hs2 : vSubSl 2 (.list bk (B.map pvBind)) (some (.int .i64 (k : Nat))) none = some (.list (bk.sub true) ((B.drop k).map pvBind)) := by
      simp [vSubSl, bound, hk, head_binds, List.map_drop, List.take_of_length_le]
    have hg : ∃ v2 σ2, bindS (vAppend 2 32 (.list .full []) (.list (bk.sub (k == B.length)) ((B.take k).map pvBind)) σ') (fun v21 σ22 => bindS (vAppend 2 32 v21 (.list .full [pvBind b]) σ22) fun v25 σ26 => v25 = v2 ∧ σ26 = σ2) ∧ Grow σ'.length 2 σ2 v2 ((B.take k ++ [b]).map pvBind) ∧ σ' <+: σ2 := by
      by_cases hk0 : B.take k = []
      · refine ⟨.sref σ'.length 0 2 0 1, σ' ++ [.arr 0 2 [pvBind b]], ?_, ?_, ⟨_, rfl⟩⟩
        · rw [app_full_nil (by rw [hk0]; rfl)]
          simp only [zC]
          rw [app_full (zs := [pvBind b]) rfl (by simp) (by simpa using sizedBind b) (by simp)]
          exact ⟨rfl, rfl⟩
        · rw [hk0]
          exact .inr ⟨σ'.length, 0, Nat.le_refl _, rfl, new_get _ _, by simp⟩
      · have hzl : ((B.take k).map pvBind).length * 32 ≤ 140737488355328 := by simp; omega
        have hgr : Grow σ'.length 2 (σ' ++ [.arr 0 2 ((B.take k).map pvBind)]) (.sref σ'.length 0 2 0 ((B.take k).map pvBind).length) ((B.take k).map pvBind) := .inr ⟨σ'.length, 0, Nat.le_refl _, rfl, new_get _ _, by simpa using hk0⟩
        obtain ⟨v', σ'', e1, e2, e3, _⟩ := hgr.app (by_ := 32) (y := .list .full [pvBind b]) ⟨_, rfl⟩ rfl (by simpa using sizedBind b) (by simp; omega)
        refine ⟨v', σ'', ?_, by simpa using e2, e3⟩
        rw [app_full rfl (by simpa using hk0) sized_binds hzl]
        simp only [zC, e1, and_self]
    obtain ⟨v2, σ2, hrun, hgr, hp⟩ := hg
    obtain ⟨v', σ'', e1, e2, e3, _⟩ := hgr.app (by_ := 32) (y := .list (bk.sub true) ((B.drop k).map pvBind)) hp rfl sized_binds (by simp; omega)
    have hfin : weakW σ' v' σ'' fun v σ => R (.ret v) σ := by
      refine weakW_clean e3 (v' := .list .part ((ins b B).map pvBind)) ?_ hR
      have hel : (B.take k ++ [b]).map pvBind ++ (B.drop k).map pvBind = (ins b B).map pvBind := by
        rw [← List.map_append, ← hins]
        simp
      rw [hel] at e2
      have := e2.frz fun y hy => by
        obtain ⟨p, _, rfl⟩ := List.mem_map.1 hy
        exact .base _ (underBind _ p)
      have hne : ins b B ≠ [] := by rw [← hins]; simp
      cases hi : ins b B with
      | nil => exact absurd hi hne
      | cons a l => rw [hi] at this; exact this
    simp only [hs0, hs1, hs2, hbt, vBuildSl_one (sizedBind b), zz, Nat.reduceEqDiff]
    cases ha : vAppend 2 32 (.list .full []) (.list (bk.sub (k == B.length)) ((B.take k).map pvBind)) σ' with
    | none => rw [ha] at hrun; exact hrun.elim
    | some r =>
      rw [ha] at hrun
      simp only [zC] at hrun ⊢
      cases ha2 : vAppend 2 32 r.1 (.list .full [pvBind b]) r.2 with
      | none => rw [ha2] at hrun; exact hrun.elim
      | some r2 =>
        rw [ha2] at hrun
        simp only [zC] at hrun ⊢
        obtain ⟨h1, h2⟩ := hrun
        rw [h1, h2, e1]
        exact hfin
  · refine Lfp_up B.length (fun k x σ' => x = lookP [(0, .list bk (B.map pvBind)), (5, .int .i64 (k : Nat)), (3, pvBind b)] ∧ σ' = σ ∧ ∀ x ∈ B.take k, ltB x.1 b.1 = true) ?_ ⟨rfl, rfl, fun x hx => by simp at hx⟩
    rintro Φ k x σ' hk ⟨rfl, rfl, hlt⟩ next
    simp only [List.length_map, zz, Nat.reduceEqDiff]
    by_cases hkl : k < B.length
    · have hgi : B[k]? = some B[k] := by simp [hkl]
      generalize B[k] = y at hgi
      have hy0 : vPart false 1 (pvBind y) 0 = some (.str y.1) := rfl
      simp only [hkl, encBind.index hgi, hy0, hb0, lss_str, zz, Nat.reduceEqDiff]
      cases hl : ltB y.1 b.1 with
      | true =>
        simp only [add_one (a := k) (by omega), zz, Nat.reduceEqDiff]
        refine next _ _ hkl ⟨rfl, rfl, fun x hx => ?_⟩
        rw [List.take_add_one, hgi] at hx
        rcases List.mem_append.1 hx with hx | hx
        · exact hlt x hx
        · simp at hx; subst hx; exact hl
      | false =>
        simp only [zz, Nat.reduceEqDiff]
        exact ⟨k, hk, rfl, trivial, ins_split hk hlt fun x hx => by rw [hgi] at hx; cases hx; exact hl⟩
    · obtain rfl : k = B.length := by omega
      simp only [hkl, zz, Nat.reduceEqDiff]
      exact ⟨B.length, Nat.le_refl _, rfl, trivial, ins_split (Nat.le_refl _) hlt fun x hx => by simp at hx⟩

/-! ### What has been found -/

theorem ins_len (b : Bind) : ∀ B : Binds, (ins b B).length = B.length + 1
  | [] => rfl
  | a :: B => by
    unfold ins
    split
    · simp [ins_len b B]
    · simp

end Go.Proofs.YtiniifbmeobmgaaGreatDoor
