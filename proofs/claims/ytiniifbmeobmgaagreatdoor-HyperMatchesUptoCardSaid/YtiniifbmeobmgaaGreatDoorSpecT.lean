/- The reference's search for bindings. -/
import Derived.Test.YtiniifbmeobmgaaGreatDoorSpecS
set_option linter.unusedVariables false
set_option linter.unusedSimpArgs false
namespace Go.Proofs.YtiniifbmeobmgaaGreatDoor
open Go Go.Abs

theorem ins_split : ∀ {B : Binds} {k : Nat} {b : Bind}, k ≤ B.length → (∀ x ∈ B.take k, ltB x.1 b.1 = true) → (∀ x, B[k]? = some x → ltB x.1 b.1 = false) → B.take k ++ b :: B.drop k = ins b B
  | [], k, b, hk, _, _ => by
    obtain rfl : k = 0 := by simpa using hk
    rfl
  | a :: B, 0, b, _, _, h => by
    have := h a rfl
    simp [ins, this]
  | a :: B, k + 1, b, hk, h1, h2 => by
    have ha := h1 a (by simp)
    have ih := @ins_split B k b (by simpa using hk) (fun x hx => h1 x (by simp [hx])) (fun x hx => h2 x (by simpa using hx))
    simp only [List.take_succ_cons, List.drop_succ_cons, List.cons_append, ins, ha, if_true, ih]

theorem lss_str (a b : Str) : vBin none .lss (.str a) (.str b) = some (.bool (ltB a b)) := by simp [vBin, vStrOp]

theorem app_full_nil {sz by_ : Nat} {σ : St} {y : PV} (h : vElems y σ = some []) : vAppend sz by_ (.list .full []) y σ = some (.list .full [], σ) := by
  simp [vAppend, h]
theorem app_full {sz by_ : Nat} {σ : St} {y : PV} {zs : List PV} (h : vElems y σ = some zs) (hne : zs ≠ []) (hz : ∀ z ∈ zs, Sized sz z) (hr : zs.length * by_ ≤ 140737488355328) : vAppend sz by_ (.list .full []) y σ = some (.sref σ.length 0 sz 0 zs.length, σ ++ [.arr 0 sz zs]) := by
  have hroom : roomy zs.length by_ = true := by simp [roomy, hr]
  cases zs with
  | nil => exact absurd rfl hne
  | cons z zs =>
    simp only [vAppend, h]
    simp only [List.isEmpty_cons, Bool.false_eq_true, if_false, List.length_nil, Nat.zero_add]
    rw [if_pos ⟨by simp, hroom, rfl, headSized_of hz⟩]
    rfl

theorem sized_binds {B : Binds} : ∀ z ∈ B.map pvBind, Sized 2 z := fun z hz => by
  obtain ⟨b, _, rfl⟩ := List.mem_map.1 hz
  exact sizedBind b

theorem head_binds (B : Binds) : headSized 2 (B.map pvBind) = true := headSized_of sized_binds

theorem c147 {B : Binds} (hB : B.length ≤ 1000) {bk : LK} (b : Bind) (σ : St) : Ret W 147 [.list bk (B.map pvBind), pvBind b] σ (.list .part ((ins b B).map pvBind)) := by
  refine ret_of fun R hR => ?_
  rw [fn147_eq]
  unfold fn147
  have hbx : opC.vBoxAny (pvBind b) = some (2, pvBind b) := rfl
  have hb0 : vPart false 1 (pvBind b) 0 = some (.str b.1) := rfl
  have hbt : vPart true 2 (pvBind b) 0 = some (pvBind b) := rfl
  simp only [hbx, zz, Nat.reduceEqDiff, if_true, if_false, decide_true, decide_false, eq_self]
  refine CutW_by (fun x σ' => ∃ k, k ≤ B.length ∧ x = lookP [(0, .list bk (B.map pvBind)), (5, .int .i64 (k : Nat)), (3, pvBind b)] ∧ σ' = σ ∧ B.take k ++ b :: B.drop k = ins b B) ?_ ?_
  · rintro x σ' ⟨k, hk, rfl, rfl, hins⟩
    have hs0 : vBuildSl 2 (List.replicate 0 (.agg [(.str []), (.str [])])) [] = some [] := rfl
    have hs1 : vSubSl 2 (.list bk (B.map pvBind)) none (some (.int .i64 (k : Nat))) = some (.list (bk.sub (k == B.length)) ((B.take k).map pvBind)) := by
      simp [vSubSl, bound, hk, head_binds, List.map_take]
    have hs2 : vSubSl 2 (.list bk (B.map pvBind)) (some (.int .i64 (k : Nat))) none = some (.list (bk.sub true) ((B.drop k).map pvBind)) := by
      simp [vSubSl, bound, hk, head_binds, List.map_drop, List.take_of_length_le]
    have hg : ∃ v2 σ2, bindS (vAppend 2 32 (.list .full []) (.list (bk.sub (k == B.length)) ((B.take k).map pvBind)) σ') (fun v21 σ22 => bindS (vAppend 2 32 v21 (.list .full [pvBind b]) σ22) fun v25 σ26 => v25 = v2 ∧ σ26 = σ2) ∧ Grow σ'.length 2 σ2 v2 ((B.take k ++ [b]).map pvBind) ∧ σ' <+: σ2 := by
      by_cases hk0 : B.take k = []
      · refine ⟨.sref σ'.length 0 2 0 1, σ' ++ [.arr 0 2 [pvBind b]], ?_, ?_, ⟨_, rfl⟩⟩
        · rw [app_full_nil (by rw [hk0]; rfl)]
          simp only [zC]
          rw [app_full (zs := [pvBind b]) rfl (by simp) (by simpa using sizedBind b) (by simp)]
          exact ⟨rfl, rfl⟩
        · rw [hk0]
          exact .inr ⟨σ'.length, 0, Nat.le_refl _, rfl, new_get _ _, by simp⟩
      · have hzl : ((B.take k).map pvBind).length * 32 ≤ 140737488355328 := by simp; omega
        have hgr : Grow σ'.length 2 (σ' ++ [.arr 0 2 ((B.take k).map pvBind)]) (.sref σ'.length 0 2 0 ((B.take k).map pvBind).length) ((B.take k).map pvBind) := .inr ⟨σ'.length, 0, Nat.le_refl _, rfl, new_get _ _, by simpa using hk0⟩
        obtain ⟨v', σ'', e1, e2, e3, _⟩ := hgr.app (by_ := 32) (y := .list .full [pvBind b]) ⟨_, rfl⟩ rfl (by simpa using sizedBind b) (by simp; omega)
        refine ⟨v', σ'', ?_, by simpa using e2, e3⟩
        rw [app_full rfl (by simpa using hk0) sized_binds hzl]
        simp only [zC, e1, and_self]
    obtain ⟨v2, σ2, hrun, hgr, hp⟩ := hg
    obtain ⟨v', σ'', e1, e2, e3, _⟩ := hgr.app (by_ := 32) (y := .list (bk.sub true) ((B.drop k).map pvBind)) hp rfl sized_binds (by simp; omega)
    have hfin : weakW σ' v' σ'' fun v σ => R (.ret v) σ := by
      refine weakW_clean e3 (v' := .list .part ((ins b B).map pvBind)) ?_ hR
      have hel : (B.take k ++ [b]).map pvBind ++ (B.drop k).map pvBind = (ins b B).map pvBind := by
        rw [← List.map_append, ← hins]
        simp
      rw [hel] at e2
      have := e2.frz fun y hy => by
        obtain ⟨p, _, rfl⟩ := List.mem_map.1 hy
        exact .base _ (underBind _ p)
      have hne : ins b B ≠ [] := by rw [← hins]; simp
      cases hi : ins b B with
      | nil => exact absurd hi hne
      | cons a l => rw [hi] at this; exact this
    simp only [hs0, hs1, hs2, hbt, vBuildSl_one (sizedBind b), zz, Nat.reduceEqDiff, if_true, if_false, decide_true, decide_false, eq_self]
    cases ha : vAppend 2 32 (.list .full []) (.list (bk.sub (k == B.length)) ((B.take k).map pvBind)) σ' with
    | none => rw [ha] at hrun; exact hrun.elim
    | some r =>
      rw [ha] at hrun
      simp only [zC] at hrun ⊢
      cases ha2 : vAppend 2 32 r.1 (.list .full [pvBind b]) r.2 with
      | none => rw [ha2] at hrun; exact hrun.elim
      | some r2 =>
        rw [ha2] at hrun
        simp only [zC] at hrun ⊢
        obtain ⟨h1, h2⟩ := hrun
        rw [h1, h2, e1]
        exact hfin
  · refine Lfp_up B.length (fun k x σ' => x = lookP [(0, .list bk (B.map pvBind)), (5, .int .i64 (k : Nat)), (3, pvBind b)] ∧ σ' = σ ∧ ∀ x ∈ B.take k, ltB x.1 b.1 = true) ?_ ⟨rfl, rfl, fun x hx => by simp at hx⟩
    rintro Φ k x σ' hk ⟨rfl, rfl, hlt⟩ next
    simp only [List.length_map, zz, Nat.reduceEqDiff, if_true, if_false, decide_true, decide_false, eq_self]
    by_cases hkl : k < B.length
    · have hgi : B[k]? = some B[k] := by simp [hkl]
      generalize B[k] = y at hgi
      have hy0 : vPart false 1 (pvBind y) 0 = some (.str y.1) := rfl
      simp only [hkl, encBind.index hgi, hy0, hb0, lss_str, zz, Nat.reduceEqDiff, if_true, if_false, decide_true, decide_false, eq_self]
      cases hl : ltB y.1 b.1 with
      | true =>
        simp only [add_one (a := k) (by omega), zz, Nat.reduceEqDiff, if_true, if_false, decide_true, decide_false, eq_self]
        refine next _ _ hkl ⟨rfl, rfl, fun x hx => ?_⟩
        rw [List.take_add_one, hgi] at hx
        rcases List.mem_append.1 hx with hx | hx
        · exact hlt x hx
        · simp at hx; subst hx; exact hl
      | false =>
        simp only [zz, Nat.reduceEqDiff, if_true, if_false, decide_true, decide_false, eq_self]
        exact ⟨k, hk, rfl, trivial, ins_split hk hlt fun x hx => by rw [hgi] at hx; cases hx; exact hl⟩
    · obtain rfl : k = B.length := by omega
      simp only [hkl, zz, Nat.reduceEqDiff, if_true, if_false, decide_true, decide_false, eq_self]
      exact ⟨B.length, Nat.le_refl _, rfl, trivial, ins_split (Nat.le_refl _) hlt fun x hx => by simp at hx⟩

/-! ### What has been found -/

/-- Binds, wherever they lie. -/
def BAt (σ : St) (e : PV) (B : Binds) : Prop := (∃ k, e = .list k (B.map pvBind)) ∨ ∃ b g, e = .sref b g 2 0 B.length ∧ σ[b]? = some (.arr g 2 (B.map pvBind))

theorem BAt.elems {σ : St} {e : PV} {B : Binds} (h : BAt σ e B) : Elems σ 2 e (B.map pvBind) := by
  rcases h with ⟨k, rfl⟩ | ⟨b, g, rfl, hb⟩
  · exact .list _ _
  · have := Elems.sref (σ := σ) (sz := 2) b g 0 2 (B.map pvBind) (B.map pvBind) hb (by simp) (by simp [List.take_of_length_le])
    simpa using this

structure OutAt (n0 : Nat) (σ : St) (ov : PV) (out : List Binds) (es : List PV) : Prop where
  grow : Grow n0 1 σ ov es
  len : es.length = out.length
  mem : ∀ (i : Nat) e B, es[i]? = some e → out[i]? = some B → BAt σ e B

theorem OutAt.nil (n0 : Nat) (σ : St) : OutAt n0 σ (.list .nil []) [] [] := ⟨.nil _ _ _, rfl, fun i e B h => by simp at h⟩

/-- Where nothing of it has changed. -/
theorem OutAt.keep {n0 : Nat} {σ σ' : St} {ov : PV} {out : List Binds} {es : List PV} (h : OutAt n0 σ ov out es) (hs : ∀ c < σ.length, σ'[c]? = σ[c]?) : OutAt n0 σ' ov out es := by
  have hget : ∀ {c : Nat} {k : Blk}, σ[c]? = some k → σ'[c]? = some k := fun {c k} hk => by rw [hs c (List.getElem?_eq_some_iff.1 hk).1]; exact hk
  refine ⟨?_, h.len, fun i e B h1 h2 => ?_⟩
  · rcases h.grow with hh | ⟨b, g, h1, h2, h3, h4⟩
    · exact .inl hh
    · exact .inr ⟨b, g, h1, h2, hget h3, h4⟩
  · rcases h.mem i e B h1 h2 with hh | ⟨b, g, h3, h4⟩
    · exact .inl hh
    · exact .inr ⟨b, g, h3, hget h4⟩

/-- One more is found. -/
theorem OutAt.app {n0 : Nat} {σ0 : St} (hn : σ0.length = n0) {σ : St} {ov e : PV} {out : List Binds} {es : List PV} {B : Binds} (h : OutAt n0 σ ov out es) (hp : σ0 <+: σ) (he : BAt σ e B) (hl : out.length ≤ 1000) :
    ∃ ov' σ', vAppend 1 24 ov (.list .full [e]) σ = some (ov', σ') ∧ OutAt n0 σ' ov' (out ++ [B]) (es ++ [e]) ∧ σ0 <+: σ' := by
  have hsz : Sized 1 e := by
    rcases he with ⟨k, rfl⟩ | ⟨b, g, rfl, _⟩
    · exact ⟨_, rfl, rfl⟩
    · exact ⟨_, rfl, rfl⟩
  subst hn
  have hel := h.len
  obtain ⟨v', σ', e1, e2, e3, e4⟩ := h.grow.app (by_ := 24) (y := .list .full [e]) hp rfl (by simpa using hsz) (by simp; omega)
  have hbk : ∀ {c g : Nat} {ys : List PV}, σ[c]? = some (.arr g 2 ys) → σ'[c]? = some (.arr g 2 ys) := fun {c g ys} hc => by
    rw [e4 c (fun b g' z o l ho hcb => ?_) (List.getElem?_eq_some_iff.1 hc).1]
    · exact hc
    · subst hcb
      rcases h.grow with ⟨hh, _⟩ | ⟨b, g2, h1, h2, h3, h4⟩
      · rw [ho] at hh; cases hh
      · rw [ho] at h2
        cases h2
        rw [h3] at hc
        simp at hc
  have hmem : ∀ {x : PV} {Y : Binds}, BAt σ x Y → BAt σ' x Y := fun {x Y} hx => by
    rcases hx with hh | ⟨b, g, h3, h4⟩
    · exact .inl hh
    · exact .inr ⟨b, g, h3, hbk h4⟩
  refine ⟨v', σ', e1, ⟨e2, by simp [hel], fun i x Y h1 h2 => ?_⟩, e3⟩
  by_cases hi : i < es.length
  · rw [List.getElem?_append_left hi] at h1
    rw [List.getElem?_append_left (by omega)] at h2
    exact hmem (h.mem i x Y h1 h2)
  · rw [List.getElem?_append_right (by omega)] at h1
    rw [List.getElem?_append_right (by omega)] at h2
    have : i - es.length = 0 := by
      cases hh : i - es.length with
      | zero => rfl
      | succ j => rw [hh] at h1; simp at h1
    rw [this] at h1
    rw [show i - out.length = 0 by omega] at h2
    simp at h1 h2
    subst h1 h2
    exact hmem he

theorem take_take_app {α : Type} (k : Nat) (xs ys : List α) : (xs.take k ++ ys).take k = (xs ++ ys).take k := by
  by_cases h : xs.length ≤ k
  · rw [List.take_of_length_le h]
  · have h1 : (xs.take k).length = k := by simp; omega
    rw [List.take_append_of_le_length (by omega), List.take_append_of_le_length (by omega), List.take_take, Nat.min_self]

theorem tot_sub (ws : List Str) (a n : Nat) : tot ((ws.drop a).take n) ≤ tot ws := by
  have h1 := tot_take (ws.drop a) n
  have h2 := tot_app (ws.take a) (ws.drop a)
  rw [List.take_append_drop] at h2
  omega

theorem drop_take_eq (ws : List Str) (a b : Nat) : (ws.take b).drop a = (ws.drop a).take (b - a) := by
  rw [List.drop_take]

/-- Each binding is a text that its metanotion produces. -/
def BOk (g : Gram) (ws : List Str) (B : Binds) : Prop := ∀ b ∈ B, ∃ a n, a + n ≤ ws.length ∧ b.2 = jn ws a n ∧ derG g ws (ixN (names g) (metaOf b.1)) a (a + n) = true

theorem bok_ins {g : Gram} {ws : List Str} {B : Binds} {b : Bind} (h : BOk g ws B) (hb : ∃ a n, a + n ≤ ws.length ∧ b.2 = jn ws a n ∧ derG g ws (ixN (names g) (metaOf b.1)) a (a + n) = true) : BOk g ws (ins b B) := fun x hx => by
  rcases mem_ins.1 hx with rfl | hx
  · exact hb
  · exact h x hx

theorem valueOf_in {B : Binds} {n v : Str} (h : valueOf B n = some v) : (n, v) ∈ B := by
  unfold valueOf at h
  rw [Option.map_eq_some_iff] at h
  obtain ⟨b, h1, h2⟩ := h
  have h3 := List.find?_some h1
  have h4 := List.mem_of_find?_eq_some h1
  have : b = (n, v) := by
    obtain ⟨x, y⟩ := b
    simp at h3 h2
    rw [h3, h2]
  rw [← this]
  exact h4

theorem ins_len (b : Bind) : ∀ B : Binds, (ins b B).length = B.length + 1
  | [] => rfl
  | a :: B => by
    unfold ins
    split
    · simp [ins_len b B]
    · simp

/-- Where a bound parameter may stand: the package asks the table too. -/
theorem bound_same {g : Gram} {ws : List Str} {T : Tab} (hw : ∀ w ∈ ws, isWord w = true) (hT : ∀ a b, a ≤ b → b ≤ ws.length → RightG g ws T a b) {B : Binds} (hB : BOk g ws B) {p : Part} (hp : p.1 = true) (hix : ixN (names g) (metaOf p.2) < g.1.2.length) {v : Str} (hv : valueOf B p.2 = some v) {a n : Nat} (hn : a + n ≤ ws.length) :
    (fpart g ws T p a (a + n) && (jn ws a n == v)) = ((jn ws a n == v) && (jn ws a n != [] || decide (n = 0))) := by
  cases he : (jn ws a n == v) with
  | false => simp
  | true =>
    have he : jn ws a n = v := eq_of_beq he
    simp only [Bool.and_true, Bool.true_and]
    have h1 : fpart g ws T p a (a + n) = true := by
      obtain ⟨a', n', h1, h2, h3⟩ := hB _ (valueOf_in hv)
      simp only at h2 h3
      obtain ⟨hnn, hww⟩ := part_same hw h1 hn (by rw [he]; exact h2.symm)
      subst hnn
      simp only [partB, hp, if_true]
      rw [hT a (a + n') (by omega) hn _ hix]
      exact derB_iff.2 (der_shift (derB_iff.1 h3) rfl hww)
    rw [h1]
    by_cases h0 : n = 0
    · simp [h0]
    · have : jn ws a n ≠ [] := fun hh => h0 (jn_nil hw hn hh)
      simp [this]

end Go.Proofs.YtiniifbmeobmgaaGreatDoor
