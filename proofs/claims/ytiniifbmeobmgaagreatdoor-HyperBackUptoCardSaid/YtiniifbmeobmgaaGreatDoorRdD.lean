/- The package's reader: rules. -/
import Derived.Test.YtiniifbmeobmgaaGreatDoorRdC
set_option linter.unusedVariables false
set_option linter.unusedSimpArgs false
namespace Go.Proofs.YtiniifbmeobmgaaGreatDoor
open Go Go.Abs

theorem growV_snoc (ys : List PV) (z : PV) : growV (ys ++ [z]) = .list .part (ys ++ [z]) := by cases ys <;> rfl

theorem get_snoc {ys : List PV} {z z' : PV} {Q : PV → PV → Prop} (h1 : ∀ y ∈ ys, Q y y) (h2 : Q z z') : ∀ (i : Nat) (x y : PV), (ys ++ [z])[i]? = some x → (ys ++ [z'])[i]? = some y → Q x y := by
  intro i x y hx hy
  rcases Nat.lt_or_ge i ys.length with h | h
  · rw [List.getElem?_append_left h] at hx hy
    rw [hx] at hy
    cases hy
    exact h1 _ (List.mem_of_getElem? hx)
  · rw [List.getElem?_append_right h] at hx hy
    have hi : i - ys.length = 0 := by have := (List.getElem?_eq_some_iff.1 hx).1; simp at this; omega
    rw [hi] at hx hy
    cases hx
    cases hy
    exact h2

/-- A slice that grew, its last member with slices of its own. -/
theorem grow_frz_last {n0 sz : Nat} {σ : St} {x z z' : PV} {ys : List PV} (h : Grow n0 sz σ x (ys ++ [z])) {D : Nat → Prop} (hD : ∀ b, n0 ≤ b → D b) (hy : ∀ y ∈ ys, Flat y) (hz : FrzD σ D z z') : FrzD σ D x (growV (ys ++ [z'])) := by
  rcases h with ⟨_, h⟩ | ⟨b, g, hb0, rfl, hb, hne⟩
  · simp at h
  · rw [growV_snoc]
    refine .sref b g sz 0 _ g sz _ _ hb rfl (hD b hb0) (by simp) (by simp) fun i a c hi ha hc => ?_
    rw [Nat.zero_add] at ha
    exact get_snoc (fun y hh => (hy y hh).frz σ D) hz i a c ha hc

def AtB (v : PV) (c : Nat) : Prop := ∃ g q o l, v = .sref c g q o l

/-- What a slice's last member names is given up; the slice goes on growing. -/
theorem kill_grow {σ σ1 : St} {P : Nat} {cs : List PV} (hP : P < σ.length) (hl : σ.length ≤ σ1.length) (hc : Has σ1 P cs) (hcs : ∀ x ∈ cs, Flat x) {n0 sz : Nat} {v z z' : PV} {ys : List PV} (hn0 : P < n0)
    (hG : Grow n0 sz σ1 v (ys ++ [z])) (hy : ∀ y ∈ ys, Flat y) (hsame : ∀ c < σ.length, c ≠ P → ¬ AtB v c → σ1[c]? = σ[c]?) (hz : FrzD σ1 (fun c => σ.length ≤ c ∧ ¬ AtB v c) z z') :
    ∃ σ'', Kill σ (fun c => σ.length ≤ c ∧ ¬ AtB v c) σ1 σ'' ∧ Has σ'' P cs ∧ σ''.length = σ1.length ∧ Grow n0 sz σ'' v (ys ++ [z']) ∧ ∀ c < σ.length, c ≠ P → ¬ AtB v c → σ''[c]? = σ[c]? := by
  rcases hG with ⟨_, h⟩ | ⟨b, g, hb0, rfl, hb, hne⟩
  · simp at h
  have hbl : b < σ1.length := (List.getElem?_eq_some_iff.1 hb).1
  have hat : ∀ c, AtB (.sref b g sz 0 (ys ++ [z]).length) c ↔ c = b := by
    intro c
    constructor
    · rintro ⟨g', q, o, l, h⟩
      cases h
      rfl
    · rintro rfl
      exact ⟨_, _, _, _, rfl⟩
  have hlen : (σ1.take σ.length ++ List.replicate (σ1.length - σ.length) Blk.dead).length = σ1.length := by simp; omega
  have hget : ∀ c, c ≠ b → ((σ1.take σ.length ++ List.replicate (σ1.length - σ.length) Blk.dead).set b (.arr g sz (ys ++ [z'])))[c]? = if c < σ.length then σ1[c]? else if c < σ1.length then some .dead else none := by
    intro c hcb
    rw [List.getElem?_set, if_neg (Ne.symm hcb)]
    split
    · rename_i h
      rw [List.getElem?_append_left (by simp; omega), List.getElem?_take_of_lt h]
    · rename_i h
      rw [List.getElem?_append_right (by simp; omega), List.getElem?_replicate]
      simp only [List.length_take]
      split <;> split <;> first | rfl | omega
  have hgb : ((σ1.take σ.length ++ List.replicate (σ1.length - σ.length) Blk.dead).set b (.arr g sz (ys ++ [z'])))[b]? = some (.arr g sz (ys ++ [z'])) := by
    rw [List.getElem?_set, if_pos rfl, if_pos (by rw [hlen]; exact hbl)]
  refine ⟨(σ1.take σ.length ++ List.replicate (σ1.length - σ.length) Blk.dead).set b (.arr g sz (ys ++ [z'])), ⟨fun c h => h.1, by rw [List.length_set, hlen]; exact Nat.le_refl _, fun c h1 h2 => by rw [List.length_set, hlen] at h1; omega, fun c k' hk => ?_⟩, ?_, by rw [List.length_set, hlen], ?_, fun c h1 h2 h3 => ?_⟩
  · by_cases hcb : c = b
    · subst hcb
      rw [hgb] at hk
      cases hk
      refine .inr ⟨fun h => h.2 ((hat c).2 rfl), _, hb, .inl (.inr ⟨_, rfl, by simp, fun i x y hx hy' => ?_⟩)⟩
      exact get_snoc (fun y hh => (hy y hh).frz _ _) hz i x y hx hy'
    · rw [hget c hcb] at hk
      split at hk
      · rename_i h
        refine .inr ⟨fun hh => by omega, k', hk, ?_⟩
        by_cases hcP : c = P
        · subst hcP
          unfold Has at hc
          rw [hc] at hk
          cases hk
          refine .inl (.inr ⟨_, rfl, rfl, fun i x y hx hy' => ?_⟩)
          rw [hx] at hy'
          cases hy'
          have : x = .agg cs := by simpa using List.mem_of_getElem? hx
          subst this
          exact (Flat.agg _ hcs).frz _ _
        · exact .inr ⟨rfl, by rw [← hsame c h hcP (fun hh => hcb ((hat c).1 hh))]; exact hk⟩
      · split at hk
        · cases hk; exact .inl rfl
        · cases hk
  · have hPb : P ≠ b := by omega
    unfold Has at hc ⊢
    rw [hget P hPb, if_pos hP]
    exact hc
  · exact .inr ⟨b, g, hb0, by simp, hgb, by simp⟩
  · have hcb : c ≠ b := fun hh => h3 ((hat c).2 hh)
    rw [hget c hcb, if_pos h1]
    exact hsame c h1 h2 h3

theorem lookP_free {D : Nat → Prop} : ∀ (l : List (Nat × PV)) (t : Nat), (∀ e ∈ l, Free D e.2) → Free D (lookP l t)
  | [], t, h => .any
  | (k, x) :: l, t, h => by
    simp only [lookP]
    split
    · exact h (k, x) (by simp)
    · exact lookP_free l t fun e he => h e (by simp [he])

theorem pre_same {σ σ' : St} {P : Nat} {cs : List PV} (h : cd σ P cs <+: σ') : σ.length ≤ σ'.length ∧ ∀ c < σ.length, c ≠ P → σ'[c]? = σ[c]? := by
  refine ⟨by have := h.length_le; simpa [cd] using this, fun c hc hne => ?_⟩
  obtain ⟨g, rfl⟩ := h
  rw [List.getElem?_append_left (by simpa [cd] using hc), cd_ne hne]

theorem same_pre {σ σ' : St} {P : Nat} {cs : List PV} (hP : P < σ.length) (hl : σ.length ≤ σ'.length) (h : Has σ' P cs) (hs : ∀ c < σ.length, c ≠ P → σ'[c]? = σ[c]?) : cd σ P cs <+: σ' := by
  rw [List.prefix_iff_eq_take]
  refine List.ext_getElem? fun c => ?_
  rw [cd_len]
  by_cases hc : c < σ.length
  · rw [List.getElem?_take_of_lt hc]
    by_cases hcP : c = P
    · subst hcP
      have := cd_has hP cs
      unfold Has at this h
      rw [this, h]
    · rw [cd_ne hcP, hs c hc hcP]
  · rw [List.getElem?_eq_none (by rw [cd_len]; omega), List.getElem?_eq_none (by simp; omega)]

theorem grow_not {n0 sz : Nat} {σ : St} {x : PV} {ys : List PV} (h : Grow n0 sz σ x ys) {c : Nat} (hc : AtB x c) : n0 ≤ c ∧ c < σ.length := by
  obtain ⟨g, q, o, l, rfl⟩ := hc
  rcases h with ⟨h, _⟩ | ⟨b, g, hb0, h, hb, hne⟩
  · cases h
  · cases h
    exact ⟨hb0, (List.getElem?_eq_some_iff.1 hb).1⟩

/-- A slice that grew stays where its block stays. -/
theorem grow_stay {n0 sz : Nat} {σ σ' : St} {x : PV} {ys : List PV} (h : Grow n0 sz σ x ys) (hs : ∀ c, AtB x c → σ'[c]? = σ[c]?) : Grow n0 sz σ' x ys := by
  rcases h with h | ⟨b, g, h1, h2, h3, h4⟩
  · exact .inl h
  · exact .inr ⟨b, g, h1, h2, by rw [hs b (by rw [h2]; exact ⟨_, _, _, _, rfl⟩)]; exact h3, h4⟩

theorem c38 {l : List Part} (hl : l.length ≤ 65536) (hne : l ≠ []) (σ : St) : Ret W 38 [pvParts (reK l)] σ (pvParts (reK l)) := by
  refine ret_of fun R hR => ?_
  rw [fn38_eq]
  unfold fn38
  cases l with
  | nil => exact absurd rfl hne
  | cons a l =>
    have h0 : vBin (some .sl) .eql (pvParts (reK (a :: l))) (.list .nil []) = some (.bool false) := rfl
    have h1 : vBuildSl 2 (List.replicate 0 (.agg [.bool false, .str []])) [] = some [] := rfl
    obtain ⟨x', σ', h2, h3, h4, _⟩ := (Grow.app (σ0 := σ) (σ := σ) (sz := 2) (by_ := 24) (x := .list .nil []) (ys := []) (y := pvParts (reK (a :: l))) (zs := (a :: l).map pvPart) (Grow.nil _ _ _) (List.prefix_refl _) rfl
      (fun z hz => by obtain ⟨p, _, rfl⟩ := List.mem_map.1 hz; exact sizedPart p) (by simp at hl ⊢; omega))
    have h2' : vAppend 2 24 (.list .full []) (pvParts (reK (a :: l))) σ = some (x', σ') := by
      have he : vElems (pvParts (reK (a :: l))) σ = some (pvPart a :: l.map pvPart) := rfl
      simp only [vAppend, he, List.isEmpty_cons] at h2 ⊢
      simpa using h2
    simp only [h0, h1, h2', zz, Nat.reduceEqDiff, if_true, if_false, decide_true, decide_false, eq_self]
    refine weakW_clean h4 (h3.frz fun y hy => ?_) ?_
    · obtain ⟨p, _, rfl⟩ := List.mem_map.1 hy
      exact .base _ (underPart _ p)
    · rw [List.nil_append, growV_sl]
      exact hR


theorem grow_blk {n0 sz : Nat} {σ : St} {x : PV} {ys : List PV} (h : Grow n0 sz σ x ys) {c : Nat} (hc : AtB x c) : ∃ g, σ[c]? = some (.arr g sz ys) := by
  obtain ⟨g, q, o, l, rfl⟩ := hc
  rcases h with ⟨h, _⟩ | ⟨b, g, hb0, h, hb, hne⟩
  · cases h
  · cases h
    exact ⟨_, hb⟩

theorem grow_frz_at {n0 sz : Nat} {σ : St} {x : PV} {ys : List PV} (h : Grow n0 sz σ x ys) {D : Nat → Prop} (hD : ∀ c, AtB x c → D c) (hu : ∀ y ∈ ys, Flat y) : FrzD σ D x (growV ys) := by
  rcases h with ⟨rfl, rfl⟩ | ⟨b, g, hb0, rfl, hb, hne⟩
  · exact .list _ _ _ rfl (by simp)
  · cases ys with
    | nil => exact absurd rfl hne
    | cons y ys =>
      refine .sref b g sz 0 _ g sz _ _ hb rfl (hD b ⟨_, _, _, _, rfl⟩) rfl (by omega) fun i a c hi ha hc => ?_
      rw [Nat.zero_add, hc] at ha
      cases ha
      exact (hu a (List.mem_of_getElem? hc)).frz _ _

def ruleE (left : List Part) (x : List (List Part)) : PV := pvRule (mkRule (left, x))

theorem sgn_part {ts : List Tok} (h : isPart ts = true) : sgn ts = [] := by
  cases ts with
  | nil => rfl
  | cons t ts => simp only [isPart] at h; simp [sgn, h]

theorem c139 {s : Str} (hs : s.length < 4611686018427387903) {f : Option Flt} {t0 : Tok} {ts : List Tok} (hn : (t0 :: ts).length ≤ 65536) {n : Nat} (hnf : ts.length + 1 < n) {σ : St} {P : Nat} (h : Has σ P (hcells s (t0 :: ts))) (hv : Val s f (t0 :: ts))
    {left : List Part} (hll : left.length ≤ 65536) (hne : left ≠ []) {R : Res → St → Prop}
    (hR : ∀ l r, rulesF s f n (t0 :: ts) = .ok (l, r) → R (.ret (pvSl pvRule (reK (l.map fun x => mkRule (left, x))))) (cd σ P (hcells s r)))
    (hX : ∀ e σ', rulesF s f n (t0 :: ts) = .error e → σ.take P <+: σ' → R (.pan (fpv e)) σ')
    (hW : ∀ (l : Sl Rule19) r, rulesF s f n (t0 :: ts) = .error (wrongF s r) → (sgn r == [46]) = false → Val s f r → l.2.length ≤ 65536 → R (.ret (pvSl pvRule l)) (cd σ P (hcells s r))) :
    W 139 [.ptr P 0 0 0, pvParts (reK left)] σ R := by
  have hP := h.lt
  refine callW_fold ?_
  rw [fn139_eq]
  unfold fn139
  refine Lfp_down (fun m x σ' => ∃ u us v acc, x = lookP [(0, .ptr P 0 0 0), (1, pvParts (reK left)), (5, v)] ∧ us.length + 1 < m ∧ acc.length + (u :: us).length ≤ (t0 :: ts).length ∧ Val s f (u :: us) ∧ cd σ P (hcells s (u :: us)) <+: σ' ∧
    Grow σ.length 2 σ' v (acc.map (ruleE left)) ∧ rulesF s f n (t0 :: ts) = (rulesF s f m (u :: us)).bind fun r => .ok (acc ++ r.1, r.2)) ?_ n ⟨t0, ts, _, [], rfl, hnf, by simp, hv, by rw [h.self]; exact List.prefix_refl _, Grow.nil _ _ _, by cases rulesF s f n (t0 :: ts) <;> rfl⟩
  rintro Φ m x σ1 ⟨u, us, v, acc, rfl, hm, hlen, hv, hp, hG, hF⟩ hnext hweak
  obtain ⟨m, rfl⟩ : ∃ k, m = k + 1 := ⟨m - 1, by omega⟩
  have hc := pre_has hP hp
  simp only [rulesF] at hF
  simp only [zz, Nat.reduceEqDiff, if_true, if_false, decide_true, decide_false, eq_self]
  refine nextB hs hv hc (fun hv1 hg => ?_) fun e σ' hg hp' => hX _ _ (by rw [hF, hg]; rfl) (pan_pre hP hp hp')
  rw [hg] at hF
  have hF : rulesF s f n (t0 :: ts) = ((sideF s f m us).bind fun r => if sgn r.2 == [59] then (rulesF s f m r.2).bind fun q => .ok (r.1 :: q.1, q.2) else .ok ([r.1], r.2)).bind fun r => .ok (acc ++ r.1, r.2) := hF
  have hp1 : cd σ P (hcells s us) <+: cd σ1 P (hcells s us) := cd_pre _ hP hp
  have hc1 := pre_has hP hp1
  have hG1 : Grow σ.length 2 (cd σ1 P (hcells s us)) v (acc.map (ruleE left)) := grow_cd hG hP
  generalize cd σ1 P (hcells s us) = σ2 at hp1 hc1 hG1
  refine (c38 hll hne _).callB ?_
  have hb1 : vBuild [(.list .nil []), (.list .nil [])] [(0, 1, pvParts (reK left))] = some [pvParts (reK left), .list .nil []] := rfl
  have hb2 : vPut 2 (.agg [.list .nil [], .list .nil []]) 0 (.agg [pvParts (reK left), .list .nil []]) = some (.agg [pvParts (reK left), .list .nil []]) := rfl
  simp only [hb1, hb2, zz, Nat.reduceEqDiff, if_true, if_false, decide_true, decide_false, eq_self]
  -- a rule has been read
  have fin : ∀ (w : PV) (rs : List (List Part)) (r : List Tok) (σ3 : St), Val s f r → r.length ≤ us.length → cd σ P (hcells s r) <+: σ3 → Grow σ.length 2 σ3 v (acc.map (ruleE left)) → w.cells? = some [w] →
      (∀ c, AtB w c → σ.length ≤ c ∧ c < σ3.length ∧ ∃ g ys, σ3[c]? = some (.arr g 1 ys)) → (∀ σ4 D, (∀ c, AtB w c → σ4[c]? = σ3[c]?) → (∀ c, AtB w c → D c) → FrzD σ4 D w (pvLists (mkLists rs))) →
      (sideF s f m us = .ok (rs, r) ∨ (sideF s f m us = .error (wrongF s r) ∧ (sgn r == [46]) = false ∧ (sgn r == [59]) = false)) →
      bindO False (vPart true 2 (.agg [pvParts (reK left), w]) 0) fun v67 =>
      bindO False (vBuildSl 2 (List.replicate 1 (.agg [(.list .nil []), (.list .nil [])])) [(0, v67)]) fun v68 =>
      bindS (vAppend 2 48 v (.list .full v68) σ3) fun v69 σ70 =>
      bindO False (vNil (.ptr P 0 0 0)) fun v71 =>
      bindO False (vField 4 v71) fun v72 =>
      bindO False (vLoad false 1 v72 σ70) fun v73 =>
      bindO False (vBin none .neq v73 (.str [59])) fun v74 =>
      condW v74 (
      weakW σ v69 σ70 fun v σ => R (.ret v) σ) (
      Φ (lookP [(0, .ptr P 0 0 0), (1, pvParts (reK left)), (5, v69)]) σ70) := by
    intro w rs r σ3 hvr hrl hp3 hG3 hwc hwb hwf hres
    have hsz : Sized 2 (.agg [pvParts (reK left), w]) := ⟨_, rfl, rfl⟩
    obtain ⟨x', σ4, happ, hG4, hp4, hother⟩ := Grow.app (σ0 := cd σ P (hcells s r)) (by_ := 48) (y := .list .full [.agg [pvParts (reK left), w]]) (zs := [.agg [pvParts (reK left), w]]) (by rw [cd_len]; exact hG3) hp3 rfl (fun z hz => by simp at hz; subst hz; exact hsz) (by simp at hlen hn ⊢; omega)
    rw [cd_len] at hG4
    have hc4 := pre_has hP hp4
    obtain ⟨hl4, hs4⟩ := pre_same hp4
    have hflat : ∀ y ∈ acc.map (ruleE left), Flat y := fun y hy => by obtain ⟨q, _, rfl⟩ := List.mem_map.1 hy; exact flatRule _
    have hwne : ∀ c, AtB w c → ¬ AtB v c := by
      intro c hc hcv
      obtain ⟨g, h1⟩ := grow_blk hG3 hcv
      obtain ⟨_, _, g', ys, h2⟩ := hwb c hc
      rw [h1] at h2
      cases h2
    have hw4 : ∀ c, AtB w c → σ4[c]? = σ3[c]? := fun c hc => hother c (fun b g z o l hb hcb => hwne c hc (by rw [hb, hcb]; exact ⟨_, _, _, _, rfl⟩)) (hwb c hc).2.1
    have hwx : ∀ c, AtB w c → ¬ AtB x' c := by
      intro c hc hcv
      obtain ⟨g, h1⟩ := grow_blk hG4 hcv
      obtain ⟨_, _, g', ys, h2⟩ := hwb c hc
      rw [← hw4 c hc, h1] at h2
      cases h2
    have hz : ∀ D : Nat → Prop, (∀ c, AtB w c → D c) → FrzD σ4 D (.agg [pvParts (reK left), w]) (ruleE left rs) := fun D hD => .agg _ _ rfl fun i a b ha hb => by
      match i with
      | 0 => cases ha; cases hb; exact (flatParts _).frz _ _
      | 1 => cases ha; cases hb; exact hwf σ4 D hw4 hD
      | i + 2 => cases ha
    have hsl : growV (acc.map (ruleE left) ++ [ruleE left rs]) = pvSl pvRule (reK ((acc ++ [rs]).map fun x => mkRule (left, x))) := by
      rw [← growV_sl, List.map_map, List.map_append]
      rfl
    simp only [vBuildSl_one hsz, happ, nil_ptr, hc4.ld, hcells4, zz, Nat.reduceEqDiff, if_true, if_false, decide_true, decide_false, eq_self]
    cases hsg : sgn r == [59] with
    | false =>
      simp only [zz, Nat.reduceEqDiff, if_true, if_false, decide_true, decide_false, eq_self]
      refine pre_cell (v' := pvSl pvRule (reK ((acc ++ [rs]).map fun x => mkRule (left, x)))) hP hp4 (hcells_flat _ _) ?_ ?_
      · rw [← hsl]
        exact grow_frz_last hG4 (fun b hb => hb) hflat (hz _ fun c hc => (hwb c hc).1)
      · rcases hres with hres | ⟨hres, h46, _⟩
        · refine hR (acc ++ [rs]) r ?_
          rw [hF, hres]
          simp [Except.bind, hsg]
        · refine hW _ r ?_ h46 hvr ?_
          · rw [hF, hres]
            rfl
          · simp [reK_snd] at hlen hn ⊢
            omega
    | true =>
      simp only [zz, Nat.reduceEqDiff, if_true, if_false, decide_true, decide_false, eq_self]
      rcases hres with hres | ⟨_, _, h59⟩
      · obtain ⟨a, as_, rfl⟩ := sgn_next hsg
        obtain ⟨σ5, k1, k2, k3, k4, k5⟩ := kill_grow hP hl4 hc4 (hcells_flat _ _) (z' := ruleE left rs) hP hG4 hflat (fun c h1 h2 _ => hs4 c h1 h2) (hz _ fun c hc => ⟨(hwb c hc).1, hwx c hc⟩)
        refine hweak _ _ _ σ5 ⟨_, k1, fun t => .base _ (lookP_free _ t fun e he => ?_)⟩ (hnext _ _ m (by omega) ⟨a, as_, x', acc ++ [rs], rfl, by simp at hrl; omega, by simp at hlen hrl ⊢; omega, hvr, same_pre hP (by omega) k2 fun c h1 h2 => ?_, by rw [List.map_append]; exact k4, ?_⟩)
        · simp only [List.mem_cons, List.not_mem_nil, or_false] at he
          rcases he with rfl | rfl | rfl
          · exact .ptr _ _ _ _ fun hh => by omega
          · exact (flatParts _).free _
          · rcases hG4 with ⟨h1, _⟩ | ⟨b, g, _, h1, _, _⟩
            · rw [h1]
              exact .list _ _ (by simp)
            · rw [h1]
              exact .sref _ _ _ _ _ fun hh => hh.2 ⟨_, _, _, _, rfl⟩
        · exact k5 c h1 h2 fun hh => by have := (grow_not hG4 hh).1; omega
        · rw [hF, hres]
          simp only [Except.bind, hsg, if_true]
          cases rulesF s f m (a :: as_) <;> simp
      · rw [hsg] at h59
        cases h59
  refine (c173 hs hc1 hv1).callB (fun bv r0 hh => ?_) fun e σ' hh hp' => ?_
  · by_cases hnot : (isPart us && txt us == EMPTY) = true
    · rw [if_pos hnot] at hh
      cases us with
      | nil => cases hnot
      | cons w us =>
      simp only [List.tail_cons] at hh
      cases hg2 : goF f us with
      | error e => rw [hg2] at hh; cases hh
      | ok z =>
        rw [hg2] at hh
        simp only [Except.bind, Except.ok.injEq, Prod.mk.injEq] at hh
        obtain ⟨rfl, rfl⟩ := hh
        have hv2 := hv1.tail hg2
        have hp2 := cd_pre (hcells s us) hP hp1
        have hG2 : Grow σ.length 2 (cd σ2 P (hcells s us)) v (acc.map (ruleE left)) := grow_cd hG1 hP
        simp only [zz, Nat.reduceEqDiff, if_true, if_false, decide_true, decide_false, eq_self]
        refine fin (.list .nil []) [] us _ hv2 (by simp) hp2 hG2 rfl (fun c hc => by obtain ⟨_, _, _, _, hc⟩ := hc; cases hc) (fun σ4 D _ _ => .list _ _ _ rfl (by simp)) ?_
        have h1 : (isP w && w.2 == EMPTY) = true := hnot
        have hside : sideF s f m (w :: us) = if isPart us || sgn us == [44] then .error (wrongF s us) else .ok ([], us) := by
          simp only [sideF, h1, hg2, if_true]
          rfl
        cases hb : isPart us || sgn us == [44] with
        | false => exact .inl (by rw [hside, hb]; rfl)
        | true =>
          refine .inr ⟨by rw [hside, hb]; rfl, ?_⟩
          rcases Bool.or_eq_true _ _ |>.mp hb with hb | hb
          · rw [sgn_part hb]
            exact ⟨rfl, rfl⟩
          · have : sgn us = [44] := by simpa using hb
            rw [this]
            exact ⟨rfl, rfl⟩
    · rw [if_neg hnot] at hh
      cases hh
      rw [hc1.self]
      have hside : sideF s f m us = rightF s f m us := by
        cases us with
        | nil => rfl
        | cons w us =>
          have h1 : (isP w && w.2 == EMPTY) = false := Bool.eq_false_iff.2 hnot
          simp only [sideF, h1]
          rfl
      simp only [zz, Nat.reduceEqDiff, if_true, if_false, decide_true, decide_false, eq_self]
      obtain ⟨hl2, hs2⟩ := pre_same hp1
      have hP2 : P < σ2.length := hc1.lt
      refine Lfp_down (fun k x σ' => ∃ vs w racc, x = lookP [(0, .ptr P 0 0 0), (1, pvParts (reK left)), (5, v), (6, .agg [pvParts (reK left), w])] ∧ vs.length < k ∧ racc.length + vs.length ≤ us.length ∧ Val s f vs ∧ cd σ2 P (hcells s vs) <+: σ' ∧
        Grow σ2.length 1 σ' w (racc.map (pvParts ∘ reK)) ∧ rightF s f m us = (rightF s f k vs).bind fun r => .ok (racc ++ r.1, r.2)) ?_ m ⟨us, _, [], rfl, by omega, by simp, hv1, by rw [hc1.self]; exact List.prefix_refl _, Grow.nil _ _ _, by cases rightF s f m us <;> rfl⟩
      rintro Ψ k x σ3 ⟨vs, w, racc, rfl, hk, hrl, hvv, hp3, hG3, hF3⟩ hnext3 _
      obtain ⟨k, rfl⟩ : ∃ j, k = j + 1 := ⟨k - 1, by omega⟩
      have hc3 := pre_has hP2 hp3
      have hpp : ∀ {cs ds : List PV} {σ' : St}, cd σ2 P ds <+: σ' → cd σ P ds <+: σ' := fun {cs ds σ'} hh => by
        have h1 := cd_pre ds hP hp1
        exact h1.trans hh
      have hcell := grow_cell hG3
      simp only [rightF] at hF3
      simp only [zz, Nat.reduceEqDiff, if_true, if_false, decide_true, decide_false, eq_self]
      refine Rd.callM (vf := fun l => pvParts (reK l)) (c137 hs (by simp at hlen hn ⊢; omega) hc3 hvv true) (fun l r hq => ?_) fun e σ' hq hp' => ?_
      · obtain ⟨q1, q2, q3⟩ := parts_spec hvv hq
        have hp4 := cd_pre (hcells s r) hP2 hp3
        have hG4 : Grow σ2.length 1 (cd σ3 P (hcells s r)) w (racc.map (pvParts ∘ reK)) := grow_cd hG3 hP2
        generalize cd σ3 P (hcells s r) = σ4 at hp4 hG4
        have hlenv : vLen .sl (pvParts (reK l)) σ4 = some (.int .i64 (l.length : Nat)) := by simp [pvParts, pvSl, vLen, reK_snd]
        simp only [hlenv, zz, Nat.reduceEqDiff, if_true, if_false, decide_true, decide_false, eq_self]
        cases l with
        | nil =>
          have e0 : (((([] : List Part).length : Nat) : Int) == 0) = true := rfl
          simp only [e0, zz, Nat.reduceEqDiff, if_true, if_false, decide_true, decide_false, eq_self]
          refine wrongB (pre_has hP2 hp4) fun σ' hp' => hX _ _ ?_ (pan_pre hP (hpp (cs := []) hp4) hp')
          rw [hF, hside, hF3, someF, hq]
          rfl
        | cons a l =>
          have e0 : ((((a :: l).length : Nat) : Int) == 0) = false := by simp; omega
          obtain ⟨xs, w', σ5, h1, h2, h3, h4⟩ := grow_one (enc := pvParts ∘ reK) (fun a => sizedParts _) (n0 := 0) (a := a :: l) (.list .nil []) (by_ := 24) (σ0 := cd σ2 P (hcells s r)) (by rw [cd_len]; exact hG4) hp4 (by simp at hlen hn; omega)
          rw [cd_len] at h3
          have h1 : vBuildSl 1 (List.replicate 1 (.list .nil [])) [(0, pvParts (reK (a :: l)))] = some xs := h1
          have hc5 := pre_has hP2 h4
          obtain ⟨hl5, hs5⟩ := pre_same h4
          simp only [e0, h1, h2, vPut_snd (grow_cell h3), nil_ptr, hc5.ld, hcells4, zz, Nat.reduceEqDiff, if_true, if_false, decide_true, decide_false, eq_self]
          have hF4 : rightF s f m us = (if sgn r == [44] then (goF f r.tail).bind fun _ => (rightF s f k r.tail).bind fun q => .ok ((a :: l) :: q.1, q.2) else .ok ([a :: l], r)).bind fun r => .ok (racc ++ r.1, r.2) := by
            rw [hF3, someF, hq]
            rfl
          cases hsg : sgn r == [44] with
          | false =>
            simp only [zz, Nat.reduceEqDiff, if_true, if_false, decide_true, decide_false, eq_self]
            refine fin w' (racc ++ [a :: l]) r σ5 q1 (by simp at q2; omega) (hpp (cs := []) h4) ?_ (grow_cell h3) (fun c hc => ?_) (fun σ6 D hh hD => ?_) (.inl ?_)
            · refine grow_stay hG1 fun c hc => ?_
              obtain ⟨g1, g2⟩ := grow_not hG1 hc
              exact hs5 c g2 (by omega)
            · obtain ⟨g1, g2⟩ := grow_not h3 hc
              obtain ⟨g, hb⟩ := grow_blk h3 hc
              exact ⟨by omega, g2, g, _, hb⟩
            · have := grow_frz_at (grow_stay h3 hh) hD (fun y hy => by obtain ⟨p, _, rfl⟩ := List.mem_map.1 hy; exact flatParts _)
              have e : ((racc ++ [a :: l]).map (pvParts ∘ reK)) = ((racc ++ [a :: l]).map reK).map pvParts := by simp
              rw [e, growV_sl] at this
              exact this
            · rw [hside, hF4, hsg]
              simp [Except.bind]
          | true =>
            simp only [zz, Nat.reduceEqDiff, if_true, if_false, decide_true, decide_false, eq_self]
            obtain ⟨b, bs, rfl⟩ := sgn_next hsg
            rw [hsg] at hF4
            refine nextB hs q1 hc5 (fun hv5 hg5 => ?_) fun e σ' hg5 hp' => hX _ _ ?_ (pan_pre hP (hpp (cs := []) h4) hp')
            · refine hnext3 _ _ k (by omega) ⟨bs, w', racc ++ [a :: l], rfl, by simp at q2; omega, by simp at q2 ⊢; omega, hv5, cd_pre _ hP2 h4, grow_cd h3 hP2, ?_⟩
              rw [hF4]
              simp only [List.tail_cons, hg5, if_true, Except.bind]
              cases rightF s f k bs <;> simp
            · rw [hF, hside, hF4]
              simp only [List.tail_cons, hg5, if_true, Except.bind]
      · refine hX _ _ ?_ (pan_pre hP (hpp (cs := []) hp3) hp')
        rw [hF, hside, hF3, someF, hq]
        rfl
  · by_cases hnot : (isPart us && txt us == EMPTY) = true
    · rw [if_pos hnot] at hh
      cases us with
      | nil => cases hnot
      | cons w us =>
      simp only [List.tail_cons] at hh
      cases hg2 : goF f us with
      | ok z => rw [hg2] at hh; cases hh
      | error e' =>
        rw [hg2] at hh
        cases hh
        refine hX _ _ ?_ (pan_pre hP hp1 hp')
        have h1 : (isP w && w.2 == EMPTY) = true := hnot
        rw [hF]
        simp only [sideF, h1, hg2, if_true]
        rfl
    · rw [if_neg hnot] at hh
      cases hh

end Go.Proofs.YtiniifbmeobmgaaGreatDoor
