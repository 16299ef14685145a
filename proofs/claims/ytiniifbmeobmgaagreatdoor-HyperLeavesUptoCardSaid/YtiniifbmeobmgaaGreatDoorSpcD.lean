/- The reference's Check: it answers what the package's does. -/
import Derived.Test.YtiniifbmeobmgaaGreatDoorSpcC
import Derived.Test.YtiniifbmeobmgaaGreatDoorSpcB
set_option linter.unusedVariables false
set_option linter.unusedSimpArgs false
namespace Go.Proofs.YtiniifbmeobmgaaGreatDoor
open Go Go.Abs

theorem c65 {l : Lists} (hl : l.2.length < 4611686018427387904) (σ : St) : Ret W 65 [pvLists l] σ (.bool (l.2.any longL || decide ((l.2.length : Int) > 64))) := by
  refine ret_of fun R hR => ?_
  rw [fn65_eq]
  unfold fn65
  obtain ⟨k, ls⟩ := l
  simp only at hl hR
  refine CutW_of ?_
  refine Lfp_up ls.length (fun i x σ' => x = lookP [(0, .list k (ls.map pvParts)), (3, .int .i64 i)] ∧ σ' = σ ∧ (ls.take i).any longL = false) ?_ ⟨rfl, rfl, rfl⟩
  rintro Φ i x σ' hi ⟨rfl, rfl, hp⟩ next
  simp only [List.length_map, zz, Nat.reduceEqDiff]
  by_cases hlt : i < ls.length
  · have hgi : ls[i]? = some ls[i] := by simp [hlt]
    generalize ls[i] = p at hgi
    obtain ⟨pk, p⟩ := p
    simp only [hlt, encParts.index hgi, encParts.part, zz, Nat.reduceEqDiff]
    simp only [pvParts, pvSl, List.length_map, zz, Nat.reduceEqDiff]
    cases e : decide ((p.length : Int) > 64) with
    | true =>
      simp only [zz, Nat.reduceEqDiff]
      refine weakW_keep ?_
      rw [any_of_get hgi (q := longL) e] at hR
      exact hR
    | false =>
      simp only [zz, Nat.reduceEqDiff]
      rw [vBin_add _ (by omega) (by omega)]
      exact next _ _ hlt ⟨by simp, rfl, any_take_false hp hgi e⟩
  · obtain rfl : i = ls.length := by omega
    rw [List.take_length] at hp
    simp only [hlt, List.length_map, zz, Nat.reduceEqDiff]
    refine weakW_keep ?_
    rw [hp] at hR
    exact hR

theorem c67 {g : Gram} (hg : g.1.2.length ≤ 1048576) {n : Str} (σ : St) : Ret W 67 [pvGram g, .str n] σ (.int .i64 (idxOf (fun m => m.1 == n) g.1.2 0)) := by
  refine ret_of fun R hR => ?_
  rw [fn67_eq]
  unfold fn67
  obtain ⟨⟨mk, ms⟩, rk, rs⟩ := g
  simp only at hg hR
  have hbox : opC.vBoxAny (.agg [pvSl pvMeta (mk, ms), pvSl pvRule (rk, rs)]) = some (2, .agg [pvSl pvMeta (mk, ms), pvSl pvRule (rk, rs)]) := rfl
  simp only [pvGram, hbox, zz, Nat.reduceEqDiff]
  simp only [pvSl]
  refine CutW_of ?_
  refine Lfp_up ms.length (fun i x σ' => x = lookP [(1, .str n), (5, .int .i64 i), (2, .agg [.list mk (ms.map pvMeta), .list rk (rs.map pvRule)])] ∧ σ' = σ ∧ (ms.take i).all (fun m => !(m.1 == n)) = true) ?_ ⟨rfl, rfl, rfl⟩
  rintro Φ i x σ' hi ⟨rfl, rfl, hp⟩ next
  simp only [List.length_map, zz, Nat.reduceEqDiff]
  by_cases hlt : i < ms.length
  · have hgi : ms[i]? = some ms[i] := by simp [hlt]
    generalize ms[i] = m at hgi
    simp only [hlt, encMeta.index hgi, encMeta.part, zz, Nat.reduceEqDiff]
    obtain ⟨t, als⟩ := m
    simp only [pvMeta, zz, Nat.reduceEqDiff]
    cases e : (t == n) with
    | true =>
      simp only [zz, Nat.reduceEqDiff]
      refine weakW_keep ?_
      rw [idxOf_hit (p := fun m : Meta19 => m.1 == n) hgi e hp] at hR
      simpa using hR
    | false =>
      simp only [zz, Nat.reduceEqDiff]
      rw [vBin_add _ (by omega) (by omega)]
      exact next _ _ hlt ⟨by simp, rfl, all_take_succ hp hgi (by simp [e])⟩
  · obtain rfl : i = ms.length := by omega
    rw [List.take_length] at hp
    simp only [hlt, zz, Nat.reduceEqDiff]
    refine weakW_keep ?_
    rw [idxOf_none hp] at hR
    exact hR

theorem idxOf_lt {α : Type} {p : α → Bool} (l : List α) : decide (idxOf p l 0 < 0) = !l.any p := by
  rw [← idxOf_ge l 0, ← decide_not]
  exact decide_eq_decide.2 (by omega)

theorem any_names (ms : List Meta19) (n : Str) : (ms.any fun m => m.1 == n) = (ms.map (·.1)).contains n := by
  induction ms with
  | nil => rfl
  | cons m ms ih =>
    simp only [List.any_cons, List.map_cons, List.contains_cons, ih]
    rw [Bool.beq_comm]

theorem metaOf_of_meta {s : Str} (h : isMeta s = true) : digitEnd s = false := by
  simp only [isMeta, within, inR, Bool.and_eq_true] at h
  obtain ⟨-, h, -⟩ := h
  unfold digitEnd
  cases hl : s.getLast? with
  | none => rfl
  | some c =>
    have := List.all_eq_true.1 h c (List.mem_of_getLast? hl)
    simp only [Bool.and_eq_true, decide_eq_true_eq] at this
    simp
    omega

theorem isParam_of_meta {s : Str} (h : isMeta s = true) : isParam s = true := by
  simp [isParam, metaOf, metaOf_of_meta h, h]

theorem base_eq {s : Str} (h : isParam s = true) : base s = metaOf s := by
  have hne : isMeta [] = false := rfl
  unfold isParam metaOf at h
  unfold base metaOf
  by_cases h1 : 1 < s.length
  · simp only [h1, decide_true, Bool.true_and]
    rw [if_pos h]
  · simp only [h1, decide_false, Bool.false_and, Bool.false_eq_true, if_false]
    cases hd : digitEnd s with
    | false =>
      rw [hd] at h
      simp only [Bool.false_eq_true, if_false] at h ⊢
      rw [if_pos h]
    | true =>
      rw [hd] at h
      simp only [if_true] at h
      match s, h1 with
      | [], _ => cases h
      | [c], _ => cases h
      | a :: b :: l, h1 => exact absurd (by simp) h1

/-- A parameter whose metanotion is not known, als the reference has it. -/
def unkRef (names : List Str) (p : Part) : Bool := p.1 && !names.contains (base p.2)

theorem unk_eq {names : List Str} {d : Bool} {p : Part} (h : badPart d p = false) : unkRef names p = unkPart names p := by
  obtain ⟨m, t⟩ := p
  cases m with
  | false => rfl
  | true =>
    have : isParam t = true := by
      simp only [badPart, Bool.not_true, Bool.false_and, Bool.true_and, Bool.false_or] at h
      cases hm : isMeta t with
      | true => exact isParam_of_meta hm
      | false =>
        rw [hm] at h
        cases hp : isParam t with
        | true => rfl
        | false => rw [hp] at h; simp at h
    simp only [unkRef, unkPart, base_eq this]

theorem unkL_eq {names : List Str} {d : Bool} {l : Sl Part} (h : badL d l = false) : l.2.any (unkRef names) = unkL names l := by
  unfold unkL badL at *
  obtain ⟨k, l⟩ := l
  simp only at h ⊢
  induction l with
  | nil => rfl
  | cons p l ih =>
    simp only [List.any_cons, Bool.or_eq_false_iff] at h ⊢
    rw [unk_eq h.1, ih h.2]

theorem c69 {g : Gram} (hg : g.1.2.length ≤ 1048576) {l : Sl Part} (hl : OkParts l) (σ : St) : Ret W 69 [pvGram g, pvParts l] σ (.int .i64 (if l.2.any (unkRef (names g)) then 4 else 0)) := by
  refine ret_of fun R hR => ?_
  rw [fn69_eq]
  unfold fn69
  have hc67 := fun (n : Str) (σ : St) => c67 hg (n := n) σ
  have hbox : opC.vBoxAny (pvGram g) = some (2, pvGram g) := rfl
  have hpt : vPart true 2 (pvGram g) 0 = some (pvGram g) := rfl
  obtain ⟨lk, ps⟩ := l
  have hlen := hl.len
  simp only at hR hlen
  simp only [hbox, pvParts, pvSl, zz, Nat.reduceEqDiff]
  refine CutW_of ?_
  refine Lfp_up ps.length (fun i x σ' => x = lookP [(1, .list lk (ps.map pvPart)), (5, .int .i64 i), (2, pvGram g)] ∧ σ' = σ ∧ (ps.take i).any (unkRef (names g)) = false) ?_ ⟨rfl, rfl, rfl⟩
  rintro Φ i x σ' hi ⟨rfl, rfl, hp⟩ next
  simp only [List.length_map, zz, Nat.reduceEqDiff]
  by_cases hlt : i < ps.length
  · have hgi : ps[i]? = some ps[i] := by simp [hlt]
    have hmem : ps[i] ∈ ps := by simp
    generalize ps[i] = p at hgi hmem
    have ht := hl.okS p hmem
    simp only [hlt, encPart.index hgi, encPart.part, zz, Nat.reduceEqDiff]
    obtain ⟨m, t⟩ := p
    simp only [pvPart, zz, Nat.reduceEqDiff]
    cases m with
    | false =>
      simp only [zz, Nat.reduceEqDiff]
      rw [vBin_add _ (by omega) (by omega)]
      exact next _ _ hlt ⟨by simp, rfl, any_take_false hp hgi rfl⟩
    | true =>
      simp only [hpt, zz, Nat.reduceEqDiff]
      refine (c129 ht _).callB ?_
      refine (hc67 _ _).callB ?_
      have hu : unkRef (names g) (true, t) = decide (idxOf (fun m : Meta19 => m.1 == base t) g.1.2 0 < 0) := by
        rw [idxOf_lt, any_names]
        rfl
      simp only [zz, Nat.reduceEqDiff]
      cases e : decide (idxOf (fun m : Meta19 => m.1 == base t) g.1.2 0 < 0) with
      | true =>
        simp only [zz, Nat.reduceEqDiff]
        refine weakW_keep ?_
        rw [any_of_get hgi (hu.trans e)] at hR
        exact hR
      | false =>
        simp only [zz, Nat.reduceEqDiff]
        rw [vBin_add _ (by omega) (by omega)]
        exact next _ _ hlt ⟨by simp, rfl, any_take_false hp hgi (hu.trans e)⟩
  · obtain rfl : i = ps.length := by omega
    rw [List.take_length] at hp
    simp only [hlt, zz, Nat.reduceEqDiff]
    refine weakW_keep ?_
    rw [hp] at hR
    exact hR

theorem metas_good : ∀ {ms : List Meta19} {seen : List Str}, metasErr ms seen = 0 → ∀ m ∈ ms, m.2.2.any (badL false) = false
  | [], _, _, _, h => by cases h
  | m :: ms, seen, h, x, hx => by
    rw [metasErr] at h
    split at h
    · cases h
    split at h
    · cases h
    split at h
    · cases h
    split at h
    · cases h
    rename_i h4
    rcases List.mem_cons.1 hx with rfl | hx
    · simpa using h4
    · exact metas_good h x hx

theorem lists_good : ∀ {ls : List (Sl Part)}, listsErr ls = 0 → ∀ l ∈ ls, badL true l = false
  | [], _, _, h => by cases h
  | l :: ls, h, x, hx => by
    rw [listsErr] at h
    split at h
    · cases h
    split at h
    · cases h
    rename_i h4
    rcases List.mem_cons.1 hx with rfl | hx
    · simpa using h4
    · exact lists_good h x hx

theorem rules_good : ∀ {rs : List Rule19}, rulesErr rs = 0 → ∀ r ∈ rs, listsErr (ruleAll r) = 0
  | [], _, _, h => by cases h
  | r :: rs, h, x, hx => by
    rw [rulesErr] at h
    split at h
    · rename_i h0
      rcases List.mem_cons.1 hx with rfl | hx
      · exact h0
      · exact rules_good h x hx
    · rename_i h0
      exact absurd h h0

/-- A name that stands earlier. -/
theorem twice_eq {ms : List Meta19} {i : Nat} {m : Meta19} (h : ms[i]? = some m) : decide (idxOf (fun x => x.1 == m.1) ms 0 < (i : Int)) = ((ms.take i).map (·.1)).contains m.1 := by
  have hil : i < ms.length := (List.getElem?_eq_some_iff.1 h).1
  have hsplit : ms = ms.take i ++ m :: ms.drop (i + 1) := by
    have h1 := List.take_append_drop i ms
    rw [drop_cons h] at h1
    exact h1.symm
  rw [← any_names]
  cases hany : (ms.take i).any fun x => x.1 == m.1 with
  | true =>
    obtain ⟨x, hx, hxm⟩ := List.any_eq_true.1 hany
    rw [decide_eq_true_eq]
    obtain ⟨j, hj, rfl⟩ := List.mem_take_iff_getElem.1 hx
    have hji : j < i := by omega
    -- the first one is at j or before
    have key : ∀ (l : List Meta19) (n k : Nat) (hk : k < l.length), (l[k].1 == m.1) = true → idxOf (fun x => x.1 == m.1) l n ≤ ((n + k : Nat) : Int) := by
      intro l
      induction l with
      | nil => intro n k hk; simp at hk
      | cons a l ih =>
        intro n k hk hb
        simp only [idxOf]
        split
        · omega
        · cases k with
          | zero =>
            rename_i hna
            exact absurd hb hna
          | succ k =>
            have := ih (n + 1) k (by simpa using hk) (by simpa using hb)
            omega
    have := key ms 0 j (by omega) hxm
    omega
  | false =>
    rw [decide_eq_false_iff_not]
    have hall : (ms.take i).all (fun x => !(x.1 == m.1)) = true := by
      rw [List.all_eq_true]
      intro x hx
      rw [List.any_eq_false] at hany
      simpa using hany x hx
    rw [idxOf_hit (p := fun x : Meta19 => x.1 == m.1) h (by simp) hall]
    omega

theorem app_all {σ : St} {r : Rule19} (hr : OkRule r) : ∃ v σ2, vAppend 1 24 (.list .full [pvParts r.1]) (pvLists r.2) σ = some (v, σ2) ∧ Elems σ2 1 v ((ruleAll r).map pvParts) ∧ σ <+: σ2 := by
  obtain ⟨l, k, ls⟩ := r
  cases ls with
  | nil => exact ⟨_, _, rfl, .list _ _, List.prefix_rfl⟩
  | cons a ls =>
    have hlen := hr.right.len
    simp only [List.length_cons] at hlen
    have e : vAppend 1 24 (.list .full [pvParts l]) (pvLists (k, a :: ls)) σ = some (.sref σ.length 0 1 0 (1 + (a :: ls).length), σ ++ [.arr 0 1 (pvParts l :: (a :: ls).map pvParts)]) := by
      have hroom : roomy (1 + (a :: ls).length) 24 = true := by simp [roomy]; omega
      simp only [vAppend, pvLists, pvSl, vElems]
      simp only [List.map_cons, List.isEmpty_cons, Bool.false_eq_true, if_false, List.length_cons, List.length_nil, List.length_map, Nat.zero_add]
      rw [if_pos ⟨by simp, hroom, rfl, rfl⟩]
      rfl
    refine ⟨_, _, e, ?_, ⟨_, rfl⟩⟩
    have hl : 1 + (a :: ls).length = ((ruleAll (l, k, a :: ls)).map pvParts).length := by simp [ruleAll]; omega
    rw [hl]
    exact .sref _ _ _ _ _ _ (new_get _ _) (by simp [ruleAll]) (by simp [ruleAll, List.take_of_length_le])

theorem c16 {g : Gram} (hg : OkGram g) (σ : St) : Ret W 16 [pvGram g] σ (.int .i64 (checkG g)) := by
  refine ret_of fun R hR => ?_
  rw [fn16_eq]
  unfold fn16
  have fin : ∀ (e : Int) (σ' : St), σ <+: σ' → checkG g = e → weakW σ (.int .i64 e) σ' fun v σ => R (.ret v) σ := fun e σ' hp he => weakW_clean hp (.base _ (.int _ _)) (by rw [he] at hR; exact hR)
  have hc69 := fun {l : Sl Part} (hl : OkParts l) (σ : St) => c69 hg.ml hl σ
  have hc67 := fun (n : Str) (σ : St) => c67 hg.ml (n := n) σ
  have hcheck : checkG g = checkG g := rfl
  obtain ⟨⟨mk, ms⟩, rk, rs⟩ := g
  have hml := hg.ml
  have hrl := hg.rl
  simp only at hml hrl hc67
  have hpt0 : vPart true 2 (.agg [.list mk (ms.map pvMeta), .list rk (rs.map pvRule)]) 0 = some (pvGram ((mk, ms), rk, rs)) := rfl
  have hbox : opC.vBoxAny (.agg [.list mk (ms.map pvMeta), .list rk (rs.map pvRule)]) = some (2, .agg [.list mk (ms.map pvMeta), .list rk (rs.map pvRule)]) := rfl
  have hG : pvGram ((mk, ms), rk, rs) = .agg [.list mk (ms.map pvMeta), .list rk (rs.map pvRule)] := rfl
  rw [hG]
  simp only [hbox, List.length_map, zz, Nat.reduceEqDiff]
  -- too long
  have notlong : (decide ((ms.length : Int) > 100) || (decide ((rs.length : Int) > 500) || (ms.any longM || rs.any longR))) = true → checkG ((mk, ms), rk, rs) = 3 := fun h => by simp only [checkG, tooLong, h, if_true]
  cases h1 : decide ((ms.length : Int) > 100) with
  | true =>
    simp only [zz, Nat.reduceEqDiff]
    exact fin 3 σ List.prefix_rfl (notlong (by simp [h1]))
  | false =>
  simp only [List.length_map, zz, Nat.reduceEqDiff]
  cases h2 : decide ((rs.length : Int) > 500) with
  | true =>
    simp only [zz, Nat.reduceEqDiff]
    exact fin 3 σ List.prefix_rfl (notlong (by simp [h2]))
  | false =>
  simp only [zz, Nat.reduceEqDiff]
  -- long metarules
  refine CutW_of ?_
  refine Lfp_up ms.length (fun i x σ' => x = lookP [(3, .int .i64 i), (1, .agg [.list mk (ms.map pvMeta), .list rk (rs.map pvRule)])] ∧ σ' = σ ∧ (ms.take i).any longM = false) ?_ ⟨rfl, rfl, rfl⟩
  rintro Φ1 i x σ' hi ⟨rfl, rfl, hp1⟩ next1
  simp only [List.length_map, zz, Nat.reduceEqDiff]
  by_cases hlt : i < ms.length
  · have hgi : ms[i]? = some ms[i] := by simp [hlt]
    have hmem : ms[i] ∈ ms := by simp
    generalize ms[i] = m at hgi hmem
    have hm := hg.metas m hmem
    simp only [hlt, encMeta.index hgi, zz, Nat.reduceEqDiff]
    have hmm : (m.2.2.any longL || decide ((m.2.2.length : Int) > 64)) = longM m := Bool.or_comm _ _
    have hpm : pvMeta m = .agg [.str m.1, pvLists m.2] := rfl
    rw [hpm]
    simp only [zz, Nat.reduceEqDiff]
    refine (c65 (Nat.lt_of_le_of_lt hm.alts.len (by decide)) _).callB ?_
    rw [hmm]
    cases e : longM m with
    | true =>
      simp only [zz, Nat.reduceEqDiff]
      exact fin 3 _ List.prefix_rfl (notlong (by rw [any_of_get hgi e]; simp))
    | false =>
      simp only [zz, Nat.reduceEqDiff]
      rw [vBin_add _ (by omega) (by omega)]
      exact next1 _ _ hlt ⟨by simp, rfl, any_take_false hp1 hgi e⟩
  obtain rfl : i = ms.length := by omega
  rw [List.take_length] at hp1
  simp only [hlt, zz, Nat.reduceEqDiff]
  clear next1 hlt hi
  -- long rules
  refine CutW_of ?_
  refine Lfp_up rs.length (fun i x σ'' => x = lookP [(4, .int .i64 i), (1, .agg [.list mk (ms.map pvMeta), .list rk (rs.map pvRule)])] ∧ σ'' = σ' ∧ (rs.take i).any longR = false) ?_ ⟨rfl, rfl, rfl⟩
  rintro Φ2 i x σ' hi ⟨rfl, rfl, hp2⟩ next2
  simp only [List.length_map, zz, Nat.reduceEqDiff]
  by_cases hlt : i < rs.length
  · have hgi : rs[i]? = some rs[i] := by simp [hlt]
    have hmem : rs[i] ∈ rs := by simp
    generalize rs[i] = r at hgi hmem
    have hr := hg.rules r hmem
    have hpr : pvRule r = .agg [pvParts r.1, pvLists r.2] := rfl
    simp only [hlt, encRule.index hgi, zz, Nat.reduceEqDiff]
    rw [hpr]
    simp only [zz, Nat.reduceEqDiff]
    refine (c65 (Nat.lt_of_le_of_lt hr.right.len (by decide)) _).callB ?_
    cases e : (r.2.2.any longL || decide ((r.2.2.length : Int) > 64)) with
    | true =>
      simp only [zz, Nat.reduceEqDiff]
      refine fin 3 _ List.prefix_rfl (notlong ?_)
      have : longR r = true := by
        unfold longR
        cases h5 : r.2.2.any longL with
        | true => simp
        | false => rw [h5, Bool.false_or] at e; rw [e]; rfl
      rw [any_of_get hgi this]
      simp
    | false =>
      simp only [pvParts, pvSl, List.length_map, zz, Nat.reduceEqDiff]
      cases e2 : decide ((r.1.2.length : Int) > 64) with
      | true =>
        simp only [zz, Nat.reduceEqDiff]
        refine fin 3 _ List.prefix_rfl (notlong ?_)
        have : longR r = true := by unfold longR; rw [e2]; simp
        rw [any_of_get hgi this]
        simp
      | false =>
        simp only [zz, Nat.reduceEqDiff]
        rw [vBin_add _ (by omega) (by omega)]
        have : longR r = false := by
          unfold longR
          rw [Bool.or_eq_false_iff] at e
          rw [e.1, e.2, e2]
          rfl
        exact next2 _ _ hlt ⟨by simp, rfl, any_take_false hp2 hgi this⟩
  obtain rfl : i = rs.length := by omega
  rw [List.take_length] at hp2
  simp only [hlt, zz, Nat.reduceEqDiff]
  clear next2 hlt hi
  have hlong : tooLong ((mk, ms), rk, rs) = false := by simp [tooLong, h1, h2, hp1, hp2]
  have hch : checkG ((mk, ms), rk, rs) = if metasErr ms [] = 0 then
      if rulesErr rs = 0 then
        if ms.any (fun m => m.2.2.any (unkL (ms.map (·.1)))) then 4
        else if rs.any (fun r => (ruleAll r).any (unkL (ms.map (·.1)))) then 4 else 0
      else rulesErr rs
    else metasErr ms [] := by
    simp only [checkG, hlong, Bool.false_eq_true, if_false, names]
    rfl
  -- the metarules
  refine CutW_of ?_
  refine Lfp_up ms.length (fun i x σ'' => x = lookP [(5, .int .i64 i), (1, .agg [.list mk (ms.map pvMeta), .list rk (rs.map pvRule)])] ∧ σ'' = σ' ∧ metasErr ms [] = metasErr (ms.drop i) ((ms.take i).map (·.1))) ?_ ⟨rfl, rfl, rfl⟩
  rintro Φ3 i x σ' hi ⟨rfl, rfl, hme⟩ next3
  simp only [List.length_map, zz, Nat.reduceEqDiff]
  by_cases hlt : i < ms.length
  · have hgi : ms[i]? = some ms[i] := by simp [hlt]
    have hmem : ms[i] ∈ ms := by simp
    generalize ms[i] = m at hgi hmem
    have hm := hg.metas m hmem
    have htw := twice_eq hgi
    have hput : vPut 2 (.agg [.str [], .list .nil []]) 0 (pvMeta m) = some (pvMeta m) := rfl
    rw [drop_cons hgi, metasErr] at hme
    simp only [hlt, encMeta.index hgi, encMeta.part, hput, zz, Nat.reduceEqDiff]
    refine CutW_of ?_
    obtain ⟨n, ak, als⟩ := m
    have hn : okS n := Nat.lt_of_le_of_lt hm.txt (by decide)
    simp only [pvMeta, zz, Nat.reduceEqDiff]
    refine (c66 hn _).callB ?_
    cases e1 : isMeta n with
    | false =>
      simp only [zz, Nat.reduceEqDiff]
      refine fin 8 _ List.prefix_rfl ?_
      rw [hch, hme]
      simp [e1]
    | true =>
    simp only [hpt0, zz, Nat.reduceEqDiff]
    refine (hc67 _ _).callB ?_
    simp only at htw
    simp only [htw, zz, Nat.reduceEqDiff]
    cases e2 : ((ms.take i).map (·.1)).contains n with
    | true =>
      simp only [zz, Nat.reduceEqDiff]
      refine fin 5 _ List.prefix_rfl ?_
      rw [hch, hme]
      simp only [e1, e2]
      simp
    | false =>
    simp only [pvLists, pvSl, List.length_map, zz, Nat.reduceEqDiff]
    have hlz : (((als.length : Int) == 0) = true) ↔ als.length = 0 := by simp
    cases e3 : ((als.length : Int) == 0) with
    | true =>
      have e3' := hlz.1 e3
      simp only [zz, Nat.reduceEqDiff]
      refine fin 12 _ List.prefix_rfl ?_
      rw [hch, hme]
      simp only [e1, e2, e3']
      simp
    | false =>
    have e3' : ¬ als.length = 0 := fun h => by rw [hlz.2 h] at e3; cases e3
    simp only [zz, Nat.reduceEqDiff]
    have hal := hm.alts.len
    simp only at hal
    refine Lfp_up als.length (fun j x σ'' => x = lookP [(5, .int .i64 i), (7, .int .i64 j), (1, .agg [.list mk (ms.map pvMeta), .list rk (rs.map pvRule)]), (6, .agg [.str n, .list ak (als.map pvParts)])] ∧ σ'' = σ' ∧ (als.take j).any (badL false) = false) ?_ ⟨rfl, rfl, rfl⟩
    rintro Φ4 j x σ'' hj ⟨rfl, rfl, hpj⟩ next4
    simp only [List.length_map, zz, Nat.reduceEqDiff]
    by_cases hjlt : j < als.length
    · have hgj : als[j]? = some als[j] := by simp [hjlt]
      have hmj : als[j] ∈ als := by simp
      generalize als[j] = l at hgj hmj
      have hl := hm.alts.mem l hmj
      simp only [hjlt, encParts.index hgj, encParts.part, zz, Nat.reduceEqDiff]
      refine (c68 (x := pvParts l) (Nat.lt_of_le_of_lt hl.len (by decide)) hl.okS (.list _ _)).callB ?_
      have hbl : l.2.any (badPart false) = badL false l := rfl
      rw [hbl]
      cases e4 : badL false l with
      | true =>
        simp only [if_true, show ((8 : Int) != 0) = true from rfl, zz, Nat.reduceEqDiff]
        refine fin 8 _ List.prefix_rfl ?_
        rw [hch, hme]
        simp only [e1, e2, e3', any_of_get hgj e4]
        simp
      | false =>
        simp only [Bool.false_eq_true, if_false, show ((0 : Int) != 0) = false from rfl, zz, Nat.reduceEqDiff]
        rw [vBin_add _ (by omega) (by omega)]
        exact next4 _ _ hjlt ⟨by simp, rfl, any_take_false hpj hgj e4⟩
    · obtain rfl : j = als.length := by omega
      rw [List.take_length] at hpj
      simp only [hjlt, zz, Nat.reduceEqDiff]
      rw [vBin_add _ (by omega) (by omega)]
      have htk : (ms.take (i + 1)).map (·.1) = (ms.take i).map (·.1) ++ [n] := by rw [List.take_add_one, hgi]; simp
      refine next3 _ _ hlt ⟨by simp, rfl, ?_⟩
      rw [hme, htk]
      simp only [e1, e2, e3', hpj]
      simp
  obtain rfl : i = ms.length := by omega
  rw [List.drop_length, metasErr] at hme
  rw [hme] at hch
  simp only [if_true] at hch
  simp only [hlt, zz, Nat.reduceEqDiff]
  clear next3 hlt hi
  -- the rules
  refine CutW_of ?_
  refine Lfp_up rs.length (fun i x σ'' => x = lookP [(9, .int .i64 i), (1, .agg [.list mk (ms.map pvMeta), .list rk (rs.map pvRule)])] ∧ σ' <+: σ'' ∧ rulesErr rs = rulesErr (rs.drop i)) ?_ ⟨rfl, List.prefix_rfl, rfl⟩
  rintro Φ5 i x σ1 hi ⟨rfl, hpre, hre⟩ next5
  simp only [List.length_map, zz, Nat.reduceEqDiff]
  by_cases hlt : i < rs.length
  · have hgi : rs[i]? = some rs[i] := by simp [hlt]
    have hmem : rs[i] ∈ rs := by simp
    generalize rs[i] = r at hgi hmem
    have hr := hg.rules r hmem
    rw [drop_cons hgi, rulesErr] at hre
    have hpr : pvRule r = .agg [pvParts r.1, pvLists r.2] := rfl
    simp only [hlt, encRule.index hgi, zz, Nat.reduceEqDiff]
    refine CutW_of ?_
    rw [hpr]
    simp only [vBuildSl_one (sizedParts r.1), encRule.index hgi, zz, Nat.reduceEqDiff]
    have hall : (ruleAll r).length ≤ 1048577 := by
      have := hr.right.len
      simp only [ruleAll, List.length_cons]
      omega
    obtain ⟨v, σ2, e1, e2, e3⟩ := app_all (σ := σ1) hr
    rw [e1]
    simp only [zC]
    have hpre2 : σ' <+: σ2 := hpre.trans e3
    have hlen2 : ∀ σ, vLen .sl v σ = some (.int .i64 (ruleAll r).length) := fun σ => by
      have := e2.len σ
      simpa using this
    refine Lfp_up (ruleAll r).length (fun j x σ'' => x = lookP [(9, .int .i64 i), (10, v), (11, .int .i64 j), (1, .agg [.list mk (ms.map pvMeta), .list rk (rs.map pvRule)])] ∧ σ'' = σ2 ∧ listsErr (ruleAll r) = listsErr ((ruleAll r).drop j)) ?_ ⟨rfl, rfl, rfl⟩
    rintro Φ6 j x σ'' hj ⟨rfl, rfl, hle⟩ next6
    simp only [hlen2, zz, Nat.reduceEqDiff]
    by_cases hjlt : j < (ruleAll r).length
    · have hgj : (ruleAll r)[j]? = some (ruleAll r)[j] := by simp [hjlt]
      have hmj : (ruleAll r)[j] ∈ ruleAll r := by simp
      generalize (ruleAll r)[j] = l at hgj hmj
      have hl : OkParts l := by
        rcases List.mem_cons.1 hmj with rfl | h
        · exact hr.left
        · exact hr.right.mem l h
      rw [drop_cons hgj, listsErr] at hle
      obtain ⟨q, q1, q2, _⟩ := e2.at_ (i := j) (k := .i64) (by rw [List.getElem?_map, hgj]; rfl) (show (pvParts l).cells? = some _ from rfl) rfl
      have q3 : vLoad false 1 q σ'' = some (pvParts l) := q2 false 1
      simp only [hjlt, q1, q3, zz, Nat.reduceEqDiff]
      have hlv : vLen .sl (pvParts l) σ'' = some (.int .i64 l.2.length) := by simp [pvParts, pvSl]
      simp only [hlv, zz, Nat.reduceEqDiff]
      have hlz : (((l.2.length : Int) == 0) = true) ↔ l.2.length = 0 := by simp
      cases e3 : ((l.2.length : Int) == 0) with
      | true =>
        have e3' := hlz.1 e3
        simp only [e3', if_true] at hle
        simp only [zz, Nat.reduceEqDiff]
        refine fin 12 _ hpre2 ?_
        rw [hch, hre, hle]
        simp
      | false =>
      have e3' : ¬ l.2.length = 0 := fun h => by rw [hlz.2 h] at e3; cases e3
      simp only [e3', if_false] at hle
      simp only [q1, q3, zz, Nat.reduceEqDiff]
      refine (c68 (x := pvParts l) (Nat.lt_of_le_of_lt hl.len (by decide)) hl.okS (.list _ _)).callB ?_
      have hbl' : l.2.any (badPart true) = badL true l := rfl
      rw [hbl']
      cases e4 : badL true l with
      | true =>
        rw [e4] at hle
        simp only [if_true] at hle
        simp only [if_true, show ((8 : Int) != 0) = true from rfl, zz, Nat.reduceEqDiff]
        refine fin 8 _ hpre2 ?_
        rw [hch, hre, hle]
        simp
      | false =>
      rw [e4] at hle
      simp only [Bool.false_eq_true, if_false] at hle
      simp only [Bool.false_eq_true, if_false, show ((0 : Int) != 0) = false from rfl, zz, Nat.reduceEqDiff]
      rw [vBin_add _ (by omega) (by omega)]
      exact next6 _ _ hjlt ⟨by simp, rfl, hle⟩
    · obtain rfl : j = (ruleAll r).length := by omega
      rw [List.drop_length, listsErr] at hle
      rw [hle] at hre
      simp only [if_true] at hre
      simp only [hjlt, zz, Nat.reduceEqDiff]
      rw [vBin_add _ (by omega) (by omega)]
      exact next5 _ _ hlt ⟨by simp, hpre2, hre⟩
  obtain rfl : i = rs.length := by omega
  rw [List.drop_length, rulesErr] at hre
  rw [hre] at hch
  simp only [if_true] at hch
  simp only [hlt, zz, Nat.reduceEqDiff]
  clear next5 hlt hi
  -- names of the metarules' alternatives
  refine CutW_of ?_
  refine Lfp_up ms.length (fun i x σ'' => x = lookP [(13, .int .i64 i), (1, .agg [.list mk (ms.map pvMeta), .list rk (rs.map pvRule)])] ∧ σ'' = σ1 ∧ (ms.take i).any (fun m => m.2.2.any (unkL (ms.map (·.1)))) = false) ?_ ⟨rfl, rfl, rfl⟩
  rintro Φ7 i x σ'' hi ⟨rfl, rfl, hno⟩ next7
  simp only [List.length_map, zz, Nat.reduceEqDiff]
  by_cases hlt : i < ms.length
  · have hgi : ms[i]? = some ms[i] := by simp [hlt]
    have hmem : ms[i] ∈ ms := by simp
    generalize ms[i] = m at hgi hmem
    have hm := hg.metas m hmem
    have hgood := metas_good hme m hmem
    simp only [hlt, zz, Nat.reduceEqDiff]
    refine CutW_of ?_
    obtain ⟨n, ak, als⟩ := m
    simp only at hgood
    have hal := hm.alts.len
    simp only at hal
    refine Lfp_up als.length (fun j x σ2 => x = lookP [(13, .int .i64 i), (14, .int .i64 j), (1, .agg [.list mk (ms.map pvMeta), .list rk (rs.map pvRule)])] ∧ σ2 = σ'' ∧ (als.take j).any (unkL (ms.map (·.1))) = false) ?_ ⟨rfl, rfl, rfl⟩
    rintro Φ8 j x σ2 hj ⟨rfl, rfl, hpj⟩ next8
    have hpm : pvMeta (n, ak, als) = .agg [.str n, .list ak (als.map pvParts)] := rfl
    simp only [encMeta.index hgi, zz, Nat.reduceEqDiff]
    rw [hpm]
    simp only [List.length_map, zz, Nat.reduceEqDiff]
    by_cases hjlt : j < als.length
    · have hgj : als[j]? = some als[j] := by simp [hjlt]
      have hmj : als[j] ∈ als := by simp
      generalize als[j] = l at hgj hmj
      have hl := hm.alts.mem l hmj
      have hbl : badL false l = false := by
        rw [List.any_eq_false] at hgood
        simpa using hgood l hmj
      simp only [hjlt, hpt0, encMeta.index hgi, zz, Nat.reduceEqDiff]
      simp only [encParts.index hgj, encParts.part, zz, Nat.reduceEqDiff]
      refine (hc69 hl _).callB ?_
      rw [unkL_eq hbl]
      have hnm : names ((mk, ms), rk, rs) = ms.map (·.1) := rfl
      rw [hnm]
      cases e4 : unkL (ms.map (·.1)) l with
      | true =>
        simp only [if_true, show ((4 : Int) != 0) = true from rfl, zz, Nat.reduceEqDiff]
        refine fin 4 _ hpre ?_
        rw [hch, if_pos]
        exact any_of_get hgi (any_of_get (l := als) hgj e4)
      | false =>
        simp only [Bool.false_eq_true, if_false, show ((0 : Int) != 0) = false from rfl, zz, Nat.reduceEqDiff]
        rw [vBin_add _ (by omega) (by omega)]
        exact next8 _ _ hjlt ⟨by simp, rfl, any_take_false hpj hgj e4⟩
    · obtain rfl : j = als.length := by omega
      rw [List.take_length] at hpj
      simp only [hjlt, zz, Nat.reduceEqDiff]
      rw [vBin_add _ (by omega) (by omega)]
      exact next7 _ _ hlt ⟨by simp, rfl, any_take_false hno hgi hpj⟩
  obtain rfl : i = ms.length := by omega
  rw [List.take_length] at hno
  rw [hno] at hch
  simp only [Bool.false_eq_true, if_false] at hch
  simp only [hlt, zz, Nat.reduceEqDiff]
  clear next7 hlt hi
  -- names of the rules
  refine CutW_of ?_
  refine Lfp_up rs.length (fun i x σ2 => x = lookP [(16, .int .i64 i), (1, .agg [.list mk (ms.map pvMeta), .list rk (rs.map pvRule)])] ∧ σ' <+: σ2 ∧ (rs.take i).any (fun r => (ruleAll r).any (unkL (ms.map (·.1)))) = false) ?_ ⟨rfl, hpre, rfl⟩
  rintro Φ9 i x σ3 hi ⟨rfl, hpre3, hno9⟩ next9
  simp only [List.length_map, zz, Nat.reduceEqDiff]
  by_cases hlt : i < rs.length
  · have hgi : rs[i]? = some rs[i] := by simp [hlt]
    have hmem : rs[i] ∈ rs := by simp
    generalize rs[i] = r at hgi hmem
    have hr := hg.rules r hmem
    have hgood := lists_good (rules_good hre r hmem)
    have hpr : pvRule r = .agg [pvParts r.1, pvLists r.2] := rfl
    simp only [hlt, encRule.index hgi, zz, Nat.reduceEqDiff]
    refine CutW_of ?_
    rw [hpr]
    simp only [vBuildSl_one (sizedParts r.1), encRule.index hgi, zz, Nat.reduceEqDiff]
    obtain ⟨v, σ4, e1, e2, e3⟩ := app_all (σ := σ3) hr
    rw [e1]
    simp only [zC]
    have hall : (ruleAll r).length ≤ 1048577 := by
      have := hr.right.len
      simp only [ruleAll, List.length_cons]
      omega
    have hpre4 : σ' <+: σ4 := hpre3.trans e3
    have hlen4 : ∀ σ, vLen .sl v σ = some (.int .i64 (ruleAll r).length) := fun σ => by
      have := e2.len σ
      simpa using this
    refine Lfp_up (ruleAll r).length (fun j x σ5 => x = lookP [(16, .int .i64 i), (17, v), (18, .int .i64 j), (1, .agg [.list mk (ms.map pvMeta), .list rk (rs.map pvRule)])] ∧ σ5 = σ4 ∧ ((ruleAll r).take j).any (unkL (ms.map (·.1))) = false) ?_ ⟨rfl, rfl, rfl⟩
    rintro Φ10 j x σ5 hj ⟨rfl, rfl, hpj⟩ next10
    simp only [hlen4, zz, Nat.reduceEqDiff]
    by_cases hjlt : j < (ruleAll r).length
    · have hgj : (ruleAll r)[j]? = some (ruleAll r)[j] := by simp [hjlt]
      have hmj : (ruleAll r)[j] ∈ ruleAll r := by simp
      generalize (ruleAll r)[j] = l at hgj hmj
      have hl : OkParts l := by
        rcases List.mem_cons.1 hmj with rfl | h
        · exact hr.left
        · exact hr.right.mem l h
      have hbl := hgood l hmj
      obtain ⟨q, q1, q2, _⟩ := e2.at_ (i := j) (k := .i64) (by rw [List.getElem?_map, hgj]; rfl) (show (pvParts l).cells? = some _ from rfl) rfl
      have q3 : vLoad false 1 q σ5 = some (pvParts l) := q2 false 1
      simp only [hjlt, hpt0, q1, q3, zz, Nat.reduceEqDiff]
      refine (hc69 hl _).callB ?_
      rw [unkL_eq hbl]
      have hnm : names ((mk, ms), rk, rs) = ms.map (·.1) := rfl
      rw [hnm]
      cases e4 : unkL (ms.map (·.1)) l with
      | true =>
        simp only [if_true, show ((4 : Int) != 0) = true from rfl, zz, Nat.reduceEqDiff]
        refine fin 4 _ hpre4 ?_
        rw [hch, if_pos]
        exact any_of_get hgi (any_of_get (l := ruleAll r) hgj e4)
      | false =>
        simp only [Bool.false_eq_true, if_false, show ((0 : Int) != 0) = false from rfl, zz, Nat.reduceEqDiff]
        rw [vBin_add _ (by omega) (by omega)]
        exact next10 _ _ hjlt ⟨by simp, rfl, any_take_false hpj hgj e4⟩
    · obtain rfl : j = (ruleAll r).length := by omega
      rw [List.take_length] at hpj
      simp only [hjlt, zz, Nat.reduceEqDiff]
      rw [vBin_add _ (by omega) (by omega)]
      exact next9 _ _ hlt ⟨by simp, hpre4, any_take_false hno9 hgi hpj⟩
  obtain rfl : i = rs.length := by omega
  rw [List.take_length] at hno9
  simp only [hlt, zz, Nat.reduceEqDiff]
  refine fin 0 _ hpre3 ?_
  rw [hch, hno9]
  simp

end Go.Proofs.YtiniifbmeobmgaaGreatDoor

/- Small; a grammar as the reference's; the law HyperChecks. -/
set_option linter.unusedVariables false
set_option linter.unusedSimpArgs false
namespace Go.Proofs.YtiniifbmeobmgaaGreatDoor
open Go Go.Abs

/-! ### Small -/

def long8 (l : Sl Part) : Bool := decide ((l.2.length : Int) > 8)
def many6 (ls : Lists) : Bool := decide ((ls.2.length : Int) > 6) || ls.2.any long8
def smallG (g : Gram) : Bool := decide ((g.1.2.length : Int) ≤ 8) && (decide ((g.2.2.length : Int) ≤ 20) && (!(g.1.2.any fun m => many6 m.2) && !(g.2.2.any fun r => long8 r.1 || many6 r.2)))

theorem hb49 : hasBody 49 = true := by kernel_rfl
theorem hb50 : hasBody 50 = true := by kernel_rfl
theorem hb52 : hasBody 52 = true := by kernel_rfl
theorem hb54 : hasBody 54 = true := by kernel_rfl

theorem c49 {l : Sl Part} (σ : St) : Ret W 49 [pvParts l] σ (.bool (long8 l)) := by
  refine ret_of fun R hR => ?_
  rw [fn49_eq]
  unfold fn49
  simp only [pvParts, pvSl, List.length_map, zz, Nat.reduceEqDiff]
  exact weakW_keep hR

theorem c50 {ls : Lists} (hl : OkLists ls) {σ : St} {c : Nat} (hc : σ[c]? = some (.arr 0 1 [.func 49 []])) : Ret W 50 [pvLists ls, .ptr c 0 0 0] σ (.bool (many6 ls)) := by
  refine ret_of fun R hR => ?_
  rw [fn50_eq]
  unfold fn50
  have hld : vLoad false 1 (.ptr c 0 0 0) σ = some (.func 49 []) := by simp [vLoad, hc, vPart, PV.cells?]
  simp only [pvLists, pvSl, List.length_map, zz, Nat.reduceEqDiff]
  cases h1 : decide ((ls.2.length : Int) > 6) with
  | true =>
    simp only [zz, Nat.reduceEqDiff]
    refine weakW_keep ?_
    simpa [many6, h1] using hR
  | false =>
    simp only [hld, zz, Nat.reduceEqDiff]
    refine (c51 encParts long8 hb49 (Nat.lt_of_le_of_lt hl.len (by decide)) fun l _ => c49 _).callB ?_
    try simp only [zz, Nat.reduceEqDiff]
    refine weakW_keep ?_
    simpa [many6, h1] using hR

theorem c52 {m : Meta19} (hm : OkMeta m) {σ : St} {c d : Nat} (hc : σ[c]? = some (.arr 0 1 [.func 49 []])) (hd : σ[d]? = some (.arr 0 1 [.func 50 [.ptr c 0 0 0]])) : Ret W 52 [pvMeta m, .ptr d 0 0 0] σ (.bool (many6 m.2)) := by
  refine ret_of fun R hR => ?_
  rw [fn52_eq]
  unfold fn52
  obtain ⟨n, ls⟩ := m
  have hbox : opC.vBoxAny (.agg [.str n, pvLists ls]) = some (2, .agg [.str n, pvLists ls]) := rfl
  have hld : vLoad false 1 (.ptr d 0 0 0) σ = some (.func 50 [.ptr c 0 0 0]) := by simp [vLoad, hd, vPart, PV.cells?]
  simp only [pvMeta, hbox, hld, callG_func hb50, List.cons_append, List.nil_append, zz, Nat.reduceEqDiff]
  refine (c50 hm.alts hc).callB ?_
  exact weakW_keep hR

theorem c54 {r : Rule19} (hr : OkRule r) {σ : St} {c d : Nat} (hc : σ[c]? = some (.arr 0 1 [.func 49 []])) (hd : σ[d]? = some (.arr 0 1 [.func 50 [.ptr c 0 0 0]])) : Ret W 54 [pvRule r, .ptr c 0 0 0, .ptr d 0 0 0] σ (.bool (long8 r.1 || many6 r.2)) := by
  refine ret_of fun R hR => ?_
  rw [fn54_eq]
  unfold fn54
  obtain ⟨l, ls⟩ := r
  have hbox : opC.vBoxAny (.agg [pvParts l, pvLists ls]) = some (2, .agg [pvParts l, pvLists ls]) := rfl
  have hld : vLoad false 1 (.ptr d 0 0 0) σ = some (.func 50 [.ptr c 0 0 0]) := by simp [vLoad, hd, vPart, PV.cells?]
  have hlc : vLoad false 1 (.ptr c 0 0 0) σ = some (.func 49 []) := by simp [vLoad, hc, vPart, PV.cells?]
  simp only [pvRule, hbox, hlc, callG_func hb49, List.cons_append, List.nil_append, zz, Nat.reduceEqDiff]
  refine (c49 _).callB ?_
  cases h1 : long8 l with
  | true =>
    simp only [zz, Nat.reduceEqDiff]
    refine weakW_keep ?_
    simpa [h1] using hR
  | false =>
    simp only [hld, callG_func hb50, List.cons_append, List.nil_append, zz, Nat.reduceEqDiff]
    refine (c50 hr.right hc).callB ?_
    try simp only [zz, Nat.reduceEqDiff]
    refine weakW_keep ?_
    simpa [h1] using hR

theorem c14 {g : Gram} (hg : OkGram g) (σ : St) : Ret W 14 [pvGram g] σ (.bool (smallG g)) := by
  refine ret_of fun R hR => ?_
  rw [fn14_eq]
  unfold fn14
  have fin : ∀ (b : Bool) (σ' : St), σ <+: σ' → smallG g = b → weakW σ (.bool b) σ' fun v σ => R (.ret v) σ := fun b σ' hp he => weakW_clean hp (.base _ (.bool _)) (by rw [he] at hR; exact hR)
  obtain ⟨⟨mk, ms⟩, rk, rs⟩ := g
  have hml := hg.ml
  have hrl := hg.rl
  simp only at hml hrl
  have hG : pvGram ((mk, ms), rk, rs) = .agg [.list mk (ms.map pvMeta), .list rk (rs.map pvRule)] := rfl
  have hbox : opC.vBoxAny (.agg [.list mk (ms.map pvMeta), .list rk (rs.map pvRule)]) = some (2, .agg [.list mk (ms.map pvMeta), .list rk (rs.map pvRule)]) := rfl
  rw [hG]
  have st1 : vStore 1 (.ptr σ.length 0 0 0) (.func 49 []) (σ ++ [.arr 0 1 [.nilfunc]]) = some (σ ++ [.arr 0 1 [.func 49 []]]) := new_store1 rfl (.inr rfl)
  simp only [hbox, newW_eq, st1, zz, Nat.reduceEqDiff]
  have hc0 : (σ ++ [Blk.arr 0 1 [.func 49 []]])[σ.length]? = some (.arr 0 1 [.func 49 []]) := new_get _ _
  have hp0 : σ <+: σ ++ [Blk.arr 0 1 [.func 49 []]] := ⟨_, rfl⟩
  have hl0 : σ.length < (σ ++ [Blk.arr 0 1 [.func 49 []]]).length := by simp
  generalize σ ++ [Blk.arr 0 1 [.func 49 []]] = σ1 at hc0 hp0 hl0
  generalize σ.length = c at hc0 hl0
  have st2 : vStore 1 (.ptr σ1.length 0 0 0) (.func 50 [.ptr c 0 0 0]) (σ1 ++ [.arr 0 1 [.nilfunc]]) = some (σ1 ++ [.arr 0 1 [.func 50 [.ptr c 0 0 0]]]) := new_store1 rfl (.inr rfl)
  simp only [st2, List.length_map, zz, Nat.reduceEqDiff]
  have hd : (σ1 ++ [Blk.arr 0 1 [.func 50 [.ptr c 0 0 0]]])[σ1.length]? = some (.arr 0 1 [.func 50 [.ptr c 0 0 0]]) := new_get _ _
  have hc : (σ1 ++ [Blk.arr 0 1 [.func 50 [.ptr c 0 0 0]]])[c]? = some (.arr 0 1 [.func 49 []]) := by rw [List.getElem?_append_left hl0]; exact hc0
  have hp : σ <+: σ1 ++ [Blk.arr 0 1 [.func 50 [.ptr c 0 0 0]]] := pre_app hp0 _
  generalize σ1 ++ [Blk.arr 0 1 [.func 50 [.ptr c 0 0 0]]] = σ2 at hd hc hp
  generalize σ1.length = d at hd
  have hs : smallG ((mk, ms), rk, rs) = (decide ((ms.length : Int) ≤ 8) && (decide ((rs.length : Int) ≤ 20) && (!(ms.any fun m => many6 m.2) && !(rs.any fun r => long8 r.1 || many6 r.2)))) := rfl
  cases h1 : decide ((ms.length : Int) ≤ 8) with
  | false =>
    simp only [zz, Nat.reduceEqDiff]
    exact fin false _ hp (by rw [hs, h1]; rfl)
  | true =>
  simp only [List.length_map, zz, Nat.reduceEqDiff]
  cases h2 : decide ((rs.length : Int) ≤ 20) with
  | false =>
    simp only [zz, Nat.reduceEqDiff]
    exact fin false _ hp (by rw [hs, h1, h2]; rfl)
  | true =>
  simp only [zz, Nat.reduceEqDiff]
  refine (c35 encMeta (fun m => many6 m.2) hb52 (Nat.lt_of_le_of_lt hml (by decide)) fun m hm => c52 (hg.metas m hm) hc hd).callB ?_
  cases h3 : ms.any fun m => many6 m.2 with
  | true =>
    simp only [zz, Nat.reduceEqDiff]
    exact fin false _ hp (by rw [hs, h1, h2, h3]; rfl)
  | false =>
  simp only [zz, Nat.reduceEqDiff]
  refine (c53 encRule (fun r => long8 r.1 || many6 r.2) hb54 (Nat.lt_of_le_of_lt hrl (by decide)) fun r hr => c54 (hg.rules r hr) hc hd).callB ?_
  simp only [zz, Nat.reduceEqDiff]
  exact fin _ _ hp (by rw [hs, h1, h2, h3]; rfl)

/-! ### As the reference's -/

/-- A slice that has grown. -/
def reK {α : Type} (xs : List α) : Sl α := (match xs with
  | [] => .nil
  | _ => .part, xs)

theorem growV_sl {α : Type} (enc : α → PV) (xs : List α) : growV (xs.map enc) = pvSl enc (reK xs) := by
  cases xs <;> rfl

def refParts (l : Sl Part) : Sl Part := reK l.2
def refLists (ls : Lists) : Lists := reK (ls.2.map refParts)
def refMeta (m : Meta19) : Meta19 := (m.1, refLists m.2)
def refRule (r : Rule19) : Rule19 := (refParts r.1, refLists r.2)
def refGram (g : Gram) : Gram := (reK (g.1.2.map refMeta), reK (g.2.2.map refRule))

theorem c25' {l : Sl Part} (hl : l.2.length < 1048577) (σ : St) : Ret W 25 [pvParts l] σ (pvParts (refParts l)) := by
  have := c25 hl (lk := l.1) σ
  rw [growV_sl] at this
  exact this

theorem c70 {ls : Lists} (hl : OkLists ls) (σ : St) : Ret W 70 [pvLists ls] σ (pvLists (refLists ls)) := by
  refine ret_of fun R hR => ?_
  rw [fn70_eq]
  unfold fn70
  obtain ⟨k, ls⟩ := ls
  have hlen := hl.len
  simp only at hlen
  have hv : pvLists (k, ls) = .list k (ls.map pvParts) := rfl
  rw [hv]
  refine CutW_of ?_
  simp only [List.length_map, zz, Nat.reduceEqDiff]
  refine Lfp_up ls.length (fun i x σ' => ∃ v, x = lookP [(3, v), (6, .list k (ls.map pvParts)), (7, .int .i64 ls.length), (8, .int .i64 i)] ∧ Grow σ.length 1 σ' v (((ls.take i).map refParts).map pvParts) ∧ σ <+: σ') ?_ ⟨_, rfl, .nil _ _ _, List.prefix_rfl⟩
  rintro Φ i x σ' hi ⟨v, rfl, hg, hp⟩ next
  simp only [zz, Nat.reduceEqDiff]
  by_cases hlt : i < ls.length
  · have hgi : ls[i]? = some ls[i] := by simp [hlt]
    have hmem : ls[i] ∈ ls := by simp
    generalize ls[i] = l at hgi hmem
    have hll := (hl.mem l hmem).len
    simp only [hlt, encParts.index hgi, encParts.part, zz, Nat.reduceEqDiff]
    refine (c25' (by omega) σ').callB ?_
    have htk : ((ls.take (i + 1)).map refParts).map pvParts = ((ls.take i).map refParts).map pvParts ++ [pvParts (refParts l)] := by rw [List.take_add_one, hgi]; simp
    obtain ⟨v', σ'', e1, e2, e3, _⟩ := hg.app (by_ := 24) (y := .list .full [pvParts (refParts l)]) hp rfl (by simpa using sizedParts _) (by simp; omega)
    simp only [vBuildSl_one (sizedParts (refParts l)), e1, zz, Nat.reduceEqDiff]
    rw [vBin_add _ (by omega) (by omega)]
    exact next _ _ hlt ⟨v', by simp, by rw [htk]; exact e2, e3⟩
  · obtain rfl : i = ls.length := by omega
    rw [List.take_length] at hg
    simp only [hlt, zz, Nat.reduceEqDiff]
    refine weakW_clean hp (hg.frz fun y hy => ?_) (v' := growV ((ls.map refParts).map pvParts)) ?_
    · obtain ⟨p, _, rfl⟩ := List.mem_map.1 hy
      exact .base _ (underParts _ p)
    · rw [growV_sl]
      exact hR

theorem vPut_fst {a b x : PV} (hx : x.cells? = some [x]) : vPut 1 (.agg [a, b]) 0 x = some (.agg [x, b]) := by
  unfold vPut
  rw [hx]
  rfl

theorem vPut_snd {a b x : PV} (hx : x.cells? = some [x]) : vPut 1 (.agg [a, b]) 1 x = some (.agg [a, x]) := by
  unfold vPut
  rw [hx]
  rfl

theorem grow_cell {n0 sz : Nat} {σ : St} {x : PV} {ys : List PV} (h : Grow n0 sz σ x ys) : x.cells? = some [x] := by
  rcases h with ⟨rfl, _⟩ | ⟨b, g, _, rfl, _⟩ <;> rfl

theorem grow_pre {n0 sz : Nat} {σ σ' : St} {x : PV} {ys : List PV} (h : Grow n0 sz σ x ys) (hp : σ <+: σ') : Grow n0 sz σ' x ys := by
  rcases h with h | ⟨b, g, h1, h2, h3, h4⟩
  · exact .inl h
  · obtain ⟨t, rfl⟩ := hp
    exact .inr ⟨b, g, h1, h2, by rw [List.getElem?_append_left (List.getElem?_eq_some_iff.1 h3).1]; exact h3, h4⟩

theorem grow_less {n0 n1 sz : Nat} {σ : St} {x : PV} {ys : List PV} (h : Grow n0 sz σ x ys) (hn : n1 ≤ n0) : Grow n1 sz σ x ys := by
  rcases h with h | ⟨b, g, h1, h2, h3, h4⟩
  · exact .inl h
  · exact .inr ⟨b, g, Nat.le_trans hn h1, h2, h3, h4⟩

theorem c17 {g : Gram} (hg : OkGram g) (σ : St) : Ret W 17 [pvGram g] σ (pvGram (refGram g)) := by
  refine ret_of fun R hR => ?_
  rw [fn17_eq]
  unfold fn17
  obtain ⟨⟨mk, ms⟩, rk, rs⟩ := g
  have hml := hg.ml
  have hrl := hg.rl
  simp only at hml hrl
  have hG : pvGram ((mk, ms), rk, rs) = .agg [.list mk (ms.map pvMeta), .list rk (rs.map pvRule)] := rfl
  have hbox : opC.vBoxAny (.agg [.list mk (ms.map pvMeta), .list rk (rs.map pvRule)]) = some (2, .agg [.list mk (ms.map pvMeta), .list rk (rs.map pvRule)]) := rfl
  rw [hG]
  simp only [hbox, zz, Nat.reduceEqDiff]
  refine CutW_of ?_
  simp only [List.length_map, zz, Nat.reduceEqDiff]
  refine Lfp_up ms.length (fun i x σ' => ∃ v, x = lookP [(9, .list mk (ms.map pvMeta)), (10, .int .i64 ms.length), (11, .int .i64 i), (1, .agg [.list mk (ms.map pvMeta), .list rk (rs.map pvRule)]), (2, .agg [.list .nil [], .list .nil []]), (3, .agg [v, .list .nil []])] ∧ Grow σ.length 2 σ' v (((ms.take i).map refMeta).map pvMeta) ∧ σ <+: σ') ?_ ⟨_, rfl, .nil _ _ _, List.prefix_rfl⟩
  rintro Φ i x σ' hi ⟨v, rfl, hgr, hp⟩ next
  simp only [zz, Nat.reduceEqDiff]
  by_cases hlt : i < ms.length
  · have hgi : ms[i]? = some ms[i] := by simp [hlt]
    have hmem : ms[i] ∈ ms := by simp
    generalize ms[i] = m at hgi hmem
    have hm := hg.metas m hmem
    have hput : vPut 2 (.agg [.str [], .list .nil []]) 0 (pvMeta m) = some (pvMeta m) := rfl
    simp only [hlt, encMeta.index hgi, encMeta.part, hput, zz, Nat.reduceEqDiff]
    have hpm : pvMeta m = .agg [.str m.1, pvLists m.2] := rfl
    rw [hpm]
    simp only [zz, Nat.reduceEqDiff]
    refine (c70 hm.alts σ').callB ?_
    have hbd : vBuild [.str [], .list .nil []] [(0, 1, .str m.1), (1, 1, pvLists (refLists m.2))] = some [.str m.1, pvLists (refLists m.2)] := rfl
    have hrm : PV.agg [.str m.1, pvLists (refLists m.2)] = pvMeta (refMeta m) := rfl
    have htk : ((ms.take (i + 1)).map refMeta).map pvMeta = ((ms.take i).map refMeta).map pvMeta ++ [pvMeta (refMeta m)] := by rw [List.take_add_one, hgi]; simp
    obtain ⟨v', σ'', e1, e2, e3, _⟩ := hgr.app (by_ := 40) (y := .list .full [pvMeta (refMeta m)]) hp rfl (by simpa using sizedMeta _) (by simp; omega)
    simp only [hbd, hrm, vBuildSl_one (sizedMeta (refMeta m)), e1, vPut_fst (grow_cell e2), zz, Nat.reduceEqDiff]
    rw [vBin_add _ (by omega) (by omega)]
    exact next _ _ hlt ⟨v', by simp, by rw [htk]; exact e2, e3⟩
  obtain rfl : i = ms.length := by omega
  rw [List.take_length] at hgr
  simp only [hlt, zz, Nat.reduceEqDiff]
  clear next hlt hi
  refine CutW_of ?_
  simp only [List.length_map, zz, Nat.reduceEqDiff]
  refine Lfp_up rs.length (fun i x σ'' => ∃ w, x = lookP [(28, .list rk (rs.map pvRule)), (29, .int .i64 rs.length), (30, .int .i64 i), (2, .agg [.list .nil [], .list .nil []]), (3, .agg [v, w])] ∧ Grow σ'.length 2 σ'' w (((rs.take i).map refRule).map pvRule) ∧ σ' <+: σ'') ?_ ⟨_, rfl, .nil _ _ _, List.prefix_rfl⟩
  rintro Φ2 i x σ2 hi ⟨w, rfl, hgw, hp2⟩ next
  simp only [zz, Nat.reduceEqDiff]
  by_cases hlt : i < rs.length
  · have hgi : rs[i]? = some rs[i] := by simp [hlt]
    have hmem : rs[i] ∈ rs := by simp
    generalize rs[i] = r at hgi hmem
    have hr := hg.rules r hmem
    have hput : vPut 2 (.agg [.list .nil [], .list .nil []]) 0 (pvRule r) = some (pvRule r) := rfl
    simp only [hlt, encRule.index hgi, encRule.part, hput, zz, Nat.reduceEqDiff]
    have hpr : pvRule r = .agg [pvParts r.1, pvLists r.2] := rfl
    rw [hpr]
    simp only [zz, Nat.reduceEqDiff]
    have := hr.left.len
    refine (c25' (by omega) σ2).callB ?_
    refine (c70 hr.right σ2).callB ?_
    have hbd : vBuild [.list .nil [], .list .nil []] [(0, 1, pvParts (refParts r.1)), (1, 1, pvLists (refLists r.2))] = some [pvParts (refParts r.1), pvLists (refLists r.2)] := rfl
    have hrm : PV.agg [pvParts (refParts r.1), pvLists (refLists r.2)] = pvRule (refRule r) := rfl
    have htk : ((rs.take (i + 1)).map refRule).map pvRule = ((rs.take i).map refRule).map pvRule ++ [pvRule (refRule r)] := by rw [List.take_add_one, hgi]; simp
    obtain ⟨v', σ'', e1, e2, e3, _⟩ := hgw.app (by_ := 48) (y := .list .full [pvRule (refRule r)]) hp2 rfl (by simpa using sizedRule _) (by simp; omega)
    simp only [hbd, hrm, vBuildSl_one (sizedRule (refRule r)), e1, vPut_snd (grow_cell e2), zz, Nat.reduceEqDiff]
    rw [vBin_add _ (by omega) (by omega)]
    exact next _ _ hlt ⟨v', by simp, by rw [htk]; exact e2, e3⟩
  obtain rfl : i = rs.length := by omega
  rw [List.take_length] at hgw
  have hput : vPut 2 (.agg [.list .nil [], .list .nil []]) 0 (.agg [v, w]) = some (.agg [v, w]) := rfl
  simp only [hlt, hput, zz, Nat.reduceEqDiff]
  show weakW σ (.agg [v, w]) σ2 _
  refine weakW_clean (hp.trans hp2) (v' := pvGram (refGram ((mk, ms), rk, rs))) ?_ hR
  have f1 : Frz σ2 σ.length v (growV ((ms.map refMeta).map pvMeta)) := (grow_pre hgr hp2).frz fun y hy => by
    obtain ⟨p, _, rfl⟩ := List.mem_map.1 hy
    exact .base _ (underMeta _ p)
  have f2 : Frz σ2 σ.length w (growV ((rs.map refRule).map pvRule)) := (grow_less hgw hp.length_le).frz fun y hy => by
    obtain ⟨p, _, rfl⟩ := List.mem_map.1 hy
    exact .base _ (underRule _ p)
  rw [growV_sl] at f1 f2
  refine .agg _ _ rfl fun i a b ha hb => ?_
  match i with
  | 0 => simp at ha hb; subst ha hb; exact f1
  | 1 => simp at ha hb; subst ha hb; exact f2
  | i + 2 => simp at ha

/-! ### The reference's grammar is checked alike -/

theorem longL_ref (l : Sl Part) : longL (refParts l) = longL l := rfl
theorem badL_ref (d : Bool) (l : Sl Part) : badL d (refParts l) = badL d l := rfl
theorem unkL_ref (ns : List Str) (l : Sl Part) : unkL ns (refParts l) = unkL ns l := rfl
theorem anyL_ref (q : Sl Part → Bool) (hq : ∀ l, q (refParts l) = q l) (ls : Lists) : (refLists ls).2.any q = ls.2.any q := by
  show (ls.2.map refParts).any q = _
  rw [List.any_map]
  congr 1
  funext l
  exact hq l
theorem longM_ref (m : Meta19) : longM (refMeta m) = longM m := by
  have h : (refMeta m).2.2.any longL = m.2.2.any longL := anyL_ref _ longL_ref m.2
  have h2 : (refMeta m).2.2.length = m.2.2.length := by simp [refMeta, refLists, reK]
  simp only [longM, h, h2]
theorem longR_ref (r : Rule19) : longR (refRule r) = longR r := by
  have h : (refRule r).2.2.any longL = r.2.2.any longL := anyL_ref _ longL_ref r.2
  have h2 : (refRule r).2.2.length = r.2.2.length := by simp [refRule, refLists, reK]
  have h3 : (refRule r).1.2.length = r.1.2.length := rfl
  simp only [longR, h, h2, h3]
theorem metasErr_ref : ∀ (ms : List Meta19) (seen : List Str), metasErr (ms.map refMeta) seen = metasErr ms seen
  | [], _ => rfl
  | m :: ms, seen => by
    have h : (refMeta m).2.2.any (badL false) = m.2.2.any (badL false) := anyL_ref _ (badL_ref false) m.2
    have h2 : (refMeta m).2.2.length = m.2.2.length := by simp [refMeta, refLists, reK]
    have h3 : (refMeta m).1 = m.1 := rfl
    simp only [List.map_cons, metasErr, h, h2, h3, metasErr_ref ms]
theorem listsErr_ref : ∀ (ls : List (Sl Part)), listsErr (ls.map refParts) = listsErr ls
  | [] => rfl
  | l :: ls => by
    have h2 : (refParts l).2.length = l.2.length := rfl
    simp only [List.map_cons, listsErr, badL_ref, h2, listsErr_ref ls]
theorem ruleAll_ref (r : Rule19) : ruleAll (refRule r) = (ruleAll r).map refParts := rfl
theorem rulesErr_ref : ∀ (rs : List Rule19), rulesErr (rs.map refRule) = rulesErr rs
  | [] => rfl
  | r :: rs => by simp only [List.map_cons, rulesErr, ruleAll_ref, listsErr_ref, rulesErr_ref rs]
theorem names_ref (g : Gram) : names (refGram g) = names g := by
  show (g.1.2.map refMeta).map (·.1) = _
  rw [List.map_map]
  rfl

theorem checkG_ref (g : Gram) : checkG (refGram g) = checkG g := by
  have h1 : (refGram g).1.2 = g.1.2.map refMeta := rfl
  have h2 : (refGram g).2.2 = g.2.2.map refRule := rfl
  have a1 : ∀ q : Meta19 → Bool, (∀ m, q (refMeta m) = q m) → (g.1.2.map refMeta).any q = g.1.2.any q := fun q hq => by
    rw [List.any_map]; congr 1; funext m; exact hq m
  have a2 : ∀ q : Rule19 → Bool, (∀ m, q (refRule m) = q m) → (g.2.2.map refRule).any q = g.2.2.any q := fun q hq => by
    rw [List.any_map]; congr 1; funext m; exact hq m
  simp only [checkG, tooLong, names_ref, h1, h2, List.length_map, metasErr_ref, rulesErr_ref, a1 longM longM_ref, a2 longR longR_ref]
  rw [a1 (fun m => m.2.2.any (unkL (names g))) fun m => anyL_ref _ (unkL_ref (names g)) m.2]
  rw [a2 (fun r => (ruleAll r).any (unkL (names g))) fun r => by
    show ((ruleAll r).map refParts).any _ = _
    rw [List.any_map]
    rfl]
  rfl

theorem okParts_ref {l : Sl Part} (h : OkParts l) : OkParts (refParts l) := ⟨h.len, h.txt⟩
theorem okLists_ref {ls : Lists} (h : OkLists ls) : OkLists (refLists ls) := ⟨by simpa [refLists, reK] using h.len, fun p hp => by
  obtain ⟨q, hq, rfl⟩ := List.mem_map.1 (show p ∈ ls.2.map refParts from hp)
  exact okParts_ref (h.mem q hq)⟩
theorem okGram_ref {g : Gram} (h : OkGram g) : OkGram (refGram g) := ⟨by simpa [refGram, reK] using h.ml, by simpa [refGram, reK] using h.rl,
  fun p hp => by
    obtain ⟨q, hq, rfl⟩ := List.mem_map.1 (show p ∈ g.1.2.map refMeta from hp)
    exact ⟨(h.metas q hq).txt, okLists_ref (h.metas q hq).alts⟩,
  fun p hp => by
    obtain ⟨q, hq, rfl⟩ := List.mem_map.1 (show p ∈ g.2.2.map refRule from hp)
    exact ⟨okParts_ref (h.rules q hq).left, okLists_ref (h.rules q hq).right⟩⟩

/-- The law, the examples' run taken as given. -/
theorem c3 (hawake : ∀ σ : St, σ = [] → Ret W 13 [] σ (.bool true)) {g : Gram} (hg : OkGram g) : Ret W 3 [pvGram g] [] (.bool true) := by
  refine ret_of fun R hR => ?_
  rw [fn3_eq]
  unfold fn3
  have hbox : opC.vBoxAny (pvGram g) = some (2, pvGram g) := rfl
  have hpt : vPart true 2 (pvGram g) 0 = some (pvGram g) := rfl
  have hp0 : vPart false 1 (pvGram g) 0 = some (pvSl pvMeta g.1) := rfl
  have hp1 : vPart false 1 (pvGram g) 1 = some (pvSl pvRule g.2) := rfl
  have hl0 : vLen .sl (pvSl pvMeta g.1) [] = some (.int .i64 g.1.2.length) := by simp [pvSl]
  have hl1 : vLen .sl (pvSl pvRule g.2) [] = some (.int .i64 g.2.2.length) := by simp [pvSl]
  simp only [hbox, zz, Nat.reduceEqDiff]
  refine (hawake [] rfl).callB ?_
  simp only [hpt, zz, Nat.reduceEqDiff]
  refine (c14 hg []).callB ?_
  cases h : smallG g with
  | true =>
    simp only [hpt, zz, Nat.reduceEqDiff]
    refine (c15 hg []).callB ?_
    refine (c17 hg []).callB ?_
    refine (c16 (okGram_ref hg) []).callB ?_
    simp only [checkG_ref, BEq.rfl, zz, Nat.reduceEqDiff]
    exact weakW_keep hR
  | false =>
    simp only [hp0, hp1, hl0, hl1, zz, Nat.reduceEqDiff]
    cases h1 : decide ((g.1.2.length : Int) ≤ 100) with
    | true =>
      simp only [hp1, hl1, zz, Nat.reduceEqDiff]
      cases h2 : decide ((g.2.2.length : Int) ≤ 500) with
      | true =>
        simp only [zz, Nat.reduceEqDiff]
        exact weakW_keep hR
      | false =>
        simp only [hpt, zz, Nat.reduceEqDiff]
        refine (c15 hg []).callB ?_
        have : checkG g = 3 := by
          have : tooLong g = true := by
            rw [decide_eq_false_iff_not] at h2
            simp [tooLong]
            omega
          simp only [checkG, this, if_true]
        simp only [this, BEq.rfl, zz, Nat.reduceEqDiff]
        exact weakW_keep hR
    | false =>
      simp only [hpt, zz, Nat.reduceEqDiff]
      refine (c15 hg []).callB ?_
      have : checkG g = 3 := by
        have : tooLong g = true := by
          rw [decide_eq_false_iff_not] at h1
          simp [tooLong]
          omega
        simp only [checkG, this, if_true]
      simp only [this, BEq.rfl, zz, Nat.reduceEqDiff]
      exact weakW_keep hR

end Go.Proofs.YtiniifbmeobmgaaGreatDoor

