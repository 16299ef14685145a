/- The reference's reader: alternatives and rules. -/
import Derived.Test.YtiniifbmeobmgaaGreatDoorRdH
set_option linter.unusedVariables false
set_option linter.unusedSimpArgs false
namespace Go.Proofs.YtiniifbmeobmgaaGreatDoor
open Go Go.Abs

theorem pStep_spec {s : Str} {d : Bool} {q : RR} {acc : List Part} (hq : Ok s q) : Ok s ((pSyn acc (pName d q)).next s) ∧ q.a ≤ ((pSyn acc (pName d q)).next s).a := by
  have ha : (pSyn acc (pName d q)).a ≤ s.length := by rw [pSyn_a, pName_a]; exact hq.a
  obtain ⟨h1, h2, h3⟩ := next_spec ha
  rw [pSyn_a, pName_a] at h2
  exact ⟨h1, h2⟩

theorem pLoop_spec {s : Str} {d : Bool} : ∀ (n : Nat) (q : RR) (acc : List Part), Ok s q → Ok s (pLoop s d n q acc).1 ∧ q.a ≤ (pLoop s d n q acc).1.a ∧ (q.tt = [] → (pLoop s d n q acc).1 = q ∧ (pLoop s d n q acc).2 = acc) ∧ (pLoop s d n q acc).2.length ≤ acc.length + n
  | 0, q, acc, hq => ⟨hq, Nat.le_refl _, fun _ => ⟨rfl, rfl⟩, by simp [pLoop]⟩
  | n + 1, q, acc, hq => by
    simp only [pLoop]
    split
    · rename_i hb
      obtain ⟨h1, h2⟩ := pStep_spec (d := d) (acc := acc) hq
      obtain ⟨h3, h4, _, h6⟩ := pLoop_spec n ((pSyn acc (pName d q)).next s) (acc ++ [(!isWord q.tt, q.tt)]) h1
      refine ⟨h3, by omega, fun he => ?_, by simp at h6; omega⟩
      rw [he] at hb
      cases hb
    · exact ⟨hq, Nat.le_refl _, fun _ => ⟨rfl, rfl⟩, by simp⟩

def pAlt (s : Str) (d : Bool) (q : RR) : RR × Sl Part :=
  (if (pParts s d q).2.isEmpty then (pParts s d q).1.wrong s else (pParts s d q).1,
   match (pParts s d q).2 with
   | [p] => if p.2 == EMPTY then (.full, []) else reK [p]
   | l => reK l)

theorem pAlt_spec {s : Str} {d : Bool} {q : RR} (hq : Ok s q) : Ok s (pAlt s d q).1 ∧ q.a ≤ (pAlt s d q).1.a ∧ (q.tt = [] → (pAlt s d q).1.tt = []) ∧ (pAlt s d q).2.2.length ≤ s.length + 1 := by
  obtain ⟨h1, h2, h3, h4⟩ := pLoop_spec (d := d) (s.length + 1) q [] hq
  have e : pParts s d q = pLoop s d (s.length + 1) q [] := rfl
  unfold pAlt
  rw [← e] at h1 h2 h3 h4
  refine ⟨?_, ?_, fun he => ?_, ?_⟩
  · show Ok s (if _ then _ else _)
    split
    · exact h1.wrong
    · exact h1
  · show q.a ≤ RR.a (if _ then _ else _)
    split
    · rw [wrong_a]; exact h2
    · exact h2
  · show RR.tt (if _ then _ else _) = []
    split
    · rw [wrong_tt, (h3 he).1]; exact he
    · rw [(h3 he).1]; exact he
  · show (match (pParts s d q).2 with
      | [p] => if p.2 == EMPTY then ((.full, []) : Sl Part) else reK [p]
      | l => reK l).2.length ≤ _
    simp only [List.length_nil, Nat.zero_add] at h4
    split
    · split
      · simp
      · simp [reK_snd]
    · rw [reK_snd]
      exact h4

theorem c81 {s : Str} (hs : s.length ≤ 65536) {q : RR} {σ : St} {P : Nat} (h : Has σ P (rc s q)) (hq : Ok s q) (d : Bool) : Up 81 [.ptr P 0 0 0, .bool d] σ P s (pvParts (pAlt s d q).2) (pAlt s d q).1 := by
  intro R hR
  have hP := h.lt
  refine callW_fold ?_
  rw [fn81_eq]
  unfold fn81
  refine (c80 hs h hq d).callB ?_
  refine CutW_of ?_
  unfold pAlt at hR
  generalize pParts s d q = r at hR ⊢
  obtain ⟨q1, l⟩ := r
  have h1 := cd_has hP (rc s q1)
  have hlen : ∀ (l : List Part) (σ : St), vLen .sl (pvParts (reK l)) σ = some (.int .i64 (l.length : Nat)) := fun l σ => by simp [pvParts, pvSl, vLen, reK_snd]
  have hbs : vBuildSl 2 (List.replicate 0 (.agg [(.bool false), (.str [])])) [] = some [] := rfl
  match l with
  | [] =>
    have e0 : (((([] : List Part).length : Nat) : Int) == 0) = true := rfl
    have e1 : (((([] : List Part).length : Nat) : Int) == 1) = false := rfl
    simp only [hlen, e0, zz, Nat.reduceEqDiff, if_true, if_false, decide_true, decide_false, eq_self]
    refine (c79 h1).callB ?_
    simp only [hlen, e1, cd_cd, zz, Nat.reduceEqDiff, if_true, if_false, decide_true, decide_false, eq_self]
    exact weakW_keep hR
  | [p] =>
    have e0 : (((([p] : List Part).length : Nat) : Int) == 0) = false := rfl
    have e1 : (((([p] : List Part).length : Nat) : Int) == 1) = true := rfl
    have hix : vIndex 2 (pvParts (reK [p])) (.int .i64 0) = some (.eptr (pvPart p) 0) := rfl
    have hpt : vPart false 1 (pvPart p) 1 = some (.str p.2) := rfl
    cases he : p.2 == [69, 77, 80, 84, 89] with
    | true =>
      simp only [hlen, e0, e1, hix, hpt, he, hbs, zz, Nat.reduceEqDiff, if_true, if_false, decide_true, decide_false, eq_self]
      refine weakW_keep ?_
      simp [he] at hR
      exact hR
    | false =>
      simp only [hlen, e0, e1, hix, hpt, he, zz, Nat.reduceEqDiff, if_true, if_false, decide_true, decide_false, eq_self]
      refine weakW_keep ?_
      simp [he] at hR
      exact hR
  | a :: b :: l =>
    have e0 : ((((a :: b :: l).length : Nat) : Int) == 0) = false := by
      rw [beq_eq_false_iff_ne]
      simp
      omega
    have e1 : ((((a :: b :: l).length : Nat) : Int) == 1) = false := by
      rw [beq_eq_false_iff_ne]
      simp
      omega
    simp only [hlen, e0, e1, zz, Nat.reduceEqDiff, if_true, if_false, decide_true, decide_false, eq_self]
    exact weakW_keep hR

def pRight (s : Str) : Nat → RR → List Part → List (Sl Part) → RR × List (Sl Part)
  | 0, q, l, right => (q, right)
  | n + 1, q, l, right =>
    if q.tt == [44] && q.e.2 == 0 then
      if l.isEmpty then (q.wrong s, right)
      else pRight s n (pAlt s true (if (q.next s).tt == EMPTY then (q.next s).wrong s else q.next s)).1 l (right ++ [(pAlt s true (if (q.next s).tt == EMPTY then (q.next s).wrong s else q.next s)).2])
    else (q, right)

def pSide (s : Str) (q : RR) : RR × List (Sl Part) := pRight s (s.length + 1) (pAlt s true q).1 (pAlt s true q).2.2 (if (pAlt s true q).2.2.isEmpty then [] else [(pAlt s true q).2])

def pRules (s : Str) (left : List Part) : Nat → RR → List Rule19 → RR × List Rule19
  | 0, q, rs => (q, rs)
  | n + 1, q, rs =>
    if q.e.2 == 0 then
      if (pSide s q).1.tt == [59] then pRules s left n ((pSide s q).1.next s) (rs ++ [(reK left, reK (pSide s q).2)]) else ((pSide s q).1, rs ++ [(reK left, reK (pSide s q).2)])
    else (q, rs)


theorem pRight_spec {s : Str} : ∀ (n : Nat) (q : RR) (l : List Part) (right : List (Sl Part)), Ok s q → Ok s (pRight s n q l right).1 ∧ q.a ≤ (pRight s n q l right).1.a ∧ (q.tt = [] → (pRight s n q l right).1.tt = []) ∧ (pRight s n q l right).2.length ≤ right.length + n
  | 0, q, l, right, hq => ⟨hq, Nat.le_refl _, fun h => h, by simp [pRight]⟩
  | n + 1, q, l, right, hq => by
    simp only [pRight]
    split
    · rename_i hb
      have hne : q.tt ≠ [] := fun he => by rw [he] at hb; cases hb
      split
      · exact ⟨hq.wrong, by rw [wrong_a]; exact Nat.le_refl _, fun he => absurd he hne, by show right.length ≤ _; omega⟩
      · obtain ⟨h1, h2, h3⟩ := next_spec hq.a
        have h4 : Ok s (if (q.next s).tt == EMPTY then (q.next s).wrong s else q.next s) := by
          split
          · exact h1.wrong
          · exact h1
        have h5 : (if (q.next s).tt == EMPTY then (q.next s).wrong s else q.next s).a = (q.next s).a := by
          split
          · exact wrong_a _ _
          · rfl
        obtain ⟨g1, g2, g3, g4⟩ := pAlt_spec (d := true) h4
        obtain ⟨k1, k2, k3, k4⟩ := pRight_spec n _ l (right ++ [(pAlt s true (if (q.next s).tt == EMPTY then (q.next s).wrong s else q.next s)).2]) g1
        rw [h5] at g2
        rw [List.length_append, List.length_singleton] at k4
        exact ⟨k1, by omega, fun he => absurd he hne, by omega⟩
    · exact ⟨hq, Nat.le_refl _, fun h => h, by show right.length ≤ _; omega⟩

theorem pSide_spec {s : Str} {q : RR} (hq : Ok s q) : Ok s (pSide s q).1 ∧ q.a ≤ (pSide s q).1.a ∧ (q.tt = [] → (pSide s q).1.tt = []) ∧ (pSide s q).2.length ≤ s.length + 2 := by
  obtain ⟨g1, g2, g3, g4⟩ := pAlt_spec (d := true) hq
  obtain ⟨k1, k2, k3, k4⟩ := pRight_spec (s.length + 1) (pAlt s true q).1 (pAlt s true q).2.2 (if (pAlt s true q).2.2.isEmpty then [] else [(pAlt s true q).2]) g1
  refine ⟨k1, Nat.le_trans g2 k2, fun he => k3 (g3 he), ?_⟩
  have : (if (pAlt s true q).2.2.isEmpty then [] else [(pAlt s true q).2]).length ≤ 1 := by split <;> simp
  show (pRight s (s.length + 1) (pAlt s true q).1 (pAlt s true q).2.2 (if (pAlt s true q).2.2.isEmpty then [] else [(pAlt s true q).2])).2.length ≤ _
  omega

theorem app_len {sz by_ : Nat} {σ σ' : St} {x y x' : PV} (ha : vAppend sz by_ x y σ = some (x', σ')) : σ.length ≤ σ'.length := by
  unfold vAppend at ha
  repeat' split at ha
  all_goals first
    | (cases ha; first | exact Nat.le_refl _ | (simp))
    | cases ha

theorem app_keep {n0 sz by_ : Nat} {σ σ' : St} {x y x' : PV} {ys zs : List PV} (h : Grow n0 sz σ x ys) (hy : vElems y σ = some zs) (ha : vAppend sz by_ x y σ = some (x', σ')) {c : Nat} (hc : AtB x c) : AtB x' c := by
  simp only [vAppend, hy] at ha
  rcases h with ⟨rfl, rfl⟩ | ⟨b, g, hb0, rfl, hb, hne⟩
  · obtain ⟨_, _, _, _, hc⟩ := hc
    cases hc
  · obtain ⟨_, _, _, _, hc⟩ := hc
    cases hc
    simp only [hb] at ha
    split at ha
    · cases ha
      exact ⟨_, _, _, _, rfl⟩
    · split at ha
      · cases ha
        exact ⟨_, _, _, _, rfl⟩
      · cases ha

theorem grow_free {n0 sz : Nat} {σ : St} {x : PV} {ys : List PV} (h : Grow n0 sz σ x ys) {D : Nat → Prop} (hd : ∀ c, AtB x c → ¬ D c) : Free D x := by
  rcases h with ⟨rfl, _⟩ | ⟨b, g, hb0, rfl, hb, hne⟩
  · exact .list _ _ (by simp)
  · exact .sref _ _ _ _ _ (hd b ⟨_, _, _, _, rfl⟩)

theorem take_pre {σ : St} (n : Nat) : σ.take n <+: σ := List.take_prefix _ _

theorem c82 {s : Str} (hs : s.length ≤ 65536) {q : RR} {σ : St} {P : Nat} (h : Has σ P (rc s q)) (hq : Ok s q) {left : List Part} {n0 : Nat} (hn0 : P < n0) (hnl : n0 ≤ σ.length) {mv rv : PV} {ms : List PV} {rs : List Rule19} (hmv : Grow n0 2 σ mv ms)
    (hrv : Grow n0 2 σ rv (rs.map pvRule)) (hap : ∀ c, AtB mv c → ¬ AtB rv c) (hrl : rs.length ≤ 10000000000) {R : Res → St → Prop}
    (hR : ∀ rv' σ', Has σ' P (rc s (pRules s left (s.length + 2) q rs).1) → σ.length ≤ σ'.length → (∀ c < σ.length, c ≠ P → ¬ AtB rv c → σ'[c]? = σ[c]?) → Grow n0 2 σ' rv' ((pRules s left (s.length + 2) q rs).2.map pvRule) →
      (∀ c, AtB rv' c → AtB rv c ∨ σ.length ≤ c) → R (.ret (.agg [mv, rv'])) σ') : W 82 [.ptr P 0 0 0, .agg [mv, rv], pvParts (reK left)] σ R := by
  have hP := h.lt
  refine callW_fold ?_
  rw [fn82_eq]
  unfold fn82
  have hbox : opC.vBoxAny (.agg [mv, rv]) = some (2, .agg [mv, rv]) := rfl
  have hput : ∀ y : PV, vPut 2 (.agg [.list .nil [], .list .nil []]) 0 (.agg [mv, y]) = some (.agg [mv, y]) := fun y => vPut_agg rfl rfl
  simp only [hbox, zz, Nat.reduceEqDiff, if_true, if_false, decide_true, decide_false, eq_self]
  refine CutW_of ?_
  obtain ⟨T, hT⟩ : ∃ T, T = pRules s left (s.length + 2) q rs := ⟨_, rfl⟩
  rw [← hT] at hR
  refine Lfp_down (fun m x σ' => ∃ q' rv' rs', x = lookP [(0, .ptr P 0 0 0), (2, pvParts (reK left)), (4, .agg [mv, rv']), (6, .agg [.list .nil [], .list .nil []])] ∧ Ok s q' ∧ s.length - q'.a + (if q'.tt = [] then 0 else 1) < m ∧ rs'.length + m ≤ rs.length + s.length + 2 ∧
    Has σ' P (rc s q') ∧ σ.length ≤ σ'.length ∧ (∀ c < σ.length, c ≠ P → ¬ AtB rv c → σ'[c]? = σ[c]?) ∧ Grow n0 2 σ' rv' (rs'.map pvRule) ∧ (∀ c, AtB rv' c → AtB rv c ∨ σ.length ≤ c) ∧ (∀ c, AtB rv c → AtB rv' c) ∧ pRules s left m q' rs' = T) ?_ (s.length + 2)
    ⟨q, rv, rs, rfl, hq, by split <;> omega, by omega, h, Nat.le_refl _, fun _ _ _ _ => rfl, hrv, fun c hc => .inl hc, fun c hc => hc, hT.symm⟩
  rintro Φ m x σ1 ⟨q', rv', rs', rfl, hq', hm, hlen, hc, hl1, hsame, hG, hloc, hkeep, hF⟩ hnext hweak
  obtain ⟨m, rfl⟩ : ∃ k, m = k + 1 := ⟨m - 1, by omega⟩
  simp only [pRules] at hF
  simp only [nil_ptr, hc.ld, rc, zz, Nat.reduceEqDiff, if_true, if_false, decide_true, decide_false, eq_self]
  cases he : q'.e.2 == 0 with
  | false =>
    rw [he] at hF
    have hF : (q', rs') = T := hF
    simp only [hput, resCons, vResults, zz, Nat.reduceEqDiff, if_true, if_false, decide_true, decide_false, eq_self]
    rw [← hF] at hR
    exact weakW_keep (hR rv' σ1 hc hl1 hsame hG hloc)
  | true =>
    rw [he] at hF
    simp only [if_true] at hF
    simp only [zz, Nat.reduceEqDiff, if_true, if_false, decide_true, decide_false, eq_self]
    refine (c81 hs hc hq' true).callB ?_
    refine CutW_of ?_
    have hP1 : P < σ1.length := hc.lt
    obtain ⟨a1, a2, a3, a4⟩ := pAlt_spec (d := true) hq'
    obtain ⟨b1, b2, b3, b4⟩ := pSide_spec hq'
    -- a side has been read
    have fin : ∀ (w : PV) (σ3 : St), cd σ1 P (rc s (pSide s q').1) <+: σ3 → Grow σ1.length 1 σ3 w ((pSide s q').2.map pvParts) →
        bindO False (vPart false 1 (.agg [mv, rv']) 1) fun v71 =>
        bindO False (vBuild [(.list .nil []), (.list .nil [])] [(0, 1, pvParts (reK left)), (1, 1, w)]) fun v72 =>
        bindO False (vBuildSl 2 (List.replicate 1 (.agg [(.list .nil []), (.list .nil [])])) [(0, (.agg v72))]) fun v73 =>
        bindS (vAppend 2 48 v71 (.list .full v73) σ3) fun v74 σ75 =>
        bindO False (vPut 1 (.agg [mv, rv']) 1 v74) fun z76 =>
        bindO False (vNil (.ptr P 0 0 0)) fun v77 =>
        bindO False (vField 2 v77) fun v78 =>
        bindO False (vField 0 v78) fun v79 =>
        bindO False (vLoad false 1 v79 σ75) fun v80 =>
        bindO False (vBin none .neq v80 (.str [59])) fun v81 =>
        condW v81 (
        bindO False (vPart true 2 z76 0) fun v82 =>
        bindO False (vPut 2 (.agg [.list .nil [], .list .nil []]) 0 v82) fun z83 =>
        bindO False (resCons (vPart true 2 z83 0) (some [])) fun vs => weakW σ (vResults vs) σ75 fun v σ => R (.ret v) σ) (
        callB W 78 [.ptr P 0 0 0] σ75 (fun v84 σ85 =>
        Φ (lookP [(0, .ptr P 0 0 0), (2, pvParts (reK left)), (4, z76), (6, .agg [.list .nil [], .list .nil []])]) σ85) (fun e86 σ87 => R (.pan e86) σ87)) := by
      intro w σ3 hp3 hGw
      have hwc := grow_cell hGw
      have hsz : Sized 2 (.agg [pvParts (reK left), w]) := ⟨_, rfl, rfl⟩
      have hbd : vBuild [(.list .nil []), (.list .nil [])] [(0, 1, pvParts (reK left)), (1, 1, w)] = some [pvParts (reK left), w] := by
        rcases hGw with ⟨rfl, _⟩ | ⟨b, g, _, rfl, _, _⟩ <;> rfl
      obtain ⟨hl3, hs3⟩ := pre_same hp3
      have hG3 : Grow n0 2 σ3 rv' (rs'.map pvRule) := grow_stay hG fun c hcv => by
        obtain ⟨g1, g2⟩ := grow_not hG hcv
        exact hs3 c g2 (by omega)
      obtain ⟨rv2, σ4, happ, hG4, _, hother⟩ := Grow.app (σ0 := σ3.take n0) (by_ := 48) (y := .list .full [.agg [pvParts (reK left), w]]) (zs := [.agg [pvParts (reK left), w]]) (by rw [List.length_take, Nat.min_eq_left (by omega)]; exact hG3) (take_pre n0) rfl (fun z hz => by simp at hz; subst hz; exact hsz) (by simp; omega)
      rw [List.length_take, Nat.min_eq_left (by omega)] at hG4
      have hl4 : σ3.length ≤ σ4.length := app_len happ
      have hst : ∀ c, ¬ AtB rv' c → c < σ3.length → σ4[c]? = σ3[c]? := fun c hcv hcl => hother c (fun b g z o l hb hcb => hcv (by rw [hb, hcb]; exact ⟨_, _, _, _, rfl⟩)) hcl
      have hPn : ¬ AtB rv' P := fun hh => by have := (grow_not hG3 hh).1; omega
      have hc4 : Has σ4 P (rc s (pSide s q').1) := by
        unfold Has
        rw [hst P hPn (by omega)]
        exact pre_has hP1 hp3
      have hwne : ∀ c, AtB w c → ¬ AtB rv' c := by
        intro c hcw hcv
        obtain ⟨g, h1⟩ := grow_blk hG3 hcv
        obtain ⟨g', h2⟩ := grow_blk hGw hcw
        rw [h1] at h2
        cases h2
      have hGw4 : Grow σ1.length 1 σ4 w ((pSide s q').2.map pvParts) := grow_stay hGw fun c hcw => hst c (hwne c hcw) (grow_not hGw hcw).2
      have hwx : ∀ c, AtB w c → ¬ AtB rv2 c := by
        intro c hcw hcv
        obtain ⟨g, h1⟩ := grow_blk hG4 hcv
        obtain ⟨g', h2⟩ := grow_blk hGw4 hcw
        rw [h1] at h2
        cases h2
      have hloc2 : ∀ c, AtB rv2 c → AtB rv c ∨ σ.length ≤ c := by
        intro c hcv
        rcases app_at (zs := [.agg [pvParts (reK left), w]]) hG3 rfl happ hcv with h1 | h1
        · exact hloc c h1
        · exact .inr (by omega)
      have hsame4 : ∀ c < σ.length, c ≠ P → ¬ AtB rv2 c → σ4[c]? = σ[c]? := by
        intro c h1 h2 h3
        have h4 : ¬ AtB rv' c := fun hh => h3 (app_keep (zs := [.agg [pvParts (reK left), w]]) hG3 rfl happ hh)
        rw [hst c h4 (by omega), hs3 c (by omega) h2]
        exact hsame c h1 h2 fun hh => h4 (hkeep c hh)
      have hflat : ∀ y ∈ rs'.map pvRule, Flat y := fun y hy => by obtain ⟨p, _, rfl⟩ := List.mem_map.1 hy; exact flatRule _
      have hmap : rs'.map pvRule ++ [pvRule (reK left, reK (pSide s q').2)] = (rs' ++ [(reK left, reK (pSide s q').2)]).map pvRule := by simp
      -- what is no longer written is given up
      have kk : ∀ q3 : RR, ∃ σ5, Kill σ (fun c => σ.length ≤ c ∧ ¬ AtB rv2 c) (cd σ4 P (rc s q3)) σ5 ∧ Has σ5 P (rc s q3) ∧ σ.length ≤ σ5.length ∧ Grow n0 2 σ5 rv2 ((rs' ++ [(reK left, reK (pSide s q').2)]).map pvRule) ∧
          (∀ c < σ.length, c ≠ P → ¬ AtB rv c → σ5[c]? = σ[c]?) ∧ Free (fun c => σ.length ≤ c ∧ ¬ AtB rv2 c) (.agg [mv, rv2]) := by
        intro q3
        have hgw := grow_cd (cs := rc s q3) hGw4 hP1
        obtain ⟨σ5, k1, k2, k3, k4, k5⟩ := kill_grow (σ1 := cd σ4 P (rc s q3)) hP (by rw [cd_len]; omega) (cd_has (by omega) _) (rc_flat _ _) hn0 (grow_cd hG4 hn0) hflat (fun c h1 h2 h3 => by rw [cd_ne h2]; exact hsame4 c h1 h2 h3)
          (z' := pvRule (reK left, reK (pSide s q').2)) (.agg _ _ rfl fun i a b ha hb => by
            match i with
            | 0 => cases ha; cases hb; exact (flatParts _).frz _ _
            | 1 =>
              cases ha
              cases hb
              have := grow_frz_at hgw (D := fun c => σ.length ≤ c ∧ ¬ AtB rv2 c) (fun c hcw => ⟨by have := (grow_not hGw4 hcw).1; omega, hwx c hcw⟩) (fun y hy => by obtain ⟨p, _, rfl⟩ := List.mem_map.1 hy; exact flatParts _)
              rw [growV_sl] at this
              exact this
            | i + 2 => cases ha)
        refine ⟨σ5, k1, k2, by rw [k3, cd_len]; omega, by rw [← hmap]; exact k4, fun c h1 h2 h3 => k5 c h1 h2 fun hh => ?_, .agg _ fun i a ha => ?_⟩
        · rcases hloc2 c hh with g1 | g1
          · exact h3 g1
          · omega
        · match i with
          | 0 => cases ha; exact grow_free hmv fun c hcm hd => by have := (grow_not hmv hcm).2; omega
          | 1 => cases ha; exact grow_free hG4 fun c hcm hd => hd.2 hcm
          | i + 2 => cases ha
      have htt : (rc s (pSide s q').1)[2]? = some (.str (pSide s q').1.tt) := rfl
      simp only [hbd, vBuildSl_one hsz, happ, vPut_snd (grow_cell hG4), nil_ptr, hc4.ld, htt, zz, Nat.reduceEqDiff, if_true, if_false, decide_true, decide_false, eq_self]
      cases hsg : (pSide s q').1.tt == [59] with
      | false =>
        rw [hsg] at hF
        simp only [hput, resCons, vResults, zz, Nat.reduceEqDiff, if_true, if_false, decide_true, decide_false, eq_self]
        obtain ⟨σ5, k1, k2, k3, k4, k5, k6⟩ := kk (pSide s q').1
        rw [hc4.self] at k1
        rw [← hF] at hR
        exact weakW_kill _ k1 (.base _ k6) (hR rv2 σ5 k2 k3 k5 k4 hloc2)
      | true =>
        rw [hsg] at hF
        simp only [zz, Nat.reduceEqDiff, if_true, if_false, decide_true, decide_false, eq_self]
        refine (c78 (by omega) hc4 b1.a).callB ?_
        obtain ⟨n1, n2, n3⟩ := next_spec b1.a
        obtain ⟨σ5, k1, k2, k3, k4, k5, k6⟩ := kk ((pSide s q').1.next s)
        refine hweak _ _ _ σ5 ⟨_, k1, fun t => .base _ (lookP_free _ t fun e he => ?_)⟩ (hnext _ _ m (by omega) ⟨_, rv2, _, rfl, n1, ?_, by simp; omega, k2, k3, k5, k4, hloc2, fun c hcv => app_keep (zs := [.agg [pvParts (reK left), w]]) hG3 rfl happ (hkeep c hcv), hF⟩)
        · simp only [List.mem_cons, List.not_mem_nil, or_false] at he
          rcases he with rfl | rfl | rfl | rfl
          · exact .ptr _ _ _ _ fun hh => by omega
          · exact (flatParts _).free _
          · exact k6
          · refine (Flat.agg _ fun y hy => ?_).free _
            simp only [List.mem_cons, List.not_mem_nil, or_false] at hy
            rcases hy with rfl | rfl <;> exact .list _ _ (by simp)
        · have hqt : q'.tt ≠ [] := fun hh => by rw [b3 hh] at hsg; cases hsg
          rw [if_neg hqt] at hm
          split
          · omega
          · rename_i hne
            have := n3 hne
            have := n1.a
            omega
    have inner : ∀ (w : PV) (σ3 : St), cd σ1 P (rc s (pAlt s true q').1) <+: σ3 → Grow σ1.length 1 σ3 w ((if (pAlt s true q').2.2.isEmpty then [] else [(pAlt s true q').2]).map pvParts) →
        CutW σ (fun J22 =>
        Lfp σ (fun Φ25 x26 σ27 =>
        bindO False (vNil (x26 0)) fun v28 =>
        bindO False (vField 2 v28) fun v29 =>
        bindO False (vField 0 v29) fun v30 =>
        bindO False (vLoad false 1 v30 σ27) fun v31 =>
        bindO False (vBin none .eql v31 (.str [44])) fun v32 =>
        guardG False v32 true (fun J33 =>
        bindO False (vNil (x26 0)) fun v36 =>
        bindO False (vField 4 v36) fun v37 =>
        bindO False (vField 1 v37) fun v38 =>
        bindO False (vLoad false 1 v38 σ27) fun v39 =>
        bindO False (vBin none .eql v39 (.int .i64 0)) fun v40 =>
        J33 (lookE [(31, (.v (x26 0))), (32, (.v v36)), (33, (.v v37)), (34, (.v v38)), (35, (.v v39)), (36, (.v v40))]) σ27) σ27 (fun y34 σ35 =>
        bindO False (vPick v32 (y34 36).pv (.bool false)) fun v41 =>
        condW v41 (
        bindO False (vLen .sl (x26 8) σ35) fun v42 =>
        bindO False (vBin none .eql v42 (.int .i64 0)) fun v43 =>
        condW v43 (
        callB W 79 [(x26 0)] σ35 (fun v44 σ45 =>
        J22 (lookP [(0, (x26 0)), (2, (x26 2)), (7, (x26 7)), (4, (x26 4)), (6, (x26 6))]) σ45) (fun e46 σ47 => R (.pan e46) σ47)) (
        callB W 78 [(x26 0)] σ35 (fun v48 σ49 =>
        CutW σ (fun J50 =>
        bindO False (vNil (x26 0)) fun v53 =>
        bindO False (vField 2 v53) fun v54 =>
        bindO False (vField 0 v54) fun v55 =>
        bindO False (vLoad false 1 v55 σ49) fun v56 =>
        bindO False (vBin none .eql v56 (.str [69, 77, 80, 84, 89])) fun v57 =>
        condW v57 (
        callB W 79 [(x26 0)] σ49 (fun v58 σ59 =>
        J50 (lookP [(0, (x26 0)), (2, (x26 2)), (7, (x26 7)), (8, (x26 8)), (4, (x26 4)), (6, (x26 6))]) σ59) (fun e60 σ61 => R (.pan e60) σ61)) (
        J50 (lookP [(0, (x26 0)), (2, (x26 2)), (7, (x26 7)), (8, (x26 8)), (4, (x26 4)), (6, (x26 6))]) σ49)) (fun x51 σ52 =>
        callB W 81 [(x51 0), (.bool true)] σ52 (fun v62 σ63 =>
        bindO False (vBuildSl 1 (List.replicate 1 (.list .nil [])) [(0, v62)]) fun v64 =>
        bindS (vAppend 1 24 (x51 7) (.list .full v64) σ63) fun v65 σ66 =>
        Φ25 (lookP [(0, (x51 0)), (2, (x51 2)), (7, v65), (8, (x51 8)), (4, (x51 4)), (6, (x51 6))]) σ66) (fun e67 σ68 => R (.pan e67) σ68))) (fun e69 σ70 => R (.pan e69) σ70))) (
        J22 (lookP [(0, (x26 0)), (2, (x26 2)), (7, (x26 7)), (4, (x26 4)), (6, (x26 6))]) σ35))) (lookP [(0, .ptr P 0 0 0), (2, pvParts (reK left)), (7, w), (8, pvParts (pAlt s true q').2), (4, .agg [mv, rv']), (6, .agg [.list .nil [], .list .nil []])]) σ3) (fun x23 σ24 =>
        bindO False (vPart false 1 (x23 4) 1) fun v71 =>
        bindO False (vBuild [(.list .nil []), (.list .nil [])] [(0, 1, (x23 2)), (1, 1, (x23 7))]) fun v72 =>
        bindO False (vBuildSl 2 (List.replicate 1 (.agg [(.list .nil []), (.list .nil [])])) [(0, (.agg v72))]) fun v73 =>
        bindS (vAppend 2 48 v71 (.list .full v73) σ24) fun v74 σ75 =>
        bindO False (vPut 1 (x23 4) 1 v74) fun z76 =>
        bindO False (vNil (x23 0)) fun v77 =>
        bindO False (vField 2 v77) fun v78 =>
        bindO False (vField 0 v78) fun v79 =>
        bindO False (vLoad false 1 v79 σ75) fun v80 =>
        bindO False (vBin none .neq v80 (.str [59])) fun v81 =>
        condW v81 (
        bindO False (vPart true 2 z76 0) fun v82 =>
        bindO False (vPut 2 (x23 6) 0 v82) fun z83 =>
        bindO False (resCons (vPart true 2 z83 0) (some [])) fun vs => weakW σ (vResults vs) σ75 fun v σ => R (.ret v) σ) (
        callB W 78 [(x23 0)] σ75 (fun v84 σ85 =>
        Φ (lookP [(0, (x23 0)), (2, (x23 2)), (4, z76), (6, (x23 6))]) σ85) (fun e86 σ87 => R (.pan e86) σ87))) := by
      intro w σ3 hp3 hGw
      refine CutW_of ?_
      refine Lfp_down (fun k x σ' => ∃ q2 w2 right, x = lookP [(0, .ptr P 0 0 0), (2, pvParts (reK left)), (7, w2), (8, pvParts (pAlt s true q').2), (4, .agg [mv, rv']), (6, .agg [.list .nil [], .list .nil []])] ∧ Ok s q2 ∧ (q2.tt = [44] → s.length - q2.a < k) ∧ right.length + k ≤ s.length + 2 ∧
        cd σ1 P (rc s q2) <+: σ' ∧ Grow σ1.length 1 σ' w2 (right.map pvParts) ∧ pRight s k q2 (pAlt s true q').2.2 right = pSide s q') ?_ (s.length + 1)
        ⟨(pAlt s true q').1, w, _, rfl, a1, fun _ => by omega, by split <;> simp <;> omega, hp3, hGw, rfl⟩
      rintro Ψ k x σ4 ⟨q2, w2, right, rfl, hq2, hk, hrk, hp4, hG4, hF4⟩ hnext4 _
      have hc4 := pre_has hP1 hp4
      have htt : (rc s q2)[2]? = some (.str q2.tt) := rfl
      have he5 : (rc s q2)[5]? = some (.int .i64 q2.e.2) := rfl
      have done : ∀ σ5, (q2.tt == [44] && q2.e.2 == 0) = false → σ5 = σ4 → cd σ1 P (rc s (pSide s q').1) <+: σ5 ∧ Grow σ1.length 1 σ5 w2 ((pSide s q').2.map pvParts) := by
        rintro σ5 hb rfl
        have : (q2, right) = pSide s q' := by
          rw [← hF4]
          cases k with
          | zero => rfl
          | succ k => simp [pRight, hb]
        rw [← this]
        exact ⟨hp4, hG4⟩
      simp only [zz, Nat.reduceEqDiff, if_true, if_false, decide_true, decide_false, eq_self]
      simp only [nil_ptr, hc4.ld, htt, he5, zz, Nat.reduceEqDiff, if_true, if_false, decide_true, decide_false, eq_self]
      cases hsg : q2.tt == [44] with
      | false =>
        simp only [zz, Nat.reduceEqDiff, if_true, if_false, decide_true, decide_false, eq_self]
        obtain ⟨d1, d2⟩ := done σ4 (by rw [hsg]; rfl) rfl
        have := fin w2 σ4 d1 d2
        simp only [zz, Nat.reduceEqDiff, if_true, if_false, decide_true, decide_false, eq_self] at this ⊢
        exact this
      | true =>
        cases hee : q2.e.2 == 0 with
        | false =>
          simp only [zz, Nat.reduceEqDiff, if_true, if_false, decide_true, decide_false, eq_self]
          obtain ⟨d1, d2⟩ := done σ4 (by rw [hsg, hee]; rfl) rfl
          have := fin w2 σ4 d1 d2
          simp only [zz, Nat.reduceEqDiff, if_true, if_false, decide_true, decide_false, eq_self] at this ⊢
          exact this
        | true =>
          obtain ⟨k, rfl⟩ : ∃ j, k = j + 1 := ⟨k - 1, by have := hk (by simpa using hsg); omega⟩
          simp only [pRight, hsg, hee, Bool.and_self, if_true] at hF4
          have hvl : ∀ σ : St, vLen .sl (pvParts (pAlt s true q').2) σ = some (.int .i64 ((pAlt s true q').2.2.length : Nat)) := fun σ => by simp [pvParts, pvSl, vLen]
          simp only [hvl, zz, Nat.reduceEqDiff, if_true, if_false, decide_true, decide_false, eq_self]
          by_cases hle : (pAlt s true q').2.2 = []
          · have e0 : ((((pAlt s true q').2.2.length : Nat) : Int) == 0) = true := by rw [hle]; rfl
            have hie : (pAlt s true q').2.2.isEmpty = true := by rw [hle]; rfl
            rw [hie, if_pos rfl] at hF4
            simp only [e0, zz, Nat.reduceEqDiff, if_true, if_false, decide_true, decide_false, eq_self]
            refine (c79 hc4).callB ?_
            have := fin w2 (cd σ4 P (rc s (q2.wrong s))) (by rw [← hF4]; exact cd_pre _ hP1 hp4) (by rw [← hF4]; exact grow_cd hG4 hP1)
            simp only [zz, Nat.reduceEqDiff, if_true, if_false, decide_true, decide_false, eq_self] at this ⊢
            exact this
          · have hpos := List.length_pos_iff.2 hle
            have e0 : ((((pAlt s true q').2.2.length : Nat) : Int) == 0) = false := by
              rw [beq_eq_false_iff_ne]
              omega
            have hie : (pAlt s true q').2.2.isEmpty = false := by cases hz : (pAlt s true q').2.2 with
              | nil => exact absurd hz hle
              | cons a l => rfl
            rw [hie] at hF4
            simp only [Bool.false_eq_true, if_false] at hF4
            simp only [e0, zz, Nat.reduceEqDiff, if_true, if_false, decide_true, decide_false, eq_self]
            refine (c78 (by omega) hc4 hq2.a).callB ?_
            obtain ⟨n1, n2, n3⟩ := next_spec hq2.a
            refine CutW_of ?_
            have hp5 := cd_pre (rc s (q2.next s)) hP1 hp4
            have hc5 := pre_has hP1 hp5
            have hG5 : Grow σ1.length 1 (cd σ4 P (rc s (q2.next s))) w2 (right.map pvParts) := grow_cd hG4 hP1
            generalize cd σ4 P (rc s (q2.next s)) = σ5 at hp5 hc5 hG5
            have htt5 : (rc s (q2.next s))[2]? = some (.str (q2.next s).tt) := rfl
            -- one more side
            have one : ∀ (q3 : RR) (σ6 : St), Ok s q3 → q3.a = (q2.next s).a → q3.tt = (q2.next s).tt → cd σ1 P (rc s q3) <+: σ6 → Grow σ1.length 1 σ6 w2 (right.map pvParts) → pRight s k (pAlt s true q3).1 (pAlt s true q').2.2 (right ++ [(pAlt s true q3).2]) = pSide s q' →
                callB W 81 [.ptr P 0 0 0, (.bool true)] σ6 (fun v62 σ63 =>
                bindO False (vBuildSl 1 (List.replicate 1 (.list .nil [])) [(0, v62)]) fun v64 =>
                bindS (vAppend 1 24 w2 (.list .full v64) σ63) fun v65 σ66 =>
                Ψ (lookP [(0, .ptr P 0 0 0), (2, pvParts (reK left)), (7, v65), (8, pvParts (pAlt s true q').2), (4, .agg [mv, rv']), (6, .agg [.list .nil [], .list .nil []])]) σ66) (fun e67 σ68 => R (.pan e67) σ68) := by
              intro q3 σ6 hq3 hqa hqt hp6 hG6 hF6
              refine (c81 hs (pre_has hP1 hp6) hq3 true).callB ?_
              obtain ⟨g1, g2, g3, g4⟩ := pAlt_spec (d := true) hq3
              have hp7 := cd_pre (rc s (pAlt s true q3).1) hP1 hp6
              have hG7 : Grow σ1.length 1 (cd σ6 P (rc s (pAlt s true q3).1)) w2 (right.map pvParts) := grow_cd hG6 hP1
              obtain ⟨xs, w3, σ8, h1, h2, h3, h4⟩ := grow_one sizedParts (n0 := 0) (a := (pAlt s true q3).2) (.list .nil []) (by_ := 24) (σ0 := cd σ1 P (rc s (pAlt s true q3).1)) (by rw [cd_len]; exact hG7) hp7 (by omega)
              rw [cd_len] at h3
              simp only [h1, h2, zz, Nat.reduceEqDiff, if_true, if_false, decide_true, decide_false, eq_self]
              refine hnext4 _ _ k (by omega) ⟨_, w3, _, rfl, g1, fun hh => ?_, by simp; omega, h4, h3, hF6⟩
              have h5 := hk (by simpa using hsg)
              have h6 : (q2.next s).tt ≠ [] := fun h6 => by rw [g3 (by rw [hqt]; exact h6)] at hh; cases hh
              have h7 := n3 h6
              have h8 := g1.a
              omega
            simp only [nil_ptr, hc5.ld, htt5, zz, Nat.reduceEqDiff, if_true, if_false, decide_true, decide_false, eq_self]
            cases hem : (q2.next s).tt == [69, 77, 80, 84, 89] with
            | true =>
              have hem' : ((q2.next s).tt == EMPTY) = true := hem
              rw [hem'] at hF4
              simp only [if_true] at hF4
              simp only [zz, Nat.reduceEqDiff, if_true, if_false, decide_true, decide_false, eq_self]
              refine (c79 hc5).callB ?_
              exact one _ _ n1.wrong (wrong_a _ _) (wrong_tt _ _) (cd_pre _ hP1 hp5) (grow_cd hG5 hP1) hF4
            | false =>
              have hem' : ((q2.next s).tt == EMPTY) = false := hem
              rw [hem'] at hF4
              simp only [Bool.false_eq_true, if_false] at hF4
              simp only [zz, Nat.reduceEqDiff, if_true, if_false, decide_true, decide_false, eq_self]
              exact one _ _ n1 rfl rfl hp5 hG5 hF4
    have hvl : ∀ σ : St, vLen .sl (pvParts (pAlt s true q').2) σ = some (.int .i64 ((pAlt s true q').2.2.length : Nat)) := fun σ => by simp [pvParts, pvSl, vLen]
    have hgt : ∀ n : Nat, decide (((n : Nat) : Int) > 0) = decide (0 < n) := fun n => by
      rw [decide_eq_decide]
      omega
    have hp2 : cd σ1 P (rc s (pAlt s true q').1) <+: cd σ1 P (rc s (pAlt s true q').1) := List.prefix_refl _
    by_cases hle : (pAlt s true q').2.2 = []
    · have hie : (pAlt s true q').2.2.isEmpty = true := by rw [hle]; rfl
      have := inner (.list .nil []) _ hp2 (by rw [hie]; exact Grow.nil _ _ _)
      simp only [hvl, hgt, hle, List.length_nil, Nat.lt_irrefl, zz, Nat.reduceEqDiff, if_true, if_false, decide_true, decide_false, eq_self] at this ⊢
      exact this
    · have hpos := List.length_pos_iff.2 hle
      have hie : (pAlt s true q').2.2.isEmpty = false := by cases hz : (pAlt s true q').2.2 with
        | nil => exact absurd hz hle
        | cons a l => rfl
      obtain ⟨xs, w3, σ8, h1, h2, h3, h4⟩ := grow_one sizedParts (n0 := 0) (acc := []) (a := (pAlt s true q').2) (.list .nil []) (by_ := 24) (σ0 := cd σ1 P (rc s (pAlt s true q').1)) (Grow.nil _ _ _) hp2 (by simp)
      rw [cd_len] at h3
      have := inner w3 σ8 h4 (by rw [hie]; exact h3)
      simp only [hvl, hgt, decide_eq_true hpos, h1, h2, zz, Nat.reduceEqDiff, if_true, if_false, decide_true, decide_false, eq_self] at this ⊢
      exact this

end Go.Proofs.YtiniifbmeobmgaaGreatDoor
