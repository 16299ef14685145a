/- A metanotion renamed: what becomes of a grammar (no program in it). -/
import Derived.Test.YtiniifbmeobmgaaGreatDoorSpcF
set_option linter.unusedVariables false
set_option linter.unusedSimpArgs false
namespace Go.Proofs.YtiniifbmeobmgaaGreatDoor
open Go Go.Abs

abbrev D9 : Str := [49, 50, 51, 52, 53, 54, 55, 56, 57]
def trimD (s : Str) : Str := Go.Lib.trimRightS s D9
def rnP (old name : Str) (p : Part) : Part := if p.1 && (trimD p.2 == old) then (p.1, name ++ p.2.drop old.length) else p
def rnN (old name : Str) (s : Str) : Str := if s == old then name else s
def chL (old name : Str) (l : Sl Part) : Sl Part := (if l.1 = .nil then .nil else if l.2 = [] then .full else .part, l.2.map (rnP old name))
def rnM (old name : Str) (m : Meta19) : Meta19 := (rnN old name m.1, reK (m.2.2.map (chL old name)))
def rnR (old name : Str) (r : Rule19) : Rule19 := (chL old name r.1, reK (r.2.2.map (chL old name)))
def rnG (old name : Str) (g : Gram) : Gram := (reK (g.1.2.map (rnM old name)), reK (g.2.2.map (rnR old name)))

theorem trimD_keep {t : Str} {c : UInt8} (h : D9.contains c = false) : trimD (t ++ [c]) = t ++ [c] := by
  unfold trimD Go.Lib.trimRightS
  rw [List.reverse_append, List.reverse_singleton, List.singleton_append, List.dropWhile_cons, h]
  simp

theorem trimD_drop {t : Str} {c : UInt8} (h : D9.contains c = true) : trimD (t ++ [c]) = trimD t := by
  unfold trimD Go.Lib.trimRightS
  rw [List.reverse_append, List.reverse_singleton, List.singleton_append, List.dropWhile_cons, h]
  simp

theorem d9_iff (c : UInt8) : D9.contains c = (decide ((c.toNat : Int) ≥ 49) && decide ((c.toNat : Int) ≤ 57)) := by
  have key : ∀ n : Fin 256, D9.contains (UInt8.ofNat n.val) = (decide (((UInt8.ofNat n.val).toNat : Int) ≥ 49) && decide (((UInt8.ofNat n.val).toNat : Int) ≤ 57)) := by decide +kernel
  have := key ⟨c.toNat, c.toNat_lt⟩
  simpa using this

theorem end_of {s : Str} (hne : s ≠ []) : ∃ c, s.getLast? = some c ∧ s = s.dropLast ++ [c] := by
  refine ⟨s.getLast hne, List.getLast?_eq_some_getLast hne, (List.dropLast_concat_getLast hne).symm⟩

theorem rn_within {a b : Int} {s : Str} (h : within a b s = true) : s.length ≤ 40 ∧ s ≠ [] := by
  simp only [within, Bool.and_eq_true, decide_eq_true_eq] at h
  exact ⟨h.2.2, fun e => by subst e; simp at h⟩

theorem rn_meta {s : Str} (h : isMeta s = true) : s.length ≤ 40 ∧ s ≠ [] ∧ digitEnd s = false ∧ trimD s = s := by
  have hw : within 65 90 s = true := by
    simp only [isMeta, Bool.and_eq_true] at h
    exact h.2
  obtain ⟨h1, h2⟩ := rn_within hw
  obtain ⟨c, hc, hs⟩ := end_of h2
  have hcu : (65 : Int) ≤ (c.toNat : Int) ∧ (c.toNat : Int) ≤ 90 := by
    simp only [within, Bool.and_eq_true, inR, List.all_eq_true] at hw
    have := hw.1 c (List.mem_of_getLast? hc)
    simpa using this
  have hd : (decide ((c.toNat : Int) ≥ 49) && decide ((c.toNat : Int) ≤ 57)) = false := by
    simp
    omega
  refine ⟨h1, h2, ?_, ?_⟩
  · simp only [digitEnd, hc, hd]
  · rw [hs]
    exact trimD_keep (by rw [d9_iff]; exact hd)

/-- A right parameter: a metanotion and at most one digit. -/
theorem rn_param {s : Str} (h : isParam s = true) : isMeta (metaOf s) = true ∧ trimD s = metaOf s ∧ ∃ suf : Str, s = metaOf s ++ suf ∧ (suf = [] ∨ ∃ c, suf = [c] ∧ D9.contains c = true) := by
  refine ⟨h, ?_⟩
  unfold isParam at h
  cases hd : digitEnd s with
  | false =>
    have hm : metaOf s = s := by simp [metaOf, hd]
    rw [hm] at h ⊢
    exact ⟨(rn_meta h).2.2.2, [], by simp, .inl rfl⟩
  | true =>
    have hm : metaOf s = s.dropLast := by simp [metaOf, hd]
    rw [hm] at h ⊢
    have hne : s ≠ [] := fun e => by subst e; cases hd
    obtain ⟨c, hc, hs⟩ := end_of hne
    have hcd : D9.contains c = true := by
      rw [d9_iff]
      simpa only [digitEnd, hc] using hd
    refine ⟨?_, [c], hs, .inr ⟨c, rfl, hcd⟩⟩
    have : trimD s = trimD (s.dropLast ++ [c]) := by rw [← hs]
    rw [this, trimD_drop hcd, (rn_meta h).2.2.2]

theorem metaOf_suf {n suf : Str} (hn : isMeta n = true) (hs : suf = [] ∨ ∃ c, suf = [c] ∧ D9.contains c = true) : metaOf (n ++ suf) = n := by
  rcases hs with rfl | ⟨c, rfl, hc⟩
  · rw [List.append_nil]
    simp [metaOf, (rn_meta hn).2.2.1]
  · have hd : digitEnd (n ++ [c]) = true := by
      rw [d9_iff] at hc
      simp only [digitEnd, List.getLast?_append, List.getLast?_singleton, Option.some_or]
      exact hc
    simp [metaOf, hd]

theorem good_param {d : Bool} {p : Part} (h : badPart d p = false) (hp : p.1 = true) : isParam p.2 = true := by
  unfold badPart at h
  simp [hp] at h
  cases hm : isMeta p.2 with
  | true => simp [isParam, metaOf, (rn_meta hm).2.2.1, hm]
  | false => exact (h hm).2

section
variable {old name : Str} (hn : isMeta name = true)

include hn in
/-- A renamed part. -/
theorem rnP_param {p : Part} (hp : p.1 = true) (h : isParam p.2 = true) : (rnP old name p).1 = true ∧ metaOf (rnP old name p).2 = rnN old name (metaOf p.2) ∧ (digitEnd p.2 = false → digitEnd (rnP old name p).2 = false) := by
  obtain ⟨h1, h2, suf, h3, h4⟩ := rn_param h
  unfold rnP rnN
  rw [hp, h2]
  by_cases ho : metaOf p.2 = old
  · have hb : (metaOf p.2 == old) = true := by simp [ho]
    have hd : p.2.drop old.length = suf := by
      rw [h3, ho]
      simp
    simp only [hb, Bool.and_self, if_true, hd]
    refine ⟨trivial, metaOf_suf hn h4, fun he => ?_⟩
    rcases h4 with rfl | ⟨c, rfl, hc⟩
    · rw [List.append_nil]
      exact (rn_meta hn).2.2.1
    · have : metaOf p.2 = p.2 := by simp [metaOf, he]
      rw [this] at h3
      simp at h3
  · have hb : (metaOf p.2 == old) = false := by simpa using ho
    simp only [hb, Bool.and_false, Bool.false_eq_true, if_false]
    exact ⟨hp, trivial, fun h => h⟩

theorem rnP_low {p : Part} (hp : p.1 = false) : rnP old name p = p := by
  unfold rnP
  rw [hp]
  rfl

theorem isMeta_of {s : Str} (h : isParam s = true) (hd : digitEnd s = false) : isMeta s = true := by
  simpa [isParam, metaOf, hd] using h

include hn in
theorem rnP_good {d : Bool} {p : Part} (h : badPart d p = false) : badPart d (rnP old name p) = false := by
  cases hp : p.1 with
  | false => rw [rnP_low hp]; exact h
  | true =>
    have hpar := good_param h hp
    obtain ⟨q1, q2, q3⟩ := rnP_param (old := old) hn hp hpar
    have hpar' : isParam (rnP old name p).2 = true := by
      unfold isParam
      rw [q2]
      unfold rnN
      split
      · exact hn
      · exact hpar
    unfold badPart at h ⊢
    rw [q1]
    simp only [hp, Bool.not_true, Bool.false_and, Bool.false_or, Bool.true_and, Bool.and_eq_false_iff] at h ⊢
    rcases h with h | h
    · left
      have hm : isMeta p.2 = true := by simpa using h
      have := isMeta_of hpar' (q3 (rn_meta hm).2.2.1)
      simp [this]
    · right
      simp only [Bool.or_eq_false_iff, Bool.not_eq_false'] at h ⊢
      exact ⟨h.1, hpar'⟩

include hn in
theorem rnP_len {d : Bool} {p : Part} (h : badPart d p = false) : (rnP old name p).2.length ≤ 1048576 := by
  have hg := rnP_good (old := old) hn h
  generalize rnP old name p = q at hg
  cases hq : q.1 with
  | false =>
    unfold badPart at hg
    simp [hq] at hg
    have := (rn_within (s := q.2) (a := 97) (b := 122) hg).1
    omega
  | true =>
    obtain ⟨h1, _, suf, h3, h4⟩ := rn_param (good_param hg hq)
    have := (rn_meta h1).1
    rw [h3, List.length_append]
    rcases h4 with rfl | ⟨c, rfl, _⟩
    · simp; omega
    · simp; omega

theorem rnN_inj {x y : Str} (hx : x ≠ name) (hy : y ≠ name) (h : rnN old name x = rnN old name y) : x = y := by
  unfold rnN at h
  split at h <;> split at h
  · rename_i h1 h2
    simp at h1 h2
    rw [h1, h2]
  · exact absurd h.symm hy
  · exact absurd h hx
  · exact h

theorem rn_contains {l : List Str} {x : Str} (hl : ∀ y ∈ l, y ≠ name) (hx : x ≠ name) : (l.map (rnN old name)).contains (rnN old name x) = l.contains x := by
  rw [Bool.eq_iff_iff]
  simp only [List.contains_iff_mem, List.mem_map]
  constructor
  · rintro ⟨y, hy, he⟩
    exact rnN_inj (hl y hy) hx he ▸ hy
  · intro h
    exact ⟨x, h, rfl⟩

theorem rn_ix : ∀ {l : List Str} {x : Str}, (∀ y ∈ l, y ≠ name) → x ≠ name → ixN (l.map (rnN old name)) (rnN old name x) = ixN l x
  | [], _, _, _ => rfl
  | a :: l, x, hl, hx => by
    simp only [List.map_cons, ixN]
    have ih := rn_ix (l := l) (x := x) (fun y hy => hl y (by simp [hy])) hx
    by_cases h : x = a
    · subst h
      simp
    · have : ¬ rnN old name x = rnN old name a := fun e => h (rnN_inj hx (hl a (by simp)) e)
      rw [if_neg h, if_neg this, ih]

include hn in
theorem rn_badL {d : Bool} {l : Sl Part} (h : badL d l = false) : badL d (chL old name l) = false := by
  unfold badL chL at *
  simp only
  rw [List.any_map, List.any_eq_false] at *
  intro p hp
  have := rnP_good (old := old) hn (Bool.eq_false_iff.2 (h p hp))
  simpa using this

include hn in
theorem rn_metasErr : ∀ (ms : List Meta19) (seen : List Str), (∀ m ∈ ms, m.1 ≠ name) → (∀ y ∈ seen, y ≠ name) → metasErr ms seen = 0 → metasErr (ms.map (rnM old name)) (seen.map (rnN old name)) = 0
  | [], _, _, _, _ => rfl
  | m :: ms, seen, hm, hs, h => by
    simp only [metasErr] at h
    simp only [List.map_cons, metasErr]
    split at h
    · omega
    · rename_i h1
      split at h
      · omega
      · rename_i h2
        split at h
        · omega
        · rename_i h3
          split at h
          · omega
          · rename_i h4
            have e1 : isMeta (rnM old name m).1 = true := by
              show isMeta (rnN old name m.1) = true
              unfold rnN
              split
              · exact hn
              · simpa using h1
            have e2 : (seen.map (rnN old name)).contains (rnM old name m).1 = false := by
              show (seen.map (rnN old name)).contains (rnN old name m.1) = false
              rw [rn_contains hs (hm m (by simp))]
              exact Bool.eq_false_iff.2 h2
            have e3 : ¬ (rnM old name m).2.2.length = 0 := by
              show ¬ (m.2.2.map (chL old name)).length = 0
              simpa using h3
            have e4 : (rnM old name m).2.2.any (badL false) = false := by
              show (m.2.2.map (chL old name)).any (badL false) = false
              rw [List.any_map, List.any_eq_false]
              intro l hl
              have := rn_badL (old := old) hn (Bool.eq_false_iff.2 (List.any_eq_false.1 (Bool.eq_false_iff.2 h4) l hl))
              simpa using this
            have ih := rn_metasErr ms (seen ++ [m.1]) (fun x hx => hm x (by simp [hx])) (fun y hy => by
              rcases List.mem_append.1 hy with hy | hy
              · exact hs y hy
              · simp at hy; subst hy; exact hm m (by simp)) h
            simp only [e1, e2, e3, e4, Bool.not_true, Bool.false_eq_true, if_false]
            show metasErr (ms.map (rnM old name)) (seen.map (rnN old name) ++ [rnN old name m.1]) = 0
            simpa [List.map_append] using ih

include hn in
theorem rn_listsErr : ∀ (ls : List (Sl Part)), listsErr ls = 0 → listsErr (ls.map (chL old name)) = 0
  | [], _ => rfl
  | l :: ls, h => by
    simp only [listsErr] at h
    simp only [List.map_cons, listsErr]
    split at h
    · omega
    · rename_i h1
      split at h
      · omega
      · rename_i h2
        have e1 : ¬ (chL old name l).2.length = 0 := by simpa [chL] using h1
        have e2 := rn_badL (old := old) hn (Bool.eq_false_iff.2 h2)
        simp only [e1, e2, if_false, Bool.false_eq_true]
        exact rn_listsErr ls h

theorem rn_all (r : Rule19) : ruleAll (rnR old name r) = (ruleAll r).map (chL old name) := rfl

include hn in
theorem rn_rulesErr : ∀ (rs : List Rule19), rulesErr rs = 0 → rulesErr (rs.map (rnR old name)) = 0
  | [], _ => rfl
  | r :: rs, h => by
    simp only [rulesErr] at h
    simp only [List.map_cons, rulesErr]
    split at h
    · rename_i h1
      have h2 : listsErr (ruleAll (rnR old name r)) = 0 := rn_listsErr hn _ h1
      rw [if_pos h2]
      exact rn_rulesErr rs h
    · omega

theorem rn_names (g : Gram) : names (rnG old name g) = (names g).map (rnN old name) := by
  show (g.1.2.map (rnM old name)).map (·.1) = (g.1.2.map (·.1)).map (rnN old name)
  rw [List.map_map, List.map_map]
  rfl

theorem rn_longL (l : Sl Part) : longL (chL old name l) = longL l := by simp [longL, chL]

theorem rn_longM (m : Meta19) : longM (rnM old name m) = longM m := by
  have h1 : (rnM old name m).2.2.any longL = m.2.2.any longL := by
    show (m.2.2.map (chL old name)).any longL = _
    rw [List.any_map]
    congr 1
    funext l
    exact rn_longL l
  have h2 : (rnM old name m).2.2.length = m.2.2.length := by simp [rnM, reK]
  simp only [longM, h1, h2]

theorem rn_longR (r : Rule19) : longR (rnR old name r) = longR r := by
  have h1 : (rnR old name r).2.2.any longL = r.2.2.any longL := by
    show (r.2.2.map (chL old name)).any longL = _
    rw [List.any_map]
    congr 1
    funext l
    exact rn_longL l
  have h2 : (rnR old name r).2.2.length = r.2.2.length := by simp [rnR, reK]
  have h3 : (rnR old name r).1.2.length = r.1.2.length := by simp [rnR, chL]
  simp only [longR, h1, h2, h3]

theorem rn_tooLong (g : Gram) : tooLong (rnG old name g) = tooLong g := by
  have h1 : (rnG old name g).1.2.any longM = g.1.2.any longM := by
    show (g.1.2.map (rnM old name)).any longM = _
    rw [List.any_map]
    congr 1
    funext m
    exact rn_longM m
  have h2 : (rnG old name g).2.2.any longR = g.2.2.any longR := by
    show (g.2.2.map (rnR old name)).any longR = _
    rw [List.any_map]
    congr 1
    funext m
    exact rn_longR m
  have h3 : (rnG old name g).1.2.length = g.1.2.length := by simp [rnG, reK]
  have h4 : (rnG old name g).2.2.length = g.2.2.length := by simp [rnG, reK]
  simp only [tooLong, h1, h2, h3, h4]

include hn in
theorem rn_unk {ns : List Str} (hns : ∀ y ∈ ns, y ≠ name) {d : Bool} {l : Sl Part} (hg : badL d l = false) (h : unkL ns l = false) : unkL (ns.map (rnN old name)) (chL old name l) = false := by
  unfold unkL badL chL at *
  simp only
  rw [List.any_map, List.any_eq_false]
  rw [List.any_eq_false] at h hg
  intro p hp
  have h1 := Bool.eq_false_iff.2 (h p hp)
  have h2 := Bool.eq_false_iff.2 (hg p hp)
  simp only [Function.comp]
  cases hpp : p.1 with
  | false => rw [rnP_low hpp]; simp [unkPart, hpp]
  | true =>
    obtain ⟨q1, q2, _⟩ := rnP_param (old := old) hn hpp (good_param h2 hpp)
    simp only [unkPart, hpp, Bool.true_and, Bool.not_eq_false'] at h1
    have hne : metaOf p.2 ≠ name := hns _ (by simpa using h1)
    simp only [unkPart, q1, q2, rn_contains hns hne, h1]
    simp

end

structure RightC (g : Gram) : Prop where
  metas : metasErr g.1.2 [] = 0
  rules : rulesErr g.2.2 = 0
  long : tooLong g = false
  km : (g.1.2.any fun m => m.2.2.any (unkL (names g))) = false
  kr : (g.2.2.any fun r => (ruleAll r).any (unkL (names g))) = false

theorem right_iff {g : Gram} : checkG g = 0 ↔ RightC g := by
  unfold checkG
  constructor
  · intro h
    split at h
    · omega
    · rename_i h0
      split at h
      · rename_i h1
        split at h
        · rename_i h2
          split at h
          · omega
          · rename_i h3
            split at h
            · omega
            · rename_i h4
              exact ⟨h1, h2, Bool.eq_false_iff.2 h0, Bool.eq_false_iff.2 h3, Bool.eq_false_iff.2 h4⟩
        · rename_i h2; exact absurd h h2
      · rename_i h1; exact absurd h h1
  · rintro ⟨h1, h2, h3, h4, h5⟩
    simp only [h1, h2, h3, h4, h5, Bool.false_eq_true, if_false, if_true]

theorem good_lists_of : ∀ {ls : List (Sl Part)}, listsErr ls = 0 → ∀ l ∈ ls, badL true l = false
  | a :: ls, h, l, hl => by
    simp only [listsErr] at h
    split at h
    · omega
    · split at h
      · omega
      · rename_i hb
        rcases List.mem_cons.1 hl with rfl | hl
        · exact Bool.eq_false_iff.2 hb
        · exact good_lists_of h l hl

theorem good_rules_of : ∀ {rs : List Rule19}, rulesErr rs = 0 → ∀ r ∈ rs, ∀ l ∈ ruleAll r, badL true l = false
  | a :: rs, h, r, hr, l, hl => by
    simp only [rulesErr] at h
    split at h
    · rename_i h0
      rcases List.mem_cons.1 hr with rfl | hr
      · exact good_lists_of h0 l hl
      · exact good_rules_of h r hr l hl
    · omega

theorem good_metas_of : ∀ {ms : List Meta19} {seen : List Str}, metasErr ms seen = 0 → ∀ m ∈ ms, isMeta m.1 = true ∧ ∀ l ∈ m.2.2, badL false l = false
  | a :: ms, seen, h, m, hm => by
    simp only [metasErr] at h
    split at h
    · omega
    · rename_i h1
      split at h
      · omega
      · split at h
        · omega
        · split at h
          · omega
          · rename_i h4
            rcases List.mem_cons.1 hm with rfl | hm
            · exact ⟨by simpa using h1, fun l hl => Bool.eq_false_iff.2 (List.any_eq_false.1 (Bool.eq_false_iff.2 h4) l hl)⟩
            · exact good_metas_of h m hm

theorem rn_check {g : Gram} {old name : Str} (hn : isMeta name = true) (hnn : ∀ y ∈ names g, y ≠ name) (h : checkG g = 0) : checkG (rnG old name g) = 0 := by
  have hr := right_iff.1 h
  refine right_iff.2 ⟨?_, ?_, ?_, ?_, ?_⟩
  · exact rn_metasErr hn g.1.2 [] (fun m hm => hnn _ (List.mem_map.2 ⟨m, hm, rfl⟩)) (by simp) hr.metas
  · exact rn_rulesErr hn g.2.2 hr.rules
  · rw [rn_tooLong]; exact hr.long
  · rw [rn_names]
    show ((g.1.2.map (rnM old name)).any _) = false
    rw [List.any_map, List.any_eq_false]
    intro m hm
    have hk := Bool.eq_false_iff.2 (List.any_eq_false.1 hr.km m hm)
    show ¬ ((m.2.2.map (chL old name)).any (unkL ((names g).map (rnN old name)))) = true
    rw [List.any_map]
    refine Bool.eq_false_iff.1 (List.any_eq_false.2 fun l hl => ?_)
    have := rn_unk (old := old) hn hnn ((good_metas_of hr.metas m hm).2 l hl) (Bool.eq_false_iff.2 (List.any_eq_false.1 hk l hl))
    simpa using this
  · rw [rn_names]
    show ((g.2.2.map (rnR old name)).any _) = false
    rw [List.any_map, List.any_eq_false]
    intro r hr2
    have hk := Bool.eq_false_iff.2 (List.any_eq_false.1 hr.kr r hr2)
    show ¬ ((ruleAll (rnR old name r)).any (unkL ((names g).map (rnN old name)))) = true
    rw [rn_all, List.any_map]
    refine Bool.eq_false_iff.1 (List.any_eq_false.2 fun l hl => ?_)
    have := rn_unk (old := old) hn hnn (good_rules_of hr.rules r hr2 l hl) (Bool.eq_false_iff.2 (List.any_eq_false.1 hk l hl))
    simpa using this

/-! ### What is produced stays -/

theorem endsB_map {fp fp' : Part → Nat → Nat → Bool} {q : Part → Part} {i j : Nat} : ∀ {l : List Part} {E : Nat → Bool}, (∀ p ∈ l, fp' (q p) = fp p) → endsB fp' i j (l.map q) E = endsB fp i j l E
  | [], E, _ => rfl
  | p :: l, E, h => by
    simp only [List.map_cons, endsB]
    rw [h p (by simp)]
    exact endsB_map (l := l) fun p hp => h p (by simp [hp])

theorem rn_alts (old name : Str) (g : Gram) (m : Nat) : altsG (rnG old name g) m = (altsG g m).map (·.map (rnP old name)) := by
  unfold altsG
  show (match (g.1.2.map (rnM old name))[m]? with
    | some x => x.2.2.map fun l : Sl Part => l.2
    | none => []) = _
  rw [List.getElem?_map]
  cases g.1.2[m]? with
  | none => rfl
  | some x =>
    show (x.2.2.map (chL old name)).map (·.2) = (x.2.2.map (·.2)).map (·.map (rnP old name))
    rw [List.map_map, List.map_map]
    rfl

theorem rn_part {g : Gram} {old name : Str} (hn : isMeta name = true) (hnn : ∀ y ∈ names g, y ≠ name) (h : checkG g = 0) (ws : List Str) (T : Tab) {m : Nat} {l : List Part} (hl : l ∈ altsG g m) :
    ∀ p ∈ l, partB (ixN (names (rnG old name g))) ws T (rnP old name p) = partB (ixN (names g)) ws T p := by
  intro p hp
  have hr := right_iff.1 h
  unfold altsG at hl
  cases hm : g.1.2[m]? with
  | none => rw [hm] at hl; simp at hl
  | some x =>
    rw [hm] at hl
    obtain ⟨sl, hsl, rfl⟩ := List.mem_map.1 hl
    have hxm := List.mem_of_getElem? hm
    have hgood : badPart false p = false := Bool.eq_false_iff.2 (List.any_eq_false.1 ((good_metas_of hr.metas x hxm).2 sl hsl) p hp)
    have hk1 := Bool.eq_false_iff.2 (List.any_eq_false.1 hr.km x hxm)
    have hk2 := Bool.eq_false_iff.2 (List.any_eq_false.1 hk1 sl hsl)
    have hk3 : unkPart (names g) p = false := Bool.eq_false_iff.2 (List.any_eq_false.1 hk2 p hp)
    funext a b
    unfold partB
    cases hpp : p.1 with
    | false => rw [rnP_low hpp]; simp [hpp]
    | true =>
      obtain ⟨q1, q2, _⟩ := rnP_param (old := old) hn hpp (good_param hgood hpp)
      simp only [unkPart, hpp, Bool.true_and, Bool.not_eq_false'] at hk3
      have hne : metaOf p.2 ≠ name := hnn _ (by simpa using hk3)
      rw [q1, q2, rn_names, rn_ix hnn hne]
      rfl

theorem rn_der {g : Gram} {old name : Str} (hn : isMeta name = true) (hnn : ∀ y ∈ names g, y ≠ name) (h : checkG g = 0) (ws : List Str) (i j k : Nat) : derG (rnG old name g) ws i j k = derG g ws i j k := by
  have hlen : (rnG old name g).1.2.length = g.1.2.length := by simp [rnG, reK]
  refine bool_ext ?_
  unfold derG
  rw [derB_iff, derB_iff, hlen]
  constructor
  · intro hd
    induction hd with
    | mk T l m i j h1 h2 h3 h4 ih =>
      rw [rn_alts] at h2
      obtain ⟨l0, hl0, rfl⟩ := List.mem_map.1 h2
      refine .mk T l0 m i j h1 hl0 ih ?_
      rw [← h4]
      unfold spanB
      exact (congrFun (endsB_map (rn_part hn hnn h ws T hl0)) j).symm
  · intro hd
    induction hd with
    | mk T l m i j h1 h2 h3 h4 ih =>
      refine .mk T (l.map (rnP old name)) m i j h1 (by rw [rn_alts]; exact List.mem_map.2 ⟨l, h2, rfl⟩) ih ?_
      rw [← h4]
      unfold spanB
      exact congrFun (endsB_map (rn_part hn hnn h ws T h2)) j

theorem rn_prod {g : Gram} {old name : Str} (hn : isMeta name = true) (hnn : ∀ y ∈ names g, y ≠ name) (ho : old ∈ names g) (h : checkG g = 0) (s : Str) : prodG (rnG old name g) name s = prodG g old s := by
  have hne := hnn old ho
  have e1 : rnN old name old = name := by simp [rnN]
  have h1 : (names (rnG old name g)).contains name = (names g).contains old := by
    have := rn_contains (old := old) (x := old) hnn hne
    rw [e1] at this
    rw [rn_names]
    exact this
  have h2 : ixN (names (rnG old name g)) name = ixN (names g) old := by
    have := rn_ix (old := old) (x := old) hnn hne
    rw [e1] at this
    rw [rn_names]
    exact this
  have h3 : ∀ ws i j k, derG (rnG old name g) ws i j k = derG g ws i j k := fun ws i j k => rn_der hn hnn h ws i j k
  unfold prodG
  rw [rn_check hn hnn h, h, h1, h2, h3]

theorem rn_ok {g : Gram} {old name : Str} (hn : isMeta name = true) (h : checkG g = 0) (hg : OkGram g) : OkGram (rnG old name g) := by
  have hr := right_iff.1 h
  have hL : ∀ {d : Bool} {l : Sl Part}, badL d l = false → OkParts l → OkParts (chL old name l) := fun {d l} hb hl => ⟨by simpa [chL] using hl.len, fun p hp => by
    obtain ⟨q, hq, rfl⟩ := List.mem_map.1 hp
    exact rnP_len (old := old) hn (Bool.eq_false_iff.2 (List.any_eq_false.1 hb q hq))⟩
  refine ⟨by simpa [rnG, reK] using hg.ml, by simpa [rnG, reK] using hg.rl, fun m hm => ?_, fun r hr' => ?_⟩
  · obtain ⟨x, hx, rfl⟩ := List.mem_map.1 (show m ∈ g.1.2.map (rnM old name) from hm)
    have hgx := good_metas_of hr.metas x hx
    refine ⟨?_, by simpa [rnM, reK] using (hg.metas x hx).alts.len, fun l hl => ?_⟩
    · show (rnN old name x.1).length ≤ _
      unfold rnN
      split
      · have := (rn_meta hn).1; omega
      · exact (hg.metas x hx).txt
    · obtain ⟨l0, hl0, rfl⟩ := List.mem_map.1 (show l ∈ x.2.2.map (chL old name) from hl)
      exact hL (hgx.2 l0 hl0) ((hg.metas x hx).alts.mem l0 hl0)
  · obtain ⟨x, hx, rfl⟩ := List.mem_map.1 (show r ∈ g.2.2.map (rnR old name) from hr')
    have hgx := good_rules_of hr.rules x hx
    refine ⟨hL (hgx x.1 (by simp [ruleAll])) (hg.rules x hx).left, by simpa [rnR, reK] using (hg.rules x hx).right.len, fun l hl => ?_⟩
    obtain ⟨l0, hl0, rfl⟩ := List.mem_map.1 (show l ∈ x.2.2.map (chL old name) from hl)
    exact hL (hgx l0 (by simp [ruleAll, hl0])) ((hg.rules x hx).right.mem l0 hl0)

end Go.Proofs.YtiniifbmeobmgaaGreatDoor
