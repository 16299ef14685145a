/- The reference reads what the package reads: rules and grammars (no program in it). -/
import Derived.Test.YtiniifbmeobmgaaGreatDoorRdK
set_option linter.unusedVariables false
set_option linter.unusedSimpArgs false
namespace Go.Proofs.YtiniifbmeobmgaaGreatDoor
open Go Go.Abs

theorem good_tt (s : Str) {ts : List Tok} (g : Str) (hg : isPs g = false) (hne : g ≠ []) : ((good s ts).tt == g) = (sgn ts == g) := by
  cases ts with
  | nil => rfl
  | cons t ts =>
    show (t.2 == g) = ((if isP t then [] else t.2) == g)
    cases hp : isP t with
    | false => rfl
    | true =>
      simp only [if_true]
      have h1 : ([] == g) = false := by
        cases g with
        | nil => exact absurd rfl hne
        | cons a l => rfl
      rw [h1, beq_eq_false_iff_ne]
      rintro rfl
      have hp : isPs t.2 = true := hp
      rw [hg] at hp
      cases hp

theorem good_E (s : Str) (ts : List Tok) : ((good s ts).tt == EMPTY) = (isPart ts && txt ts == EMPTY) := by
  cases ts with
  | nil => rfl
  | cons t ts =>
    show (t.2 == EMPTY) = (isP t && t.2 == EMPTY)
    cases he : t.2 == EMPTY with
    | false => simp
    | true =>
      have : t.2 = EMPTY := by simpa using he
      have hp : isP t = true := by
        show isPs t.2 = true
        rw [this]
        rfl
      rw [hp]
      rfl

theorem Pd.notE {e : Flt} {q : RR} (h : Pd e q) : (q.tt == EMPTY) = false := by
  have := h.bad
  simp only [badWord, Bool.and_eq_true, Bool.not_eq_true'] at this
  exact this.1

theorem Pd.e2 {e : Flt} {q : RR} (h : Pd e q) : (q.e.2 == 0) = true := by rw [h.ee]; rfl

def tgtR (s : Str) (f : Option Flt) (k : Nat) (r : List Tok) : Except Flt (List (List Part) × List Tok) :=
  if sgn r == [44] then (goF f r.tail).bind fun _ => rightF s f k r.tail else .ok ([], r)

theorem rightF_succ (s : Str) (f : Option Flt) (k : Nat) (ts : List Tok) : rightF s f (k + 1) ts = (someF s f true ts).bind fun r => (tgtR s f k r.2).bind fun q => .ok (r.1 :: q.1, q.2) := by
  simp only [rightF]
  congr 1
  funext r
  unfold tgtR
  split
  · cases goF f r.2.tail <;> rfl
  · rfl

theorem pRight_bd {s : Str} {e : Flt} {q : RR} (h : Bd e q) (n : Nat) (l : List Part) (acc : List (Sl Part)) : Bd e (pRight s n q l acc).1 := by
  cases n with
  | zero => exact h
  | succ n =>
    simp only [pRight, h.q, Bool.and_false, Bool.false_eq_true, if_false]
    exact h

theorem some_of_alt {s : Str} {f : Option Flt} {d : Bool} {us : List Tok} (hf : (isPart us && txt us == EMPTY) = false) : altF s f d us = someF s f d us := by
  cases us with
  | nil => rfl
  | cons t ts =>
    have : (isP t && t.2 == EMPTY) = false := hf
    simp only [altF, this, Bool.false_eq_true, if_false]

theorem some_E {s : Str} {f : Option Flt} {d : Bool} {us : List Tok} (hf : (isPart us && txt us == EMPTY) = true) : someF s f d us = .error (wrongF s us) := by
  cases us with
  | nil => cases hf
  | cons t ts =>
    have hf : (isP t && t.2 == EMPTY) = true := hf
    rw [Bool.and_eq_true] at hf
    have hp : partsF f d (t :: ts) = .error (t.1, 9) := by simp only [partsF, hf.1, hf.2, if_true]
    unfold someF
    rw [hp]
    rfl

theorem pRight_good {s : Str} {f : Option Flt} {l : List Part} (hl : l ≠ []) : ∀ (n k : Nat) (r : List Tok) (acc : List (Sl Part)), r.length < n → r.length ≤ k → r.length + fl f ≤ s.length → Val s f r →
    Out s (tgtR s f k r) (fun ls => acc ++ ls.map reK) (pRight s n (good s r) l acc)
  | 0, k, r, acc, hn, hk, hs, hv => by omega
  | n + 1, k, r, acc, hn, hk, hs, hv => by
    have hie : l.isEmpty = false := by cases l with
      | nil => exact absurd rfl hl
      | cons a l => rfl
    have ht := good_tt s (ts := r) [44] rfl (by simp)
    cases hsg : sgn r == [44] with
    | false =>
      rw [hsg] at ht
      simp only [tgtR, hsg, pRight, ht, Bool.false_and, Bool.false_eq_true, if_false, Out, List.map_nil, List.append_nil]
    | true =>
      rw [hsg] at ht
      obtain ⟨t, tl, rfl⟩ := sgn_next hsg
      simp only [List.length_cons] at hn hk hs
      obtain ⟨k, rfl⟩ : ∃ j, k = j + 1 := ⟨k - 1, by omega⟩
      have e2 := good_e2 s (t :: tl)
      simp only [tgtR, hsg, pRight, ht, e2, hie, Bool.and_self, Bool.false_eq_true, if_true, if_false, List.tail_cons]
      obtain ⟨g1, g2⟩ := nextG hv
      cases hg : goF f tl with
      | error e =>
        simp only [Except.bind, Out]
        refine pRight_bd ?_ n l _
        rcases g2 e hg with h | h
        · refine pAlt_bd ?_
          split
          · rw [h.wrong]; exact h
          · exact h
        · rw [h.notE, if_neg (by simp)]
          exact pAlt_pd h
      | ok z =>
        rw [g1 z hg]
        simp only [Except.bind]
        have hv2 := hv.tail hg
        cases hem : (isPart tl && txt tl == EMPTY) with
        | true =>
          rw [good_E, hem, if_pos rfl, rightF_succ, some_E hem]
          exact pRight_bd (pAlt_bd (wrong_good hv2)) n l _
        | false =>
          rw [good_E, hem, if_neg (by simp), rightF_succ]
          have h1 := pAlt_good (d := true) (us := tl) (f := f) (by omega) hv2
          rw [some_of_alt hem] at h1
          cases hso : someF s f true tl with
          | error e =>
            rw [hso] at h1
            exact pRight_bd h1 n l _
          | ok q =>
            obtain ⟨l2, r2⟩ := q
            rw [hso] at h1
            have h1 : pAlt s true (good s tl) = (good s r2, encA l2) := h1
            obtain ⟨q1, q2, q3⟩ := some_spec hv2 hso
            have hp2 := List.length_pos_iff.2 q3
            rw [h1]
            simp only [Except.bind]
            have henc : encA l2 = reK l2 := by cases l2 with
              | nil => exact absurd rfl q3
              | cons a l => rfl
            have ih := pRight_good (f := f) hl n k r2 (acc ++ [encA l2]) (by omega) (by omega) (by omega) q1
            cases htr : tgtR s f k r2 with
            | error e =>
              rw [htr] at ih
              exact ih
            | ok w =>
              rw [htr] at ih
              show _ = _
              rw [show pRight s n (good s r2) l (acc ++ [encA l2]) = (good s w.2, (acc ++ [encA l2]) ++ w.1.map reK) from ih]
              simp [henc]

theorem pSide_bd' {s : Str} {q : RR} {e : Flt} (h : Bd e (pAlt s true q).1) : Bd e (pSide s q).1 := pRight_bd h _ _ _

theorem pSide_good {s : Str} {f : Option Flt} {k : Nat} {ts : List Tok} (hs : ts.length + fl f ≤ s.length) (hk : ts.length < k) (hv : Val s f ts) : Out s (sideF s f k ts) (fun ls => ls.map reK) (pSide s (good s ts)) := by
  have h1 := pAlt_good (d := true) hs hv
  cases hem : (isPart ts && txt ts == EMPTY) with
  | false =>
    have hsd : sideF s f k ts = rightF s f k ts := by
      cases ts with
      | nil => rfl
      | cons t ts =>
        have : (isP t && t.2 == EMPTY) = false := hem
        simp only [sideF, this, Bool.false_eq_true, if_false]
    obtain ⟨k, rfl⟩ : ∃ j, k = j + 1 := ⟨k - 1, by omega⟩
    rw [hsd, rightF_succ]
    rw [some_of_alt hem] at h1
    cases hso : someF s f true ts with
    | error e =>
      rw [hso] at h1
      exact pSide_bd' h1
    | ok q =>
      obtain ⟨l2, r2⟩ := q
      rw [hso] at h1
      have h1 : pAlt s true (good s ts) = (good s r2, encA l2) := h1
      obtain ⟨q1, q2, q3⟩ := some_spec hv hso
      have hp2 := List.length_pos_iff.2 q3
      have henc : encA l2 = reK l2 := by cases l2 with
        | nil => exact absurd rfl q3
        | cons a l => rfl
      have hie : (reK l2).2.isEmpty = false := by cases l2 with
        | nil => exact absurd rfl q3
        | cons a l => rfl
      unfold pSide
      rw [h1, henc]
      simp only [hie, Bool.false_eq_true, if_false, Except.bind]
      have ih := pRight_good (f := f) (l := (reK l2).2) (by rw [reK_snd]; exact q3) (s.length + 1) k r2 [reK l2] (by omega) (by omega) (by omega) q1
      cases htr : tgtR s f k r2 with
      | error e =>
        rw [htr] at ih
        exact ih
      | ok w =>
        rw [htr] at ih
        exact ih
  | true =>
    cases ts with
    | nil => cases hem
    | cons t ts =>
      have hem' : (isP t && t.2 == EMPTY) = true := hem
      simp only [altF, hem', if_true] at h1
      simp only [sideF, hem', if_true]
      cases hg : goF f ts with
      | error e =>
        rw [hg] at h1
        exact pSide_bd' h1
      | ok z =>
        rw [hg] at h1
        simp only [Except.bind] at h1 ⊢
        have hv2 := hv.tail hg
        cases hip : isPart ts with
        | true =>
          rw [hip] at h1
          simp only [Bool.not_true, Bool.false_and, Bool.and_false, Bool.false_eq_true, if_true, if_false] at h1
          simp only [Bool.true_or, if_true]
          exact pSide_bd' h1
        | false =>
          rw [hip] at h1
          have h1 : pAlt s true (good s (t :: ts)) = (good s ts, (.full, [])) := h1
          have ht := good_tt s (ts := ts) [44] rfl (by simp)
          unfold pSide
          rw [h1]
          simp only [Bool.false_or, List.isEmpty_nil, if_true]
          cases hsg : sgn ts == [44] with
          | true =>
            rw [hsg] at ht
            simp only [pRight, ht, good_e2, List.isEmpty_nil, Bool.and_self, if_true, Out]
            exact wrong_good hv2
          | false =>
            rw [hsg] at ht
            simp only [pRight, ht, Bool.false_and, Bool.false_eq_true, if_false, Out, List.map_nil]

theorem pSide_pd {s : Str} {q : RR} {e : Flt} (h : Pd e q) : Bd e (pSide s q).1 := pSide_bd' (pAlt_pd h)

theorem pRules_bd {s : Str} {left : List Part} {e : Flt} {q : RR} (h : Bd e q) (n : Nat) (rs : List Rule19) : Bd e (pRules s left n q rs).1 := by
  cases n with
  | zero => exact h
  | succ n =>
    simp only [pRules, h.q, Bool.false_eq_true, if_false]
    exact h

theorem pRules_pd {s : Str} {left : List Part} {e : Flt} {q : RR} (h : Pd e q) (n : Nat) (rs : List Rule19) : Bd e (pRules s left (n + 1) q rs).1 := by
  simp only [pRules, h.e2, if_true]
  have h1 := pSide_pd (s := s) h
  split
  · exact pRules_bd (h1.next s) _ _
  · exact h1

def tgtS (s : Str) (f : Option Flt) (k : Nat) (ts : List Tok) : Except Flt (List (List (List Part)) × List Tok) :=
  (sideF s f k ts).bind fun r => if sgn r.2 == [59] then (rulesF s f k r.2).bind fun q => .ok (r.1 :: q.1, q.2) else .ok ([r.1], r.2)

theorem pRules_good {s : Str} {f : Option Flt} {left : List Part} : ∀ (n k : Nat) (ts : List Tok) (rs : List Rule19), ts.length + fl f < n → ts.length < k → ts.length + fl f ≤ s.length → Val s f ts →
    Out s (tgtS s f k ts) (fun l => rs ++ l.map fun x => mkRule (left, x)) (pRules s left n (good s ts) rs)
  | 0, k, ts, rs, hn, hk, hs, hv => by omega
  | n + 1, k, ts, rs, hn, hk, hs, hv => by
    have h1 := pSide_good (k := k) hs hk hv
    simp only [pRules, good_e2, if_true]
    unfold tgtS
    cases hsd : sideF s f k ts with
    | error e =>
      rw [hsd] at h1
      have h1 : Bd e (pSide s (good s ts)).1 := h1
      simp only [Except.bind, Out]
      split
      · exact pRules_bd (h1.next s) _ _
      · exact h1
    | ok q =>
      obtain ⟨l, r⟩ := q
      rw [hsd] at h1
      have h1 : pSide s (good s ts) = (good s r, l.map reK) := h1
      obtain ⟨q1, q2⟩ := side_spec hv hsd
      rw [h1]
      simp only [Except.bind]
      have ht := good_tt s (ts := r) [59] rfl (by simp)
      have hmk : (reK left, reK (l.map reK)) = mkRule (left, l) := rfl
      cases hsg : sgn r == [59] with
      | false =>
        rw [hsg] at ht
        simp only [ht, Bool.false_eq_true, if_false, Out, hmk, List.map_cons, List.map_nil]
      | true =>
        rw [hsg] at ht
        obtain ⟨t, tl, rfl⟩ := sgn_next hsg
        simp only [List.length_cons] at q2
        obtain ⟨k, rfl⟩ : ∃ j, k = j + 1 := ⟨k - 1, by omega⟩
        have hrf : rulesF s f (k + 1) (t :: tl) = (goF f tl).bind fun _ => tgtS s f k tl := rfl
        simp only [ht, if_true, hrf, hmk]
        obtain ⟨g1, g2⟩ := nextG q1
        cases hg : goF f tl with
        | error e =>
          simp only [Except.bind, Out]
          rcases g2 e hg with h | h
          · exact pRules_bd h _ _
          · obtain ⟨h3, h4⟩ := fl_err hg
            obtain ⟨j, rfl⟩ : ∃ j, n = j + 1 := ⟨n - 1, by omega⟩
            exact pRules_pd h j _
        | ok z =>
          rw [g1 z hg]
          have ih := pRules_good (f := f) (left := left) n k tl (rs ++ [mkRule (left, l)]) (by omega) (by omega) (by omega) (q1.tail hg)
          simp only [Except.bind]
          cases hts : tgtS s f k tl with
          | error e =>
            rw [hts] at ih
            exact ih
          | ok w =>
            rw [hts] at ih
            show _ = _
            rw [show pRules s left n (good s tl) (rs ++ [mkRule (left, l)]) = (good s w.2, (rs ++ [mkRule (left, l)]) ++ w.1.map fun x => mkRule (left, x)) from ih]
            simp

theorem pMetaL_bd {s : Str} {e : Flt} {q : RR} (h : Bd e q) (n : Nat) (more : Bool) (alts : List (Sl Part)) : Bd e (pMetaL s n more q alts).1 := by
  cases n with
  | zero => exact h
  | succ n =>
    simp only [pMetaL, h.q, Bool.and_false, Bool.false_eq_true, if_false]
    exact h

theorem pMetaL_good {s : Str} {f : Option Flt} : ∀ (n k : Nat) (t : Tok) (ts : List Tok) (alts : List (Sl Part)), ts.length + 1 < n → ts.length < k → ts.length + 1 + fl f ≤ s.length → Val s f (t :: ts) →
    Out s (metaF s f k (t :: ts)) (fun ls => alts ++ ls.map encA) (pMetaL s n true (good s (t :: ts)) alts)
  | 0, k, t, ts, alts, hn, hk, hs, hv => by omega
  | n + 1, k, t, ts, alts, hn, hk, hs, hv => by
    obtain ⟨k, rfl⟩ : ∃ j, k = j + 1 := ⟨k - 1, by omega⟩
    simp only [pMetaL, good_e2, Bool.and_self, if_true, metaF]
    obtain ⟨g1, g2⟩ := nextG hv
    cases hg : goF f ts with
    | error e =>
      simp only [Except.bind, Out]
      rcases g2 e hg with h | h
      · exact pMetaL_bd (pAlt_bd h) _ _ _
      · exact pMetaL_bd (pAlt_pd h) _ _ _
    | ok z =>
      rw [g1 z hg]
      have hv2 := hv.tail hg
      have h1 := pAlt_good (d := false) (us := ts) (f := f) (by omega) hv2
      simp only [Except.bind]
      cases ha : altF s f false ts with
      | error e =>
        rw [ha] at h1
        exact pMetaL_bd h1 _ _ _
      | ok q =>
        obtain ⟨l, r⟩ := q
        rw [ha] at h1
        have h1 : pAlt s false (good s ts) = (good s r, encA l) := h1
        obtain ⟨q1, q2⟩ := alt_spec hv2 ha
        rw [h1]
        have ht := good_tt s (ts := r) [59] rfl (by simp)
        cases hsg : sgn r == [59] with
        | false =>
          rw [hsg] at ht
          simp only [ht, hsg, Bool.false_eq_true, if_false, Out, List.map_cons, List.map_nil]
          cases n with
          | zero => rfl
          | succ n => simp only [pMetaL, Bool.false_and, Bool.false_eq_true, if_false]
        | true =>
          rw [hsg] at ht
          obtain ⟨t', tl, rfl⟩ := sgn_next hsg
          simp only [List.length_cons] at q2
          simp only [ht, hsg, if_true]
          have ih := pMetaL_good (f := f) n k t' tl (alts ++ [encA l]) (by omega) (by omega) (by omega) q1
          cases hm : metaF s f k (t' :: tl) with
          | error e =>
            rw [hm] at ih
            exact ih
          | ok w =>
            rw [hm] at ih
            show _ = _
            rw [show pMetaL s n true (good s (t' :: tl)) (alts ++ [encA l]) = (good s w.2, (alts ++ [encA l]) ++ w.1.map encA) from ih]
            simp

def mkMetaR (m : PMeta) : Meta19 := (m.1, reK (m.2.map encA))

def OutG (s : Str) (tgt : Except Flt (List PMeta × List PRule)) (out : RR × List Meta19 × List Rule19) : Prop :=
  match tgt with
  | .ok g => out = (good s [], g.1.map mkMetaR, g.2.map mkRule)
  | .error e => Bd e out.1

theorem pTop_bd {s : Str} {e : Flt} {q : RR} (h : Bd e q) (n : Nat) (ms : List Meta19) (rs : List Rule19) : Bd e (pTop s n q ms rs).1 := by
  cases n with
  | zero => exact h
  | succ n =>
    simp only [pTop, h.q, Bool.and_false, Bool.false_eq_true, if_false]
    exact h

theorem pEnd_bd {s : Str} {e : Flt} {q : RR} (h : Bd e q) : Bd e (pEnd s q) := by
  unfold pEnd
  split
  · exact h.next s
  · rw [h.wrong]
    exact h.next s

/-- Once a fault has been met at the first part it stays. -/
theorem pTop_start {s : Str} {e : Flt} {q : RR} (h : Bd e (pStart s q).1) (ht : (q.tt == []) = false) (he : (q.e.2 == 0) = true) (n : Nat) (ms : List Meta19) (rs : List Rule19) : Bd e (pTop s (n + 1) q ms rs).1 := by
  have h1 : pOne s (pStart s q).1 (pStart s q).2 ms rs = ((pStart s q).1, ms, rs) := by simp only [pOne, h.q, Bool.false_eq_true, if_false]
  simp only [pTop, ht, he, Bool.not_false, Bool.and_self, if_true, h1]
  exact pTop_bd (pEnd_bd h) n _ _

theorem pTop_pd {s : Str} {e : Flt} {q : RR} (h : Pd e q) (n : Nat) (ms : List Meta19) (rs : List Rule19) : Bd e (pTop s (n + 1) q ms rs).1 := by
  refine pTop_start ?_ ?_ h.e2 n ms rs
  · unfold pStart
    rw [h.notE, if_neg (by simp)]
    exact pLoop_pd h s.length []
  · have := isPs_ne h.ps
    simpa using this

theorem pTop_good {s : Str} {f : Option Flt} : ∀ (n k : Nat) (ts : List Tok) (ms : List PMeta) (rs : List PRule), ts.length + fl f < n → ts.length < k → ts.length + fl f ≤ s.length → Val s f ts →
    OutG s (gramF s f k ms rs ts) (pTop s n (good s ts) (ms.map mkMetaR) (rs.map mkRule))
  | 0, k, ts, ms, rs, hn, hk, hs, hv => by omega
  | n + 1, k, [], ms, rs, hn, hk, hs, hv => by
    obtain ⟨k, rfl⟩ : ∃ j, k = j + 1 := ⟨k - 1, by omega⟩
    have : ((good s []).tt == []) = true := rfl
    simp only [gramF, OutG, pTop, this, Bool.not_true, Bool.false_and, Bool.false_eq_true, if_false]
  | n + 1, k, t :: ts, ms, rs, hn, hk, hs, hv => by
    obtain ⟨k, rfl⟩ : ∃ j, k = j + 1 := ⟨k - 1, by omega⟩
    have hne : ((good s (t :: ts)).tt == []) = false := by
      cases hv with
      | cons _ _ h1 h2 h3 h4 h5 =>
        show (t.2 == []) = false
        simpa using h3
    have e2 := good_e2 s (t :: ts)
    simp only [gramF]
    cases hem : (isPart (t :: ts) && txt (t :: ts) == EMPTY) with
    | true =>
      have hp : partsF f true (t :: ts) = .error (t.1, 9) := by
        have h : (isP t && t.2 == EMPTY) = true := hem
        rw [Bool.and_eq_true] at h
        simp only [partsF, h.1, h.2, if_true]
      rw [hp]
      refine pTop_start ?_ hne e2 n _ _
      unfold pStart
      rw [good_E, hem, if_pos rfl]
      have := wrong_good hv
      show Bd _ (pLoop s true (s.length + 1) _ []).1
      rw [pLoop_bd this]
      exact this
    | false =>
      have hst : pStart s (good s (t :: ts)) = pParts s true (good s (t :: ts)) := by
        unfold pStart
        rw [good_E, hem, if_neg (by simp)]
      have h1 := pParts_good (d := true) hs hv hem
      rw [← hst] at h1
      cases hp : partsF f true (t :: ts) with
      | error e =>
        rw [hp] at h1
        exact pTop_start h1 hne e2 n _ _
      | ok q =>
        obtain ⟨left, r⟩ := q
        rw [hp] at h1
        have h1 : pStart s (good s (t :: ts)) = (good s r, left) := h1
        obtain ⟨q1, q2, q3⟩ := parts_spec hv hp
        simp only [List.length_cons] at q2 hn hk hs
        simp only [pTop, hne, e2, Bool.not_false, Bool.and_self, if_true, h1, Except.bind]
        -- what follows the rule
        have after : ∀ (ms' : List PMeta) (rs' : List PRule) (r2 : List Tok), Val s f r2 → r2.length ≤ ts.length → pOne s (good s r) left (ms.map mkMetaR) (rs.map mkRule) = (good s r2, ms'.map mkMetaR, rs'.map mkRule) →
            OutG s (if sgn r2 == [46] then (goF f r2.tail).bind fun _ => gramF s f k ms' rs' r2.tail else .error (wrongF s r2))
              (pTop s n (pEnd s (pOne s (good s r) left (ms.map mkMetaR) (rs.map mkRule)).1) (pOne s (good s r) left (ms.map mkMetaR) (rs.map mkRule)).2.1 (pOne s (good s r) left (ms.map mkMetaR) (rs.map mkRule)).2.2) := by
          intro ms' rs' r2 hv2 hl2 ho
          rw [ho]
          have ht := good_tt s (ts := r2) [46] rfl (by simp)
          cases hsg : sgn r2 == [46] with
          | false =>
            rw [hsg] at ht
            simp only [Bool.false_eq_true, if_false, OutG]
            refine pTop_bd ?_ n _ _
            unfold pEnd
            rw [ht, if_neg (by simp)]
            exact (wrong_good hv2).next s
          | true =>
            rw [hsg] at ht
            obtain ⟨b, bs, rfl⟩ := sgn_next hsg
            simp only [List.length_cons] at hl2
            have hpe : pEnd s (good s (b :: bs)) = (good s (b :: bs)).next s := by
              unfold pEnd
              rw [ht, if_pos rfl]
            simp only [if_true, List.tail_cons, hpe]
            obtain ⟨g1, g2⟩ := nextG hv2
            cases hg : goF f bs with
            | error e =>
              simp only [Except.bind, OutG]
              rcases g2 e hg with h | h
              · exact pTop_bd h n _ _
              · obtain ⟨h3, h4⟩ := fl_err hg
                obtain ⟨j, rfl⟩ : ∃ j, n = j + 1 := ⟨n - 1, by omega⟩
                exact pTop_pd h j _ _
            | ok z =>
              rw [g1 z hg]
              exact pTop_good n k bs ms' rs' (by omega) (by omega) (by omega) (hv2.tail hg)
        have bad : ∀ (e : Flt), Bd e (pOne s (good s r) left (ms.map mkMetaR) (rs.map mkRule)).1 →
            Bd e (pTop s n (pEnd s (pOne s (good s r) left (ms.map mkMetaR) (rs.map mkRule)).1) (pOne s (good s r) left (ms.map mkMetaR) (rs.map mkRule)).2.1 (pOne s (good s r) left (ms.map mkMetaR) (rs.map mkRule)).2.2).1 := fun e h => pTop_bd (pEnd_bd h) n _ _
        have t58 := good_tt s (ts := r) [58, 58] rfl (by simp)
        have t5 := good_tt s (ts := r) [58] rfl (by simp)
        have hrm : ((good s r).tt == [58, 58] && ((rs.map mkRule).isEmpty && isMetaP left)) = isRuleM rs left r := by
          rw [t58]
          have : (rs.map mkRule).isEmpty = rs.isEmpty := by cases rs <;> rfl
          rw [this]
          rfl
        cases hb : isRuleM rs left r with
        | true =>
          rw [hb] at hrm
          have hone : pOne s (good s r) left (ms.map mkMetaR) (rs.map mkRule) = ((pMetaL s (s.length + 2) true (good s r) []).1, ms.map mkMetaR ++ [((left.map (·.2)).headD [], reK (pMetaL s (s.length + 2) true (good s r) []).2)], rs.map mkRule) := by
            simp only [pOne, good_e2, hrm, if_true]
          have hlp : 0 < left.length := by
            cases left with
            | nil => simp [isRuleM] at hb
            | cons a l => simp
          obtain ⟨b, bs, rfl⟩ : ∃ b bs, r = b :: bs := by
            cases r with
            | nil => simp [isRuleM, sgn] at hb
            | cons b bs => exact ⟨b, bs, rfl⟩
          simp only [List.length_cons] at q2
          have hm := pMetaL_good (f := f) (s.length + 2) k b bs [] (by omega) (by omega) (by omega) q1
          simp only [if_true]
          cases hmf : metaF s f k (b :: bs) with
          | error e =>
            rw [hmf] at hm
            refine bad e ?_
            rw [hone]
            exact hm
          | ok w =>
            obtain ⟨alts, r2⟩ := w
            rw [hmf] at hm
            have hm : pMetaL s (s.length + 2) true (good s (b :: bs)) [] = (good s r2, alts.map encA) := hm
            obtain ⟨w1, w2, w3⟩ := meta_spec q1 hmf
            simp only [List.length_cons] at w2
            rw [hm] at hone
            exact after _ _ r2 w1 (by omega) (by rw [hone, List.map_append]; rfl)
        | false =>
          rw [hb] at hrm
          simp only [Bool.false_eq_true, if_false]
          cases hc : (sgn r == [58] && !left.isEmpty) with
          | false =>
            have hone : pOne s (good s r) left (ms.map mkMetaR) (rs.map mkRule) = ((good s r).wrong s, ms.map mkMetaR, rs.map mkRule) := by
              simp only [pOne, good_e2, hrm, t5, hc, Bool.false_eq_true, if_true, if_false]
            simp only [Bool.false_eq_true, if_false]
            refine bad _ ?_
            rw [hone]
            exact wrong_good q1
          | true =>
            have hone : pOne s (good s r) left (ms.map mkMetaR) (rs.map mkRule) = ((pRules s left (s.length + 2) ((good s r).next s) (rs.map mkRule)).1, ms.map mkMetaR, (pRules s left (s.length + 2) ((good s r).next s) (rs.map mkRule)).2) := by
              simp only [pOne, good_e2, hrm, t5, hc, Bool.false_eq_true, if_true, if_false]
            rw [Bool.and_eq_true] at hc
            have hlp : 0 < left.length := by
              cases left with
              | nil => simp at hc
              | cons a l => simp
            obtain ⟨b, bs, rfl⟩ := sgn_next hc.1
            simp only [List.length_cons] at q2
            obtain ⟨k, rfl⟩ : ∃ j, k = j + 1 := ⟨k - 1, by omega⟩
            have hrf : rulesF s f (k + 1) (b :: bs) = (goF f bs).bind fun _ => tgtS s f k bs := rfl
            simp only [if_true, hrf]
            obtain ⟨g1, g2⟩ := nextG q1
            cases hg : goF f bs with
            | error e =>
              refine bad e ?_
              rw [hone]
              rcases g2 e hg with h | h
              · exact pRules_bd h _ _
              · exact pRules_pd h (s.length + 1) _
            | ok z =>
              rw [g1 z hg] at hone
              have hm := pRules_good (f := f) (left := left) (s.length + 2) k bs (rs.map mkRule) (by omega) (by omega) (by omega) (q1.tail hg)
              simp only [Except.bind]
              cases hts : tgtS s f k bs with
              | error e =>
                rw [hts] at hm
                refine bad e ?_
                rw [hone]
                exact hm
              | ok w =>
                obtain ⟨l, r2⟩ := w
                rw [hts] at hm
                have hm : pRules s left (s.length + 2) (good s bs) (rs.map mkRule) = (good s r2, rs.map mkRule ++ l.map fun x => mkRule (left, x)) := hm
                have hrr : rulesF s f (k + 1) (b :: bs) = .ok (l, r2) := by rw [hrf, hg]; exact hts
                obtain ⟨w1, w2, w3⟩ := rules_spec q1 hrr
                simp only [List.length_cons] at w2
                rw [hm] at hone
                exact after _ _ r2 w1 (by have := List.length_pos_iff.2 w3; omega) (by rw [hone, List.map_append, List.map_map]; rfl)

end Go.Proofs.YtiniifbmeobmgaaGreatDoor
