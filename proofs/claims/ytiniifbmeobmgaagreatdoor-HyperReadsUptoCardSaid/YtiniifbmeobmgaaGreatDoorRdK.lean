/- The reference reads what the package reads (no program in it). -/
import Derived.Test.YtiniifbmeobmgaaGreatDoorRdJ
set_option linter.unusedVariables false
set_option linter.unusedSimpArgs false
namespace Go.Proofs.YtiniifbmeobmgaaGreatDoor
open Go Go.Abs

def good (s : Str) : List Tok → RR
  | [] => ⟨s.length, [], s.length, (0, 0)⟩
  | t :: _ => ⟨t.1 + t.2.length, t.2, t.1, (0, 0)⟩
structure Bd (e : Flt) (q : RR) : Prop where
  ee : q.e = e
  ne : (e.2 == 0) = false
structure Pd (e : Flt) (q : RR) : Prop where
  ee : q.e = (0, 0)
  ps : isPs q.tt = true
  bad : badWord q.tt = true
  eq : e = (q.ta, 8)

theorem Bd.q {e : Flt} {q : RR} (h : Bd e q) : (q.e.2 == 0) = false := by rw [h.ee]; exact h.ne
theorem Bd.stop {e : Flt} {q : RR} (h : Bd e q) (x : Nat) (c : Int) : q.stop x c = q := by unfold RR.stop; rw [h.q]; rfl
theorem Bd.wrong {e : Flt} {q : RR} (h : Bd e q) (s : Str) : q.wrong s = q := by
  unfold RR.wrong
  rw [h.stop]
  split <;> exact h.stop _ _
theorem Bd.next {e : Flt} {q : RR} (h : Bd e q) (s : Str) : Bd e (q.next s) := by
  refine ⟨?_, h.ne⟩
  unfold RR.next
  split
  · exact h.ee
  · split
    · exact h.ee
    · split
      · exact h.ee
      · rw [h.stop]; exact h.ee
theorem Bd.pName {e : Flt} {q : RR} (h : Bd e q) (d : Bool) : pName d q = q := by unfold Go.Proofs.YtiniifbmeobmgaaGreatDoor.pName; rw [h.stop]; split <;> rfl
theorem Bd.pSyn {e : Flt} {q : RR} (h : Bd e q) (l : List Part) : pSyn l q = q := by unfold Go.Proofs.YtiniifbmeobmgaaGreatDoor.pSyn; rw [h.stop]; split <;> rfl

theorem stop_bd {q : RR} (h : q.e = (0, 0)) (x : Nat) {c : Int} (hc : (c == 0) = false) : Bd (x, c) (q.stop x c) := by
  refine ⟨?_, hc⟩
  unfold RR.stop
  rw [h]
  rfl

theorem good_e (s : Str) (ts : List Tok) : (good s ts).e = (0, 0) := by cases ts <;> rfl
theorem good_e2 (s : Str) (ts : List Tok) : ((good s ts).e.2 == 0) = true := by rw [good_e]; rfl
theorem good_ps (s : Str) (ts : List Tok) : isPs (good s ts).tt = isPart ts := by
  cases ts with
  | nil => rfl
  | cons t ts => rfl

/-- The next token of the reference is the package's. -/
theorem next_good {s : Str} {q : RR} (ha : q.a ≤ s.length) {ts : List Tok} {f : Option Flt} (hL : Lex s q.a ts f) (he : q.e = (0, 0)) :
    (∀ z, goF f ts = .ok z → q.next s = good s ts) ∧ ∀ e, goF f ts = .error e → Bd e (q.next s) ∨ Pd e (q.next s) := by
  have hle := skip_le ha
  cases hL with
  | fin _ h1 =>
    have hn : s[skip s q.a]? = none := by rw [List.getElem?_eq_none]; omega
    refine ⟨fun z hz => ?_, fun e hz => by cases hz⟩
    simp only [RR.next, hn, good, he]
  | form _ c h1 h2 h3 =>
    refine ⟨fun z hz => (by cases hz), fun e hz => ?_⟩
    cases hz
    left
    have := stop_bd he (skip s q.a) (c := 2) rfl
    refine ⟨?_, rfl⟩
    unfold RR.next
    rw [h1]
    simp only [h2, h3, Bool.false_eq_true, if_false]
    exact this.ee
  | name _ c h1 h2 h3 =>
    refine ⟨fun z hz => (by cases hz), fun e hz => ?_⟩
    cases hz
    right
    have hn : q.next s = ⟨skip s q.a + (wordAt s (skip s q.a)).length, wordAt s (skip s q.a), skip s q.a, (0, 0)⟩ := by
      unfold RR.next
      rw [h1]
      simp [h2, he]
    rw [hn]
    obtain ⟨w, hw⟩ := word_cons h1 h2
    exact ⟨rfl, by simp only [hw]; exact h2, h3, rfl⟩
  | word _ c ts f h1 h2 h3 h4 =>
    refine ⟨fun z hz => ?_, fun e hz => ?_⟩
    · unfold RR.next
      rw [h1]
      simp [h2, he, good]
    · cases f <;> cases hz
  | sign _ c ts f h1 h2 h3 h4 =>
    refine ⟨fun z hz => ?_, fun e hz => ?_⟩
    · unfold RR.next
      rw [h1]
      simp [h2, h3, he, good]
    · cases f <;> cases hz

theorem nextG {s : Str} {t : Tok} {ts : List Tok} {f : Option Flt} (hv : Val s f (t :: ts)) : (∀ z, goF f ts = .ok z → (good s (t :: ts)).next s = good s ts) ∧ ∀ e, goF f ts = .error e → Bd e ((good s (t :: ts)).next s) ∨ Pd e ((good s (t :: ts)).next s) := by
  cases hv with
  | cons _ _ h1 h2 h3 h4 h5 => exact next_good (q := good s (t :: ts)) h2 h5 rfl

theorem nextS {s : Str} {q : RR} {t : Tok} {ts : List Tok} {f : Option Flt} (hv : Val s f (t :: ts)) (hq : q.a = t.1 + t.2.length) (he : q.e = (0, 0)) : (∀ z, goF f ts = .ok z → q.next s = good s ts) ∧ ∀ e, goF f ts = .error e → Bd e (q.next s) ∨ Pd e (q.next s) := by
  cases hv with
  | cons _ _ h1 h2 h3 h4 h5 => exact next_good (by omega) (by rw [hq]; exact h5) he

/-- What comes out: a good state and a value, or a fault. -/
def Out {α β : Type} (s : Str) (tgt : Except Flt (α × List Tok)) (enc : α → β) (out : RR × β) : Prop :=
  match tgt with
  | .ok (a, r) => out = (good s r, enc a)
  | .error e => Bd e out.1

theorem pLoop_bd {s : Str} {d : Bool} {e : Flt} {q : RR} (h : Bd e q) (n : Nat) (acc : List Part) : pLoop s d n q acc = (q, acc) := by
  cases n with
  | zero => rfl
  | succ n => simp only [pLoop, h.q, Bool.and_false, Bool.false_eq_true, if_false]

theorem nameBad_bad {d : Bool} {w : Str} (h : badWord w = true) : nameBad d w = true := by
  simp only [badWord, Bool.and_eq_true, Bool.not_eq_true'] at h
  obtain ⟨h1, h2, h3⟩ := h
  have hm : isMeta w = false := by
    cases hm : isMeta w with
    | false => rfl
    | true => rw [isParam_of_meta hm] at h3; cases h3
  simp [nameBad, h1, h2, h3, hm]

theorem pLoop_pd {s : Str} {d : Bool} {e : Flt} {q : RR} (h : Pd e q) (n : Nat) (acc : List Part) : Bd e (pLoop s d (n + 1) q acc).1 := by
  have h1 : pName d q = q.stop q.ta 8 := by simp only [pName, nameBad_bad h.bad, if_true]
  have hb : Bd e (pName d q) := by
    rw [h1, h.eq]
    exact stop_bd h.ee q.ta rfl
  have he : (q.e.2 == 0) = true := by rw [h.ee]; rfl
  simp only [pLoop, h.ps, he, Bool.and_self, if_true]
  rw [hb.pSyn, pLoop_bd (hb.next s)]
  exact hb.next s

/-- One, if the tokens end with a fault. -/
def fl (f : Option Flt) : Nat := match f with
  | none => 0
  | some _ => 1

theorem fl_err {f : Option Flt} {ts : List Tok} {e : Flt} (h : goF f ts = .error e) : ts = [] ∧ fl f = 1 := by
  unfold goF at h
  split at h
  · exact ⟨rfl, rfl⟩
  · cases h

def tgtP (f : Option Flt) (d : Bool) (acc : List Part) (us : List Tok) : Except Flt (List Part × List Tok) := (partsF f d us).bind fun r => .ok (acc ++ r.1, r.2)

theorem nameBad_good {d : Bool} {w : Str} (h : badWord w = false) (he : (w == EMPTY) = false) : nameBad d w = (!isWord w && (!d && !isMeta w)) := by
  simp only [badWord, he, Bool.not_false, Bool.true_and, Bool.and_eq_false_iff, Bool.not_eq_false'] at h
  simp only [nameBad, he, Bool.not_false, Bool.true_and]
  rcases h with h | h
  · simp [h]
  · cases d <;> simp [h]

theorem lastE_snoc (acc : List Part) (p : Part) : lastE (acc ++ [p]) = (p.2 == EMPTY) := by
  match acc with
  | [] => rfl
  | [a] => rfl
  | a :: b :: l =>
    have := lastE_snoc (b :: l) p
    exact this

theorem pLoop_good {s : Str} {f : Option Flt} {d : Bool} : ∀ (us : List Tok) (n : Nat) (acc : List Part), us.length + fl f < n → Val s f us → lastE acc = false → (acc = [] → (isPart us && txt us == EMPTY) = false) →
    Out s (tgtP f d acc us) id (pLoop s d n (good s us) acc)
  | [], n, acc, hn, hv, hl, hf => by
    cases n with
    | zero => simp at hn
    | succ n => simp [pLoop, good, isPs, tgtP, partsF, Except.bind, Out]
  | u :: us, n, acc, hn, hv, hl, hf => by
    obtain ⟨n, rfl⟩ : ∃ k, n = k + 1 := ⟨n - 1, by simp at hn; omega⟩
    have hps : isPs (good s (u :: us)).tt = isP u := rfl
    cases hp : isP u with
    | false =>
      simp only [pLoop, hps, hp, Bool.false_and, Bool.false_eq_true, if_false, tgtP, partsF, Except.bind, Out]
      simp
    | true =>
      have hbw : badWord u.2 = false := by
        cases hv with
        | cons _ _ h1 h2 h3 h4 h5 => exact h4 hp
      have e2 : ((good s (u :: us)).e.2 == 0) = true := rfl
      simp only [pLoop, hps, hp, e2, Bool.and_self, if_true]
      cases he : u.2 == EMPTY with
      | true =>
        -- EMPTY behind parts
        have hne : acc ≠ [] := fun h => by
          have := hf h
          simp [isPart, txt, hp, he] at this
        have hie : acc.isEmpty = false := by cases acc with
          | nil => exact absurd rfl hne
          | cons a l => rfl
        have h1 : pName d (good s (u :: us)) = good s (u :: us) := by
          have : nameBad d u.2 = false := by simp [nameBad, he]
          show (if nameBad d u.2 then _ else _) = _
          rw [this]
          rfl
        have h2 : Bd (u.1, 9) (pSyn acc (good s (u :: us))) := by
          have : synBad acc u.2 = true := by simp [synBad, hie, he]
          show Bd _ (if synBad acc u.2 then (good s (u :: us)).stop u.1 9 else _)
          rw [this, if_pos rfl]
          exact stop_bd rfl u.1 rfl
        rw [h1, pLoop_bd (h2.next s)]
        simp only [tgtP, partsF, hp, he, if_true, Except.bind, Out]
        exact h2.next s
      | false =>
        have hsy : synBad acc u.2 = false := by simp [synBad, he, hl]
        have hnb := nameBad_good (d := d) hbw he
        cases hb : (!isWord u.2 && (!d && !isMeta u.2)) with
        | true =>
          rw [hb] at hnb
          have h1 : Bd (u.1, 8) (pName d (good s (u :: us))) := by
            show Bd _ (if nameBad d u.2 then (good s (u :: us)).stop u.1 8 else _)
            rw [hnb, if_pos rfl]
            exact stop_bd rfl u.1 rfl
          rw [h1.pSyn, pLoop_bd (h1.next s)]
          simp only [tgtP, partsF, hp, he, hb, Bool.false_eq_true, if_true, if_false, Except.bind, Out]
          exact h1.next s
        | false =>
          rw [hb] at hnb
          have h1 : pName d (good s (u :: us)) = good s (u :: us) := by
            show (if nameBad d u.2 then _ else _) = _
            rw [hnb]
            rfl
          have h2 : pSyn acc (good s (u :: us)) = good s (u :: us) := by
            show (if synBad acc u.2 then _ else _) = _
            rw [hsy]
            rfl
          rw [h1, h2]
          have htt : (good s (u :: us)).tt = u.2 := rfl
          rw [htt]
          obtain ⟨g1, g2⟩ := nextG hv
          cases hg : goF f us with
          | error e =>
            have ht : tgtP f d acc (u :: us) = .error e := by
              simp only [tgtP, partsF, hp, he, hb, hg, Bool.false_eq_true, if_true, if_false, Except.bind]
            rw [ht]
            rcases g2 e hg with h | h
            · rw [pLoop_bd h]
              exact h
            · obtain ⟨h3, h4⟩ := fl_err hg
              obtain ⟨k, rfl⟩ : ∃ k, n = k + 1 := ⟨n - 1, by simp at hn; omega⟩
              exact pLoop_pd h k _
          | ok z =>
            rw [g1 z hg]
            have ht : tgtP f d acc (u :: us) = tgtP f d (acc ++ [(!isWord u.2, u.2)]) us := by
              simp only [tgtP, partsF, hp, he, hb, hg, Bool.false_eq_true, if_true, if_false, Except.bind]
              cases partsF f d us <;> simp
            rw [ht]
            exact pLoop_good us n _ (by simp at hn; omega) (hv.tail hg) (by rw [lastE_snoc]; exact he) (fun h => by simp at h)


theorem bind_ok_id {α : Type} (e : Except Flt (α × List Tok)) (g : α → α) (hg : ∀ a, g a = a) : (e.bind fun r => .ok (g r.1, r.2)) = e := by
  cases e with
  | error e => rfl
  | ok r => simp [Except.bind, hg]

theorem pParts_good {s : Str} {f : Option Flt} {d : Bool} {us : List Tok} (hn : us.length + fl f ≤ s.length) (hv : Val s f us) (hf : (isPart us && txt us == EMPTY) = false) : Out s (partsF f d us) id (pParts s d (good s us)) := by
  have := pLoop_good (d := d) us (s.length + 1) [] (by omega) hv rfl (fun _ => hf)
  unfold tgtP at this
  rw [bind_ok_id _ (fun l => [] ++ l) (fun l => rfl)] at this
  exact this

def badNext (s : Str) (d : Bool) (ts : List Tok) : Flt := if !(txt ts == EMPTY) && (!isWord (txt ts) && (!d && !isMeta (txt ts))) then ((wrongF s ts).1, 8) else wrongF s ts

theorem pParts_empty {s : Str} {f : Option Flt} {d : Bool} {t : Tok} {ts : List Tok} (hn : (t :: ts).length + fl f ≤ s.length) (hv : Val s f (t :: ts)) (hf : (isP t && t.2 == EMPTY) = true) :
    Out s ((goF f ts).bind fun _ => if isPart ts then .error (badNext s d ts) else .ok ([(true, EMPTY)], ts)) id (pParts s d (good s (t :: ts))) := by
  rw [Bool.and_eq_true] at hf
  obtain ⟨hp, he⟩ := hf
  have ht : t.2 = EMPTY := by simpa using he
  have e2 : ((good s (t :: ts)).e.2 == 0) = true := rfl
  have hps : isPs (good s (t :: ts)).tt = true := hp
  have h1 : pName d (good s (t :: ts)) = good s (t :: ts) := by
    have : nameBad d t.2 = false := by simp [nameBad, he]
    show (if nameBad d t.2 then _ else _) = _
    rw [this]
    rfl
  have h2 : pSyn [] (good s (t :: ts)) = good s (t :: ts) := rfl
  have htt : (good s (t :: ts)).tt = EMPTY := ht
  have hw : isWord EMPTY = false := by decide
  have hstep : pParts s d (good s (t :: ts)) = pLoop s d s.length ((good s (t :: ts)).next s) [(true, EMPTY)] := by
    show pLoop s d (s.length + 1) _ _ = _
    simp only [pLoop, hps, e2, Bool.and_self, if_true]
    rw [h1, h2, htt, hw]
    rfl
  rw [hstep]
  obtain ⟨g1, g2⟩ := nextG hv
  simp at hn
  obtain ⟨k, hk⟩ : ∃ k, s.length = k + 1 := ⟨s.length - 1, by omega⟩
  rw [hk]
  cases hg : goF f ts with
  | error e =>
    simp only [Except.bind, Out]
    rcases g2 e hg with h | h
    · rw [pLoop_bd h]
      exact h
    · exact pLoop_pd h k _
  | ok z =>
    rw [g1 z hg]
    simp only [Except.bind]
    have hv2 := hv.tail hg
    cases hip : isPart ts with
    | false =>
      simp only [pLoop, good_ps, hip, Bool.false_and, Bool.false_eq_true, if_false, Out, id]
    | true =>
      cases ts with
      | nil => cases hip
      | cons u ts =>
      have hp : isP u = true := hip
      have hbw : badWord u.2 = false := by
        cases hv2 with
        | cons _ _ h1 h2 h3 h4 h5 => exact h4 hp
      have e3 : ((good s (u :: ts)).e.2 == 0) = true := rfl
      have hbn : badNext s d (u :: ts) = if !(u.2 == EMPTY) && (!isWord u.2 && (!d && !isMeta u.2)) then (u.1, 8) else (u.1, 9) := rfl
      simp only [pLoop, good_ps, hip, e3, Bool.and_self, if_true, Out]
      rw [hbn]
      have hsy : synBad [(true, EMPTY)] u.2 = true := by simp [synBad, lastE]
      rcases Bool.eq_false_or_eq_true (!(u.2 == EMPTY) && (!isWord u.2 && (!d && !isMeta u.2))) with hb | hb
      · rw [if_pos hb]
        have he' : (u.2 == EMPTY) = false := by
          rw [Bool.and_eq_true] at hb
          simpa using hb.1
        rw [he'] at hb
        have hnb := nameBad_good (d := d) hbw he'
        have hb' : (!isWord u.2 && (!d && !isMeta u.2)) = true := hb
        rw [hb'] at hnb
        have h1 : Bd (u.1, 8) (pName d (good s (u :: ts))) := by
          show Bd _ (if nameBad d u.2 then (good s (u :: ts)).stop u.1 8 else _)
          rw [hnb, if_pos rfl]
          exact stop_bd rfl u.1 rfl
        rw [h1.pSyn, pLoop_bd (h1.next s)]
        exact h1.next s
      · rw [if_neg (by rw [hb]; decide)]
        have hnb : nameBad d u.2 = false := by
          cases he' : u.2 == EMPTY with
          | true => simp [nameBad, he']
          | false =>
            rw [he'] at hb
            rw [nameBad_good hbw he']
            exact hb
        have h1 : pName d (good s (u :: ts)) = good s (u :: ts) := by
          show (if nameBad d u.2 then _ else _) = _
          rw [hnb]
          rfl
        have h2 : Bd (u.1, 9) (pSyn [(true, EMPTY)] (good s (u :: ts))) := by
          show Bd _ (if synBad [(true, EMPTY)] u.2 then (good s (u :: ts)).stop u.1 9 else _)
          rw [hsy, if_pos rfl]
          exact stop_bd rfl u.1 rfl
        rw [h1, pLoop_bd (h2.next s)]
        exact h2.next s

theorem parts_ne {f : Option Flt} {d : Bool} : ∀ {ts : List Tok} {l : List Part} {r : List Tok}, partsF f d ts = .ok (l, r) → ∀ p ∈ l, (p.2 == EMPTY) = false
  | [], l, r, h => by
    simp only [partsF, Except.ok.injEq, Prod.mk.injEq] at h
    obtain ⟨rfl, rfl⟩ := h
    simp
  | t :: ts, l, r, h => by
    simp only [partsF] at h
    split at h
    · split at h
      · cases h
      · rename_i hne
        split at h
        · cases h
        · obtain ⟨z, hg, h2⟩ := bind_ok h
          obtain ⟨q, h3, h4⟩ := bind_ok h2
          cases h4
          intro p hp
          rcases List.mem_cons.1 hp with rfl | hp
          · exact Bool.eq_false_iff.2 hne
          · exact parts_ne h3 p hp
    · cases h
      simp

def encA (l : List Part) : Sl Part := match l with
  | [] => (.full, [])
  | l => reK l

theorem wrong_good {s : Str} {f : Option Flt} {r : List Tok} (hv : Val s f r) : Bd (wrongF s r) ((good s r).wrong s) := by
  cases r with
  | nil =>
    have h1 := stop_bd (q := good s []) rfl s.length (c := 16) rfl
    have : (good s []).wrong s = ((good s []).stop s.length 16).stop s.length 9 := rfl
    rw [this, h1.stop]
    exact h1
  | cons t ts =>
    have hne : (t.2 == []) = false := by
      cases hv with
      | cons _ _ h1 h2 h3 h4 h5 => simpa using h3
    have : (good s (t :: ts)).wrong s = (good s (t :: ts)).stop t.1 9 := by
      unfold RR.wrong
      have : ((good s (t :: ts)).tt == []) = false := hne
      rw [this]
      rfl
    rw [this]
    exact stop_bd rfl t.1 rfl

theorem pAlt_some {s : Str} {d : Bool} {q : RR} {q' : RR} {l : List Part} (h : pParts s d q = (q', l)) (hne : l ≠ []) (hE : ∀ p ∈ l, (p.2 == EMPTY) = false) : pAlt s d q = (q', reK l) := by
  unfold pAlt
  rw [h]
  match l with
  | [] => exact absurd rfl hne
  | [p] =>
    have := hE p (by simp)
    simp only [List.isEmpty_cons, Bool.false_eq_true, if_false, this]
  | a :: b :: l => rfl

theorem pAlt_bd' {s : Str} {d : Bool} {q : RR} {e : Flt} (h : Bd e (pParts s d q).1) : Bd e (pAlt s d q).1 := by
  unfold pAlt
  show Bd e (if _ then _ else _)
  rw [h.wrong]
  split <;> exact h

theorem pAlt_bd {s : Str} {d : Bool} {q : RR} {e : Flt} (h : Bd e q) : Bd e (pAlt s d q).1 := pAlt_bd' (by
  show Bd e (pLoop s d (s.length + 1) q []).1
  rw [pLoop_bd h]
  exact h)

theorem pAlt_pd {s : Str} {d : Bool} {q : RR} {e : Flt} (h : Pd e q) : Bd e (pAlt s d q).1 := pAlt_bd' (pLoop_pd h s.length [])

theorem pAlt_good {s : Str} {f : Option Flt} {d : Bool} {us : List Tok} (hn : us.length + fl f ≤ s.length) (hv : Val s f us) : Out s (altF s f d us) encA (pAlt s d (good s us)) := by
  have simple : (isPart us && txt us == EMPTY) = false → Out s (someF s f d us) encA (pAlt s d (good s us)) := by
    intro hf
    have h1 := pParts_good (d := d) hn hv hf
    unfold someF
    cases hp : partsF f d us with
    | error e =>
      rw [hp] at h1
      exact pAlt_bd' h1
    | ok q =>
      obtain ⟨l, r⟩ := q
      rw [hp] at h1
      have h1 : pParts s d (good s us) = (good s r, l) := h1
      obtain ⟨q1, q2, q3⟩ := parts_spec hv hp
      simp only [Except.bind]
      by_cases hl : l = []
      · subst hl
        simp only [if_true, Out]
        unfold pAlt
        rw [h1]
        exact wrong_good q1
      · rw [if_neg hl]
        simp only [Out]
        rw [pAlt_some h1 hl (parts_ne hp)]
        cases l with
        | nil => exact absurd rfl hl
        | cons a l => rfl
  cases us with
  | nil => exact simple rfl
  | cons t ts =>
    simp only [altF]
    cases hf : (isP t && t.2 == EMPTY) with
    | false =>
      simp only [Bool.false_eq_true, if_false]
      exact simple hf
    | true =>
      simp only [if_true]
      have h1 := pParts_empty (d := d) hn hv hf
      cases hg : goF f ts with
      | error e =>
        rw [hg] at h1
        exact pAlt_bd' h1
      | ok z =>
        rw [hg] at h1
        simp only [Except.bind] at h1 ⊢
        cases hip : isPart ts with
        | true =>
          rw [hip] at h1
          exact pAlt_bd' h1
        | false =>
          rw [hip] at h1
          have h1 : pParts s d (good s (t :: ts)) = (good s ts, [(true, EMPTY)]) := h1
          simp only [Bool.false_eq_true, if_false, Out]
          unfold pAlt
          rw [h1]
          rfl

end Go.Proofs.YtiniifbmeobmgaaGreatDoor
