/- Reading a written form gives the grammar (no program in it). -/
import Derived.Test.YtiniifbmeobmgaaGreatDoorRdF
import Derived.Test.YtiniifbmeobmgaaGreatDoorWrB
set_option linter.unusedVariables false
set_option linter.unusedSimpArgs false
namespace Go.Proofs.YtiniifbmeobmgaaGreatDoor
open Go Go.Abs

/-! ### The tokens of a form -/

/-- No letter is first. -/
def noLet (t : Str) : Prop := ∀ c, t[0]? = some c → letB c = false

structure WordOk (w : Str) : Prop where
  ne : w ≠ []
  lets : ∀ c ∈ w, letB c = true
  good : badWord w = false

inductive Tk : Str → List Str → Prop where
  | nil : Tk [] []
  | blank (c t l) : blankB c = true → Tk t l → Tk (c :: t) l
  | word (w t l) : WordOk w → noLet t → Tk t l → Tk (w ++ t) (w :: l)
  | sign (c t l) : letB c = false → blankB c = false → signB c = true → (c = 58 → t[0]? ≠ some 58) → Tk t l → Tk (c :: t) ([c] :: l)
  | two (t l) : Tk t l → Tk (58 :: 58 :: t) ([58, 58] :: l)

theorem drop_get {s t : Str} {a : Nat} (h : s.drop a = t) (i : Nat) : s[a + i]? = t[i]? := by rw [← h, List.getElem?_drop]

theorem skip_blank {s : Str} {a : Nat} {c : UInt8} (h : s[a]? = some c) (hb : blankB c = true) : skip s a = skip s (a + 1) := by
  unfold skip
  rw [drop_cons h, List.takeWhile_cons, if_pos hb, List.length_cons]
  omega

theorem skip_none {s : Str} {a : Nat} {c : UInt8} (h : s[a]? = some c) (hb : blankB c = false) : skip s a = a := by
  unfold skip
  rw [drop_cons h, List.takeWhile_cons, hb]
  simp

theorem let_blank {c : UInt8} (h : letB c = true) : blankB c = false := by
  cases hb : blankB c with
  | false => rfl
  | true =>
    simp only [blankB, Bool.or_eq_true, beq_iff_eq] at hb
    rcases hb with rfl | rfl | rfl <;> cases h

theorem tw_all {p : UInt8 → Bool} : ∀ {w t : Str}, (∀ c ∈ w, p c = true) → (∀ c, t[0]? = some c → p c = false) → (w ++ t).takeWhile p = w
  | [], [], _, _ => rfl
  | [], c :: t, _, h => by simp [List.takeWhile_cons, h c rfl]
  | d :: w, t, hw, h => by
    rw [List.cons_append, List.takeWhile_cons, if_pos (hw d (by simp)), tw_all (fun c hc => hw c (by simp [hc])) h]

theorem Lex.blank {s : Str} {a : Nat} {c : UInt8} (h : s[a]? = some c) (hb : blankB c = true) {ts : List Tok} {f : Option Flt} (hL : Lex s (a + 1) ts f) : Lex s a ts f := by
  have hs := skip_blank h hb
  cases hL with
  | fin _ h1 => exact .fin a (by rw [hs]; exact h1)
  | form _ c h1 h2 h3 => rw [← hs] at h1 ⊢; exact .form a c h1 h2 h3
  | name _ c h1 h2 h3 => rw [← hs] at h1 h3 ⊢; exact .name a c h1 h2 h3
  | word _ c ts f h1 h2 h3 h4 => rw [← hs] at h1 h3 h4 ⊢; exact .word a c ts f h1 h2 h3 h4
  | sign _ c ts f h1 h2 h3 h4 => rw [← hs] at h1 h4 ⊢; exact .sign a c ts f h1 h2 h3 h4

theorem Tk.lex {s t : Str} {l : List Str} (h : Tk t l) : ∀ {a : Nat}, a ≤ s.length → s.drop a = t → ∃ ts, Lex s a ts none ∧ ts.map (·.2) = l := by
  induction h with
  | nil =>
    intro a ha hd
    have : s.length ≤ a := by simpa using hd
    refine ⟨[], .fin a ?_, rfl⟩
    have h1 := skip_le ha
    have h2 := skip_ge s a
    omega
  | blank c t l hb _ ih =>
    intro a ha hd
    have h0 := drop_get hd 0
    simp only [Nat.add_zero, List.getElem?_cons_zero] at h0
    have hlt := (List.getElem?_eq_some_iff.1 h0).1
    obtain ⟨ts, h1, h2⟩ := ih (a := a + 1) (by omega) (by rw [← List.drop_drop, hd]; rfl)
    exact ⟨ts, h1.blank h0 hb, h2⟩
  | word w t l hw hn _ ih =>
    intro a ha hd
    obtain ⟨c, w', rfl⟩ : ∃ c w', w = c :: w' := by
      cases w with
      | nil => exact absurd rfl hw.ne
      | cons c w' => exact ⟨c, w', rfl⟩
    have h0 := drop_get hd 0
    simp only [Nat.add_zero, List.cons_append, List.getElem?_cons_zero] at h0
    have hc := hw.lets c (by simp)
    have hsk := skip_none h0 (let_blank hc)
    have hwd : wordAt s (skip s a) = c :: w' := by
      unfold wordAt
      rw [hsk, hd]
      exact tw_all hw.lets hn
    have hle : a + (c :: w').length ≤ s.length := by
      have := congrArg List.length hd
      simp only [List.length_drop, List.length_append] at this
      have hlt := (List.getElem?_eq_some_iff.1 h0).1
      omega
    obtain ⟨ts, h1, h2⟩ := ih (a := a + (c :: w').length) hle (by rw [← List.drop_drop, hd]; simp)
    refine ⟨(skip s a, wordAt s (skip s a)) :: ts, .word a c ts none (by rw [hsk]; exact h0) hc (by rw [hwd]; exact hw.good) ?_, by simp [hwd, h2]⟩
    rw [hwd, hsk]
    exact h1
  | sign c t l hl hb hs hn _ ih =>
    intro a ha hd
    have h0 := drop_get hd 0
    have hd1 := drop_get hd 1
    simp only [Nat.add_zero, List.getElem?_cons_zero] at h0
    simp only [List.getElem?_cons_succ] at hd1
    have hlt := (List.getElem?_eq_some_iff.1 h0).1
    have hsk := skip_none h0 hb
    have hsg : signAt s (skip s a) = [c] := by
      rw [hsk]
      exact signAt_one h0 (fun hh => hn hh.1 (by rw [← hd1]; exact hh.2))
    obtain ⟨ts, h1, h2⟩ := ih (a := a + 1) (by omega) (by rw [← List.drop_drop, hd]; rfl)
    refine ⟨(skip s a, signAt s (skip s a)) :: ts, .sign a c ts none (by rw [hsk]; exact h0) hl hs ?_, by simp [hsg, h2]⟩
    rw [hsg, hsk]
    exact h1
  | two t l _ ih =>
    intro a ha hd
    have h0 := drop_get hd 0
    have hd1 := drop_get hd 1
    simp only [Nat.add_zero, List.getElem?_cons_zero] at h0
    simp only [List.getElem?_cons_succ, List.getElem?_cons_zero] at hd1
    have hlt := (List.getElem?_eq_some_iff.1 hd1).1
    have hsk := skip_none h0 (by decide)
    have hsg : signAt s (skip s a) = [58, 58] := by
      rw [hsk]
      exact signAt_two h0 hd1
    obtain ⟨ts, h1, h2⟩ := ih (a := a + 2) (by omega) (by rw [← List.drop_drop, hd]; rfl)
    refine ⟨(skip s a, signAt s (skip s a)) :: ts, .sign a 58 ts none (by rw [hsk]; exact h0) (by decide) (by decide) ?_, by simp [hsg, h2]⟩
    rw [hsg, hsk]
    exact h1

/-! ### The words of a right grammar -/

/-- A right part, as the reader sees it. -/
structure PartOk (d : Bool) (p : Part) : Prop where
  word : WordOk p.2
  kind : p.1 = !isWord p.2
  ne : (p.2 == EMPTY) = false
  met : d = false → isWord p.2 = true ∨ isMeta p.2 = true

theorem inR_let {a b : Int} {s : Str} (h : inR a b s = true) (hab : ∀ c : UInt8, a ≤ (c.toNat : Int) → (c.toNat : Int) ≤ b → letB c = true) : ∀ c ∈ s, letB c = true := by
  intro c hc
  unfold inR at h
  rw [List.all_eq_true] at h
  have := h c hc
  simp only [Bool.and_eq_true, decide_eq_true_eq] at this
  exact hab c this.1 this.2

theorem within_let {a b : Int} {s : Str} (h : within a b s = true) (hab : ∀ c : UInt8, a ≤ (c.toNat : Int) → (c.toNat : Int) ≤ b → letB c = true) : s ≠ [] ∧ ∀ c ∈ s, letB c = true := by
  refine ⟨(within_len h).2, ?_⟩
  simp only [within, Bool.and_eq_true] at h
  exact inR_let h.1 hab

theorem low_let (c : UInt8) (h1 : (97 : Int) ≤ (c.toNat : Int)) (h2 : (c.toNat : Int) ≤ 122) : letB c = true := by
  simp [letB]; omega
theorem up_let (c : UInt8) (h1 : (65 : Int) ≤ (c.toNat : Int)) (h2 : (c.toNat : Int) ≤ 90) : letB c = true := by
  simp [letB]; omega

theorem isWord_ok {s : Str} (h : isWord s = true) : WordOk s := by
  obtain ⟨h1, h2⟩ := within_let h low_let
  exact ⟨h1, h2, by simp [badWord, h]⟩

theorem up_not_word {s : Str} (hne : s ≠ []) (h : ∀ c ∈ s.head?, (c.toNat : Int) ≤ 90) : isWord s = false := by
  cases s with
  | nil => exact absurd rfl hne
  | cons c s =>
    have := h c (by simp)
    simp only [isWord, within, inR, List.all_cons]
    rw [decide_eq_false (by omega)]
    simp

theorem up_within {s : Str} (h : within 65 90 s = true) : ∀ c ∈ s, (65 : Int) ≤ (c.toNat : Int) ∧ (c.toNat : Int) ≤ 90 := by
  intro c hc
  simp only [within, Bool.and_eq_true, inR, List.all_eq_true] at h
  have := h.1 c hc
  simpa using this

theorem isMeta_within {s : Str} (h : isMeta s = true) : within 65 90 s = true := by
  simp only [isMeta, Bool.and_eq_true] at h
  exact h.2

theorem meta_digit {s : Str} (h : isMeta s = true) : digitEnd s = false := by
  unfold digitEnd
  cases hl : s.getLast? with
  | none => rfl
  | some c =>
    have := up_within (isMeta_within h) c (List.mem_of_getLast? hl)
    simp
    omega

theorem isMeta_ok {s : Str} (h : isMeta s = true) : WordOk s ∧ isWord s = false ∧ (s == EMPTY) = false := by
  obtain ⟨h1, h2⟩ := within_let (isMeta_within h) up_let
  have hu := up_within (isMeta_within h)
  have hp : isParam s = true := by simp [isParam, metaOf, meta_digit h, h]
  refine ⟨⟨h1, h2, by simp [badWord, hp]⟩, up_not_word h1 fun c hc => (hu c (List.mem_of_mem_head? hc)).2, ?_⟩
  simp only [isMeta, Bool.and_eq_true, Bool.not_eq_true'] at h
  exact h.1

theorem isParam_ok {s : Str} (h : isParam s = true) : WordOk s ∧ isWord s = false ∧ (s == EMPTY) = false := by
  cases hd : digitEnd s with
  | false =>
    refine isMeta_ok ?_
    simpa [isParam, metaOf, hd] using h
  | true =>
    have hm : isMeta s.dropLast = true := by simpa [isParam, metaOf, hd] using h
    obtain ⟨h1, h2⟩ := within_let (isMeta_within hm) up_let
    have hu := up_within (isMeta_within hm)
    obtain ⟨c, hc⟩ : ∃ c, s.getLast? = some c := by
      cases hl : s.getLast? with
      | none => simp [digitEnd, hl] at hd
      | some c => exact ⟨c, rfl⟩
    have hcd : (49 : Int) ≤ (c.toNat : Int) ∧ (c.toNat : Int) ≤ 57 := by
      simp only [digitEnd, hc, Bool.and_eq_true, decide_eq_true_eq] at hd
      omega
    have hs : s = s.dropLast ++ [c] := by
      have hne : s ≠ [] := fun e => by subst e; cases hc
      have := List.dropLast_concat_getLast hne
      rw [List.getLast?_eq_some_getLast hne] at hc
      rw [← Option.some.inj hc]
      exact this.symm
    have hlet : ∀ x ∈ s, letB x = true := by
      rw [hs]
      intro x hx
      rcases List.mem_append.1 hx with hx | hx
      · exact h2 x hx
      · simp at hx; subst hx; simp [letB]; omega
    have hne : s ≠ [] := by rw [hs]; simp
    refine ⟨⟨hne, hlet, by simp [badWord, h]⟩, up_not_word hne fun x hx => ?_, ?_⟩
    · cases hdl : s.dropLast with
      | nil => exact absurd hdl h1
      | cons y ys =>
        rw [hs, hdl] at hx
        simp at hx
        subst hx
        exact (hu y (by simp [hdl])).2
    · rw [beq_eq_false_iff_ne]
      intro e
      rw [e] at hd
      cases hd

theorem partOk_of {d : Bool} {p : Part} (h : badPart d p = false) : PartOk d p := by
  unfold badPart at h
  cases hp : p.1 with
  | false =>
    have hw : isWord p.2 = true := by simpa [hp] using h
    refine ⟨isWord_ok hw, by simp [hp, hw], ?_, fun _ => .inl hw⟩
    rw [beq_eq_false_iff_ne]
    intro e
    rw [e] at hw
    cases hw
  | true =>
    simp [hp] at h
    cases hm : isMeta p.2 with
    | true =>
      obtain ⟨h1, h2, h3⟩ := isMeta_ok hm
      exact ⟨h1, by simp [hp, h2], h3, fun _ => .inr hm⟩
    | false =>
      obtain ⟨hd, hq⟩ := h hm
      obtain ⟨h1, h2, h3⟩ := isParam_ok hq
      exact ⟨h1, by simp [hp, h2], h3, fun h0 => by rw [hd] at h0; cases h0⟩

structure GoodG (g : Gram) : Prop where
  names : ∀ m ∈ g.1.2, isMeta m.1 = true
  alts : ∀ m ∈ g.1.2, m.2.2 ≠ []
  metas : ∀ m ∈ g.1.2, ∀ l ∈ m.2.2, ∀ p ∈ l.2, PartOk false p
  rules : ∀ r ∈ g.2.2, ∀ l ∈ ruleAll r, l.2 ≠ [] ∧ ∀ p ∈ l.2, PartOk true p

theorem bk_metas_good : ∀ (ms : List Meta19) (seen : List Str), metasErr ms seen = 0 → ∀ m ∈ ms, isMeta m.1 = true ∧ m.2.2 ≠ [] ∧ ∀ l ∈ m.2.2, ∀ p ∈ l.2, PartOk false p
  | [], _, _, m, hm => by simp at hm
  | a :: ms, seen, h, m, hm => by
    simp only [metasErr] at h
    split at h
    · omega
    · rename_i hM
      split at h
      · omega
      · split at h
        · omega
        · rename_i hL
          split at h
          · omega
          · rename_i hB
            rcases List.mem_cons.1 hm with rfl | hm
            · refine ⟨by simpa using hM, fun e => hL (by simp [e]), fun l hl p hp => ?_⟩
              have hB' : (m.2.2.any (badL false)) = false := Bool.eq_false_iff.2 hB
              have h2 := Bool.eq_false_iff.2 (List.any_eq_false.1 hB' l hl)
              unfold badL at h2
              exact partOk_of (Bool.eq_false_iff.2 (List.any_eq_false.1 h2 p hp))
            · exact bk_metas_good ms _ h m hm

theorem bk_lists_good : ∀ (ls : List (Sl Part)), listsErr ls = 0 → ∀ l ∈ ls, l.2 ≠ [] ∧ ∀ p ∈ l.2, PartOk true p
  | [], _, l, hl => by simp at hl
  | a :: ls, h, l, hl => by
    simp only [listsErr] at h
    split at h
    · omega
    · rename_i hn
      split at h
      · omega
      · rename_i hb
        rcases List.mem_cons.1 hl with rfl | hl
        · refine ⟨fun e => hn (by simp [e]), fun p hp => ?_⟩
          have h2 := Bool.eq_false_iff.2 hb
          unfold badL at h2
          exact partOk_of (Bool.eq_false_iff.2 (List.any_eq_false.1 h2 p hp))
        · exact bk_lists_good ls h l hl

theorem bk_rules_good : ∀ (rs : List Rule19), rulesErr rs = 0 → ∀ r ∈ rs, ∀ l ∈ ruleAll r, l.2 ≠ [] ∧ ∀ p ∈ l.2, PartOk true p
  | [], _, r, hr => by simp at hr
  | a :: rs, h, r, hr => by
    simp only [rulesErr] at h
    split at h
    · rename_i h0
      rcases List.mem_cons.1 hr with rfl | hr
      · exact bk_lists_good _ h0
      · exact bk_rules_good rs h r hr
    · omega

theorem good_of_check {g : Gram} (h : checkG g = 0) : GoodG g := by
  unfold checkG at h
  split at h
  · omega
  · split at h
    · rename_i hM
      split at h
      · rename_i hR
        have hm := bk_metas_good _ _ hM
        exact ⟨fun m hmm => (hm m hmm).1, fun m hmm => (hm m hmm).2.1, fun m hmm => (hm m hmm).2.2, bk_rules_good _ hR⟩
      · rename_i hR; exact absurd h hR
    · rename_i hM; exact absurd h hM

/-! ### The tokens of the form -/

def toksL (l : Sl Part) : List Str := if l.2 = [] then [EMPTY] else l.2.map (·.2)
def sepT (sep : Str) : List (List Str) → List Str
  | [] => []
  | [x] => x
  | x :: xs => x ++ [sep] ++ sepT sep xs
def toksM (m : Meta19) : List Str := m.1 :: [58, 58] :: (sepT [59] (m.2.2.map toksL) ++ [[46]])
def toksR (r : Rule19) : List Str := r.1.2.map (·.2) ++ [58] :: ((if r.2.2 = [] then [EMPTY] else sepT [44] (r.2.2.map fun l => l.2.map (·.2))) ++ [[46]])
def toksG (g : Gram) : List Str := (g.1.2.map toksM).flatten ++ (g.2.2.map toksR).flatten

theorem noLet_blank {c : UInt8} {t : Str} (h : letB c = false) : noLet (c :: t) := fun d hd => by
  simp at hd
  subst hd
  exact h

/-- Words with blanks between. -/
theorem tk_words : ∀ (ws : List Str) {t : Str} {l : List Str}, ws ≠ [] → (∀ w ∈ ws, WordOk w) → noLet t → Tk t l → Tk (joinB [32] ws ++ t) (ws ++ l)
  | [], _, _, h, _, _, _ => absurd rfl h
  | [w], t, l, _, hw, hn, ht => .word w t l (hw w (by simp)) hn ht
  | w :: v :: r, t, l, _, hw, hn, ht => by
    have ih := tk_words (v :: r) (by simp) (fun x hx => hw x (by simp [hx])) hn ht
    have : joinB [32] (w :: v :: r) ++ t = w ++ (32 :: (joinB [32] (v :: r) ++ t)) := by simp [joinB]
    rw [this]
    exact .word w _ _ (hw w (by simp)) (noLet_blank (by decide)) (.blank 32 _ _ (by decide) ih)

theorem empty_ok : WordOk EMPTY := ⟨by decide, by decide, by decide⟩

theorem tk_list {d : Bool} {lst : Sl Part} (h : ∀ p ∈ lst.2, PartOk d p) {t : Str} {l : List Str} (hn : noLet t) (ht : Tk t l) : Tk (orE (txtP lst.2) ++ t) (toksL lst ++ l) := by
  unfold toksL
  by_cases he : lst.2 = []
  · rw [if_pos he, he]
    exact .word EMPTY t l empty_ok hn ht
  · rw [if_neg he, orE_ne (s := txtP lst.2) (joinB_ne (by simpa using he) (fun x hx => by
      obtain ⟨p, hp, rfl⟩ := List.mem_map.1 hx
      exact (h p hp).word.ne))]
    exact tk_words _ (by simpa using he) (fun w hw => by
      obtain ⟨p, hp, rfl⟩ := List.mem_map.1 hw
      exact (h p hp).word) hn ht

theorem tk_sep {α : Type} {sep : Str} {c : UInt8} {f : α → Str} {tok : α → List Str} (hsep : ∀ t l, Tk t l → Tk (sep ++ t) ([c] :: l)) (hno : ∀ t, noLet (sep ++ t)) :
    ∀ (xs : List α) {t : Str} {l : List Str}, xs ≠ [] → (∀ x ∈ xs, ∀ (t : Str) (l : List Str), noLet t → Tk t l → Tk (f x ++ t) (tok x ++ l)) → noLet t → Tk t l → Tk (joinB sep (xs.map f) ++ t) (sepT [c] (xs.map tok) ++ l)
  | [], _, _, h, _, _, _ => absurd rfl h
  | [x], t, l, _, hx, hn, ht => hx x (by simp) t l hn ht
  | x :: y :: r, t, l, _, hx, hn, ht => by
    have ih := tk_sep hsep hno (y :: r) (by simp) (fun z hz => hx z (by simp [hz])) hn ht
    have e1 : joinB sep ((x :: y :: r).map f) ++ t = f x ++ (sep ++ (joinB sep ((y :: r).map f) ++ t)) := by simp [joinB]
    have e2 : sepT [c] ((x :: y :: r).map tok) ++ l = tok x ++ ([c] :: (sepT [c] ((y :: r).map tok) ++ l)) := by simp [sepT]
    rw [e1, e2]
    exact hx x (by simp) _ _ (hno _) (hsep _ _ ih)

theorem tk_dot {t : Str} {l : List Str} (h : Tk t l) : Tk ([32, 46, 10] ++ t) ([46] :: l) :=
  .blank 32 _ _ (by decide) (.sign 46 _ _ (by decide) (by decide) (by decide) (fun h => by cases h) (.blank 10 _ _ (by decide) h))

theorem tk_meta {m : Meta19} (h1 : isMeta m.1 = true) (h2 : m.2.2 ≠ []) (h3 : ∀ l ∈ m.2.2, ∀ p ∈ l.2, PartOk false p) {t : Str} {l : List Str} (ht : Tk t l) : Tk (metaT m ++ t) (toksM m ++ l) := by
  have e1 : metaT m ++ t = m.1 ++ (32 :: 58 :: 58 :: 32 :: (joinB [32, 59, 32] (m.2.2.map fun l => orE (txtP l.2)) ++ ([32, 46, 10] ++ t))) := by simp [metaT]
  have e2 : toksM m ++ l = m.1 :: [58, 58] :: (sepT [59] (m.2.2.map toksL) ++ ([46] :: l)) := by simp [toksM]
  rw [e1, e2]
  refine .word _ _ _ (isMeta_ok h1).1 (noLet_blank (by decide)) (.blank 32 _ _ (by decide) (.two _ _ (.blank 32 _ _ (by decide) ?_)))
  refine tk_sep (fun t l ht => ?_) (fun t => noLet_blank (by decide)) m.2.2 h2 (fun x hx t l hn ht => tk_list (h3 x hx) hn ht) (noLet_blank (by decide)) (tk_dot ht)
  exact .blank 32 _ _ (by decide) (.sign 59 _ _ (by decide) (by decide) (by decide) (fun h => by cases h) (.blank 32 _ _ (by decide) ht))

theorem tk_some {lst : Sl Part} (h : lst.2 ≠ [] ∧ ∀ p ∈ lst.2, PartOk true p) {t : Str} {l : List Str} (hn : noLet t) (ht : Tk t l) : Tk (txtP lst.2 ++ t) (lst.2.map (·.2) ++ l) :=
  tk_words _ (by simpa using h.1) (fun w hw => by
    obtain ⟨p, hp, rfl⟩ := List.mem_map.1 hw
    exact (h.2 p hp).word) hn ht

theorem tk_rule {r : Rule19} (h : ∀ l ∈ ruleAll r, l.2 ≠ [] ∧ ∀ p ∈ l.2, PartOk true p) {t : Str} {l : List Str} (ht : Tk t l) : Tk (ruleT r ++ t) (toksR r ++ l) := by
  have e1 : ruleT r ++ t = txtP r.1.2 ++ (32 :: 58 :: 32 :: (orE (joinB [44, 32] (r.2.2.map fun l => txtP l.2)) ++ ([32, 46, 10] ++ t))) := by simp [ruleT]
  have e2 : toksR r ++ l = r.1.2.map (·.2) ++ ([58] :: ((if r.2.2 = [] then [EMPTY] else sepT [44] (r.2.2.map fun l => l.2.map (·.2))) ++ ([46] :: l))) := by simp [toksR]
  rw [e1, e2]
  refine tk_some (h r.1 (by simp [ruleAll])) (noLet_blank (by decide)) (.blank 32 _ _ (by decide) (.sign 58 _ _ (by decide) (by decide) (by decide) (fun _ => by simp) (.blank 32 _ _ (by decide) ?_)))
  have hr : ∀ x ∈ r.2.2, x.2 ≠ [] ∧ ∀ p ∈ x.2, PartOk true p := fun x hx => h x (by simp [ruleAll, hx])
  by_cases he : r.2.2 = []
  · rw [if_pos he, he]
    exact .word EMPTY _ _ empty_ok (noLet_blank (by decide)) (tk_dot ht)
  · rw [if_neg he, orE_ne (joinB_ne (by simpa using he) (fun x hx => by
      obtain ⟨q, hq, rfl⟩ := List.mem_map.1 hx
      exact joinB_ne (by simpa using (hr q hq).1) fun w hw => by
        obtain ⟨p, hp, rfl⟩ := List.mem_map.1 hw
        exact ((hr q hq).2 p hp).word.ne))]
    refine tk_sep (fun t l ht => ?_) (fun t => noLet_blank (by decide)) r.2.2 he (fun x hx t l hn ht => tk_some (hr x hx) hn ht) (noLet_blank (by decide)) (tk_dot ht)
    exact .sign 44 _ _ (by decide) (by decide) (by decide) (fun h => by cases h) (.blank 32 _ _ (by decide) ht)

theorem tk_flat {α : Type} {f : α → Str} {tok : α → List Str} : ∀ (xs : List α) {t : Str} {l : List Str}, (∀ x ∈ xs, ∀ (t : Str) (l : List Str), Tk t l → Tk (f x ++ t) (tok x ++ l)) → Tk t l → Tk ((xs.map f).flatten ++ t) ((xs.map tok).flatten ++ l)
  | [], _, _, _, ht => ht
  | x :: xs, t, l, h, ht => by
    simp only [List.map_cons, List.flatten_cons, List.append_assoc]
    exact h x (by simp) _ _ (tk_flat xs (fun y hy => h y (by simp [hy])) ht)

theorem tk_form {g : Gram} (h : GoodG g) : Tk (formG g) (toksG g) := by
  have h2 := tk_flat (f := ruleT) (tok := toksR) g.2.2 (fun r hr t l ht => tk_rule (h.rules r hr) ht) Tk.nil
  simp only [List.append_nil] at h2
  exact tk_flat g.1.2 (fun m hm t l ht => tk_meta (h.names m hm) (h.alts m hm) (h.metas m hm) ht) h2

/-! ### What the reader makes of them -/

def isPw (w : Str) : Bool := match w with
  | c :: _ => letB c
  | [] => false

/-- No part is next. -/
def stopL (l : List Str) : Prop := ∀ w, l.head? = some w → isPw w = false

theorem goF_none (ts : List Tok) : goF none ts = .ok ts := by cases ts <;> rfl

theorem isP_pw (t : Tok) : isP t = isPw t.2 := rfl

theorem word_pw {w : Str} (h : WordOk w) : isPw w = true := by
  cases w with
  | nil => exact absurd rfl h.ne
  | cons c w => exact h.lets c (by simp)

theorem map_cons_inv {ts : List Tok} {w : Str} {l : List Str} (h : ts.map (·.2) = w :: l) : ∃ t ts', ts = t :: ts' ∧ t.2 = w ∧ ts'.map (·.2) = l := by
  cases ts with
  | nil => simp at h
  | cons t ts => simp at h; exact ⟨t, ts, rfl, h.1, h.2⟩

theorem stop_part {ts : List Tok} {l : List Str} (h : ts.map (·.2) = l) (hs : stopL l) : isPart ts = false := by
  cases ts with
  | nil => rfl
  | cons t ts => exact hs t.2 (by rw [← h]; rfl)

theorem sgn_at {ts : List Tok} {w : Str} {l : List Str} (h : ts.map (·.2) = w :: l) (hw : isPw w = false) : sgn ts = w := by
  obtain ⟨t, ts', rfl, rfl, _⟩ := map_cons_inv h
  simp [sgn, isP_pw, hw]

theorem parts_run {d : Bool} : ∀ (ps : List Part) (ts : List Tok) {l : List Str}, (∀ p ∈ ps, PartOk d p) → stopL l → ts.map (·.2) = ps.map (·.2) ++ l → ∃ ts', ts'.map (·.2) = l ∧ partsF none d ts = .ok (ps, ts')
  | [], ts, l, _, hs, h => by
    simp only [List.map_nil, List.nil_append] at h
    cases ts with
    | nil => exact ⟨[], h, rfl⟩
    | cons t ts =>
      have : isP t = false := hs t.2 (by rw [← h]; rfl)
      exact ⟨t :: ts, h, by simp [partsF, this]⟩
  | p :: ps, ts, l, hp, hs, h => by
    obtain ⟨t, ts1, rfl, ht, h1⟩ := map_cons_inv h
    obtain ⟨ts', e1, e2⟩ := parts_run ps ts1 (fun q hq => hp q (by simp [hq])) hs h1
    have hk := hp p (by simp)
    have hP : isP t = true := by rw [isP_pw, ht]; exact word_pw hk.word
    refine ⟨ts', e1, ?_⟩
    have hmet : (!isWord t.2 && (!d && !isMeta t.2)) = false := by
      rw [ht]
      cases d with
      | true => simp
      | false => rcases hk.met rfl with h | h <;> simp [h]
    have hne : (t.2 == EMPTY) = false := by rw [ht]; exact hk.ne
    have hkind : ((!isWord t.2, t.2) : Part) = p := by rw [ht, ← hk.kind]
    simp only [partsF, hP, if_true, hne, Bool.false_eq_true, if_false, hmet, goF_none, e2, Except.bind, hkind]

theorem some_run {s : Str} {d : Bool} {ps : List Part} {ts : List Tok} {l : List Str} (hne : ps ≠ []) (hp : ∀ p ∈ ps, PartOk d p) (hs : stopL l) (h : ts.map (·.2) = ps.map (·.2) ++ l) : ∃ ts', ts'.map (·.2) = l ∧ someF s none d ts = .ok (ps, ts') := by
  obtain ⟨ts', e1, e2⟩ := parts_run ps ts hp hs h
  exact ⟨ts', e1, by simp [someF, e2, Except.bind, hne]⟩

theorem alt_run {s : Str} {lst : Sl Part} {ts : List Tok} {l : List Str} (hp : ∀ p ∈ lst.2, PartOk false p) (hs : stopL l) (h : ts.map (·.2) = toksL lst ++ l) : ∃ ts', ts'.map (·.2) = l ∧ altF s none false ts = .ok (lst.2, ts') := by
  unfold toksL at h
  by_cases he : lst.2 = []
  · rw [if_pos he] at h
    obtain ⟨t, ts1, rfl, ht, h1⟩ := map_cons_inv h
    have hP : isP t = true := by rw [isP_pw, ht]; rfl
    refine ⟨ts1, h1, ?_⟩
    simp only [altF, hP, ht, BEq.rfl, Bool.and_self, if_true, goF_none, Except.bind, stop_part h1 hs, Bool.false_eq_true, if_false, he]
  · rw [if_neg he] at h
    obtain ⟨ts', e1, e2⟩ := some_run (s := s) he hp hs h
    refine ⟨ts', e1, ?_⟩
    cases hl : lst.2 with
    | nil => exact absurd hl he
    | cons p ps =>
      rw [hl] at h e2
      obtain ⟨t, ts1, rfl, ht, h1⟩ := map_cons_inv h
      have hk := hp p (by simp [hl])
      have hne : (t.2 == EMPTY) = false := by rw [ht]; exact hk.ne
      simp only [altF, hne, Bool.and_false, Bool.false_eq_true, if_false]
      exact e2

theorem len_map {ts : List Tok} {l : List Str} (h : ts.map (·.2) = l) : ts.length = l.length := by rw [← h]; simp

theorem meta_run {s : Str} : ∀ (ls : List (Sl Part)) (n : Nat) (t0 : Tok) (ts : List Tok) {l : List Str}, ls ≠ [] → (∀ x ∈ ls, ∀ p ∈ x.2, PartOk false p) → ts.map (·.2) = sepT [59] (ls.map toksL) ++ [46] :: l → ts.length < n →
    ∃ ts', ts'.map (·.2) = [46] :: l ∧ metaF s none n (t0 :: ts) = .ok (ls.map (·.2), ts')
  | [], _, _, _, _, h, _, _, _ => absurd rfl h
  | [x], n, t0, ts, l, _, hx, h, hn => by
    obtain ⟨n, rfl⟩ : ∃ m, n = m + 1 := ⟨n - 1, by omega⟩
    obtain ⟨ts', e1, e2⟩ := alt_run (s := s) (hx x (by simp)) (fun w hw => by simp at hw; subst hw; rfl) h
    refine ⟨ts', e1, ?_⟩
    have hsg := sgn_at e1 rfl
    simp only [metaF, goF_none, e2, Except.bind, hsg]
    rfl
  | x :: y :: r, n, t0, ts, l, _, hx, h, hn => by
    obtain ⟨n, rfl⟩ : ∃ m, n = m + 1 := ⟨n - 1, by omega⟩
    have e0 : sepT [59] ((x :: y :: r).map toksL) ++ [46] :: l = toksL x ++ [59] :: (sepT [59] ((y :: r).map toksL) ++ [46] :: l) := by simp [sepT]
    rw [e0] at h
    obtain ⟨ts1, e1, e2⟩ := alt_run (s := s) (hx x (by simp)) (fun w hw => by simp at hw; subst hw; rfl) h
    have hsg := sgn_at e1 rfl
    obtain ⟨t1, ts2, rfl, ht1, e3⟩ := map_cons_inv e1
    have l1 := len_map h
    have l2 := len_map e3
    simp only [List.length_append, List.length_cons] at l1 l2
    obtain ⟨ts', e4, e5⟩ := meta_run (s := s) (y :: r) n t1 ts2 (by simp) (fun z hz => hx z (by simp [hz])) e3 (by omega)
    refine ⟨ts', e4, ?_⟩
    have : ([59] == ([59] : Str)) = true := rfl
    simp only [metaF, goF_none, e2, Except.bind, hsg, this, if_true, e5]
    rfl

theorem right_run {s : Str} : ∀ (ls : List (Sl Part)) (n : Nat) (ts : List Tok) {l : List Str}, ls ≠ [] → (∀ x ∈ ls, x.2 ≠ [] ∧ ∀ p ∈ x.2, PartOk true p) → ts.map (·.2) = sepT [44] (ls.map fun x => x.2.map (·.2)) ++ [46] :: l → ts.length ≤ n →
    ∃ ts', ts'.map (·.2) = [46] :: l ∧ rightF s none n ts = .ok (ls.map (·.2), ts')
  | [], _, _, _, h, _, _, _ => absurd rfl h
  | [x], n, ts, l, _, hx, h, hn => by
    have l1 := len_map h
    simp only [List.length_append, List.length_cons] at l1
    obtain ⟨n, rfl⟩ : ∃ m, n = m + 1 := ⟨n - 1, by omega⟩
    obtain ⟨ts', e1, e2⟩ := some_run (s := s) (hx x (by simp)).1 (hx x (by simp)).2 (fun w hw => by simp at hw; subst hw; rfl) h
    refine ⟨ts', e1, ?_⟩
    have hsg := sgn_at e1 rfl
    simp only [rightF, e2, Except.bind, hsg]
    rfl
  | x :: y :: r, n, ts, l, _, hx, h, hn => by
    have e0 : sepT [44] ((x :: y :: r).map fun x => x.2.map (·.2)) ++ [46] :: l = x.2.map (·.2) ++ [44] :: (sepT [44] ((y :: r).map fun x => x.2.map (·.2)) ++ [46] :: l) := by simp [sepT]
    rw [e0] at h
    have l1 := len_map h
    simp only [List.length_append, List.length_cons, List.length_map] at l1
    obtain ⟨n, rfl⟩ : ∃ m, n = m + 1 := ⟨n - 1, by omega⟩
    obtain ⟨ts1, e1, e2⟩ := some_run (s := s) (hx x (by simp)).1 (hx x (by simp)).2 (fun w hw => by simp at hw; subst hw; rfl) h
    have hsg := sgn_at e1 rfl
    obtain ⟨t1, ts2, rfl, ht1, e3⟩ := map_cons_inv e1
    have l2 := len_map e3
    simp only [List.length_append, List.length_cons] at l2
    obtain ⟨ts', e4, e5⟩ := right_run (s := s) (y :: r) n ts2 (by simp) (fun z hz => hx z (by simp [hz])) e3 (by omega)
    refine ⟨ts', e4, ?_⟩
    have : ([44] == ([44] : Str)) = true := rfl
    simp only [rightF, goF_none, e2, Except.bind, hsg, this, if_true, List.tail_cons, e5]
    rfl

theorem rules_run {s : Str} {ls : List (Sl Part)} {n : Nat} {t0 : Tok} {ts : List Tok} {l : List Str} (hx : ∀ x ∈ ls, x.2 ≠ [] ∧ ∀ p ∈ x.2, PartOk true p) (h : ts.map (·.2) = (if ls = [] then [EMPTY] else sepT [44] (ls.map fun x => x.2.map (·.2))) ++ [46] :: l) (hn : ts.length < n) :
    ∃ ts', ts'.map (·.2) = [46] :: l ∧ rulesF s none n (t0 :: ts) = .ok ([ls.map (·.2)], ts') := by
  obtain ⟨n, rfl⟩ : ∃ m, n = m + 1 := ⟨n - 1, by omega⟩
  have side : ∃ ts', ts'.map (·.2) = [46] :: l ∧ sideF s none n ts = .ok (ls.map (·.2), ts') := by
    by_cases he : ls = []
    · rw [if_pos he] at h
      obtain ⟨t, ts1, rfl, ht, h1⟩ := map_cons_inv h
      have hP : isP t = true := by rw [isP_pw, ht]; rfl
      have hst := stop_part h1 (fun w hw => by simp at hw; subst hw; rfl)
      have hsg := sgn_at h1 rfl
      refine ⟨ts1, h1, ?_⟩
      have : ([46] == ([44] : Str)) = false := rfl
      simp only [sideF, hP, ht, BEq.rfl, Bool.and_self, if_true, goF_none, Except.bind, hst, hsg, this, Bool.or_self, Bool.false_eq_true, if_false, he, List.map_nil]
    · rw [if_neg he] at h
      obtain ⟨ts', e1, e2⟩ := right_run (s := s) ls n ts he hx h (by omega)
      refine ⟨ts', e1, ?_⟩
      cases ls with
      | nil => exact absurd rfl he
      | cons x r =>
        obtain ⟨hx1, hx2⟩ := hx x (by simp)
        cases hl : x.2 with
        | nil => exact absurd hl hx1
        | cons p ps =>
          have : ∃ l', sepT [44] ((x :: r).map fun x => x.2.map (·.2)) ++ [46] :: l = p.2 :: l' := by
            cases r with
            | nil => exact ⟨_, by simp [sepT, hl]; rfl⟩
            | cons y r => exact ⟨_, by simp [sepT, hl]; rfl⟩
          obtain ⟨l', hl'⟩ := this
          rw [hl'] at h
          obtain ⟨t, ts1, rfl, ht, h1⟩ := map_cons_inv h
          have hne : (t.2 == EMPTY) = false := by rw [ht]; exact (hx2 p (by simp [hl])).ne
          simp only [sideF, hne, Bool.and_false, Bool.false_eq_true, if_false]
          exact e2
  obtain ⟨ts', e1, e2⟩ := side
  refine ⟨ts', e1, ?_⟩
  have hsg := sgn_at e1 rfl
  simp only [rulesF, goF_none, e2, Except.bind, hsg]
  rfl

def toP (m : Meta19) : PMeta := (m.1, m.2.2.map (·.2))
def toR (r : Rule19) : PRule := (r.1.2, r.2.2.map (·.2))

theorem gram_metas {s : Str} : ∀ (ms : List Meta19) (n : Nat) (acc : List PMeta) (ts : List Tok) {l : List Str}, (∀ m ∈ ms, isMeta m.1 = true ∧ m.2.2 ≠ [] ∧ ∀ l ∈ m.2.2, ∀ p ∈ l.2, PartOk false p) → ts.map (·.2) = (ms.map toksM).flatten ++ l → ts.length < n →
    ∃ ts' n', ts'.map (·.2) = l ∧ ts'.length < n' ∧ gramF s none n acc [] ts = gramF s none n' (acc ++ ms.map toP) [] ts'
  | [], n, acc, ts, l, _, h, hn => ⟨ts, n, h, hn, by simp⟩
  | m :: ms, n, acc, ts, l, hm, h, hn => by
    obtain ⟨n, rfl⟩ : ∃ k, n = k + 1 := ⟨n - 1, by omega⟩
    obtain ⟨h1, h2, h3⟩ := hm m (by simp)
    have e0 : ((m :: ms).map toksM).flatten ++ l = m.1 :: ([58, 58] :: (sepT [59] (m.2.2.map toksL) ++ [46] :: ((ms.map toksM).flatten ++ l))) := by simp [toksM]
    rw [e0] at h
    have hl0 := len_map h
    simp only [List.length_cons, List.length_append] at hl0
    obtain ⟨q1, q2, q3⟩ := isMeta_ok h1
    have hpk : PartOk true (true, m.1) := ⟨q1, by simp [q2], q3, fun h => by cases h⟩
    obtain ⟨tsA, a1, a2⟩ := parts_run (d := true) [(true, m.1)] ts (fun p hp => by simp at hp; subst hp; exact hpk) (l := [58, 58] :: (sepT [59] (m.2.2.map toksL) ++ [46] :: ((ms.map toksM).flatten ++ l))) (fun w hw => by simp at hw; subst hw; rfl) h
    have hsg := sgn_at a1 rfl
    obtain ⟨tA, tsB, rfl, htA, b1⟩ := map_cons_inv a1
    have hlB := len_map b1
    simp only [List.length_cons, List.length_append] at hlB
    obtain ⟨tsC, c1, c2⟩ := meta_run (s := s) m.2.2 n tA tsB h2 h3 b1 (by omega)
    have hsg2 := sgn_at c1 rfl
    obtain ⟨tC, tsD, rfl, htC, d1⟩ := map_cons_inv c1
    have hlD := len_map d1
    simp only [List.length_append] at hlD
    obtain ⟨ts', n', e1, e2, e3⟩ := gram_metas (s := s) ms n (acc ++ [toP m]) tsD (fun x hx => hm x (by simp [hx])) d1 (by omega)
    refine ⟨ts', n', e1, e2, ?_⟩
    obtain ⟨t, ts1, rfl, ht, _⟩ := map_cons_inv h
    have hr : isRuleM [] [(true, m.1)] (tA :: tsB) = true := by simp [isRuleM, hsg, h1]
    have hdot : ([46] == ([46] : Str)) = true := rfl
    simp only [gramF, a2, Except.bind, hr, if_true, c2, hsg2, hdot, goF_none, List.tail_cons]
    rw [show acc ++ (m :: ms).map toP = acc ++ [toP m] ++ ms.map toP by simp]
    exact e3

theorem gram_rules {s : Str} : ∀ (rs : List Rule19) (n : Nat) (ms : List PMeta) (acc : List PRule) (ts : List Tok), (∀ r ∈ rs, ∀ l ∈ ruleAll r, l.2 ≠ [] ∧ ∀ p ∈ l.2, PartOk true p) → ts.map (·.2) = (rs.map toksR).flatten → ts.length < n →
    gramF s none n ms acc ts = .ok (ms, acc ++ rs.map toR)
  | [], n, ms, acc, ts, _, h, hn => by
    obtain ⟨n, rfl⟩ : ∃ k, n = k + 1 := ⟨n - 1, by omega⟩
    have : ts = [] := by simpa using h
    subst this
    simp [gramF]
  | r :: rs, n, ms, acc, ts, hr, h, hn => by
    obtain ⟨n, rfl⟩ : ∃ k, n = k + 1 := ⟨n - 1, by omega⟩
    have hall := hr r (by simp)
    have e0 : ((r :: rs).map toksR).flatten = r.1.2.map (·.2) ++ [58] :: ((if r.2.2 = [] then [EMPTY] else sepT [44] (r.2.2.map fun l => l.2.map (·.2))) ++ [46] :: (rs.map toksR).flatten) := by simp [toksR]
    rw [e0] at h
    have hl0 := len_map h
    simp only [List.length_cons, List.length_append] at hl0
    obtain ⟨h1, h2⟩ := hall r.1 (by simp [ruleAll])
    obtain ⟨tsA, a1, a2⟩ := parts_run (d := true) r.1.2 ts h2 (fun w hw => by simp at hw; subst hw; rfl) h
    have hsg := sgn_at a1 rfl
    obtain ⟨tA, tsB, rfl, htA, b1⟩ := map_cons_inv a1
    have hlB := len_map b1
    simp only [List.length_cons, List.length_append] at hlB
    obtain ⟨tsC, c1, c2⟩ := rules_run (s := s) (n := n) (t0 := tA) (fun x hx => hall x (by simp [ruleAll, hx])) b1 (by omega)
    have hsg2 := sgn_at c1 rfl
    obtain ⟨tC, tsD, rfl, htC, d1⟩ := map_cons_inv c1
    have hlD := len_map d1
    have ih := gram_rules (s := s) rs n ms (acc ++ [toR r]) tsD (fun x hx => hr x (by simp [hx])) d1 (by omega)
    have hts : ∃ t ts1, ts = t :: ts1 := by
      cases ts with
      | nil => simp at hl0
      | cons t ts1 => exact ⟨t, ts1, rfl⟩
    obtain ⟨t, ts1, rfl⟩ := hts
    have hnr : isRuleM acc r.1.2 (tA :: tsB) = false := by simp [isRuleM, hsg]
    have hne : r.1.2.isEmpty = false := by
      cases hl : r.1.2 with
      | nil => exact absurd hl h1
      | cons a b => rfl
    have hcol : ([58] == ([58] : Str)) = true := rfl
    have hdot : ([46] == ([46] : Str)) = true := rfl
    simp only [gramF, a2, Except.bind, hnr, Bool.false_eq_true, if_false, hsg, hcol, hne, Bool.not_false, Bool.and_self, if_true, c2, hsg2, hdot, goF_none, List.tail_cons]
    rw [show acc ++ (r :: rs).map toR = acc ++ [toR r] ++ rs.map toR by simp]
    exact ih

theorem mkGram_ref (g : Gram) : mkGram (g.1.2.map toP) (g.2.2.map toR) = refGram g := by
  have h1 : ∀ m, mkMeta (toP m) = refMeta m := fun m => by
    show (m.1, mkLists (m.2.2.map (·.2))) = (m.1, refLists m.2)
    congr 1
    show reK ((m.2.2.map (·.2)).map reK) = reK (m.2.2.map refParts)
    rw [List.map_map]
    rfl
  have h2 : ∀ r, mkRule (toR r) = refRule r := fun r => by
    show (reK r.1.2, mkLists (r.2.2.map (·.2))) = (refParts r.1, refLists r.2)
    congr 1
    show reK ((r.2.2.map (·.2)).map reK) = reK (r.2.2.map refParts)
    rw [List.map_map]
    rfl
  show (reK ((g.1.2.map toP).map mkMeta), reK ((g.2.2.map toR).map mkRule)) = (reK (g.1.2.map refMeta), reK (g.2.2.map refRule))
  rw [List.map_map, List.map_map]
  congr 2
  · exact congrArg (fun f => g.1.2.map f) (funext h1)
  · exact congrArg (fun f => g.2.2.map f) (funext h2)

/-- What is written is read: the tokens, and what reading gives. -/
theorem read_form {g : Gram} (h : checkG g = 0) : ∃ ts, Lex (formG g) 0 ts none ∧ ∀ n, ts.length < n → readF (formG g) none n ts = .ok (g.1.2.map toP, g.2.2.map toR) := by
  have hg := good_of_check h
  obtain ⟨ts, h1, h2⟩ := (tk_form hg).lex (s := formG g) (a := 0) (Nat.zero_le _) rfl
  refine ⟨ts, h1, fun n hn => ?_⟩
  obtain ⟨ts', n', e1, e2, e3⟩ := gram_metas (s := formG g) g.1.2 n [] ts (fun m hm => ⟨hg.names m hm, hg.alts m hm, hg.metas m hm⟩) h2 hn
  have e4 := gram_rules (s := formG g) g.2.2 n' ([] ++ g.1.2.map toP) [] ts' hg.rules e1 e2
  have hck : checkG (mkGram (g.1.2.map toP) (g.2.2.map toR)) = 0 := by rw [mkGram_ref, checkG_ref]; exact h
  simp only [List.nil_append] at e3 e4
  simp only [readF, goF_none, Except.bind, e3, e4, hck, if_true]

end Go.Proofs.YtiniifbmeobmgaaGreatDoor
