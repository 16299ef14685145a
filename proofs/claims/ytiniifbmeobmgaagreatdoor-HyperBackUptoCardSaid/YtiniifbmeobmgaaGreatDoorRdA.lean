/- The form of a grammar: its tokens, and what reading them gives (no program in it); the reader's variable. -/
import Derived.Test.YtiniifbmeobmgaaGreatDoorSpcD
import Derived.Test.YtiniifbmeobmgaaGreatDoorSpcU
set_option linter.unusedVariables false
set_option linter.unusedSimpArgs false
namespace Go.Proofs.YtiniifbmeobmgaaGreatDoor
open Go Go.Abs

def blankB (c : UInt8) : Bool := c == 9 || (c == 10 || c == 32)
def letB (c : UInt8) : Bool := decide ((c.toNat : Int) ≥ 97) && decide ((c.toNat : Int) ≤ 122) || decide ((c.toNat : Int) ≥ 65) && decide ((c.toNat : Int) ≤ 90) || decide ((c.toNat : Int) ≥ 49) && decide ((c.toNat : Int) ≤ 57)
def signB (c : UInt8) : Bool := c == 46 || (c == 58 || (c == 59 || c == 44))
abbrev EMPTY : Str := [69, 77, 80, 84, 89]
def badWord (w : Str) : Bool := !(w == EMPTY) && (!isWord w && !isParam w)
abbrev Tok := Nat × Str
abbrev Flt := Nat × Int
def skip (s : Str) (a : Nat) : Nat := a + ((s.drop a).takeWhile blankB).length
def wordAt (s : Str) (p : Nat) : Str := (s.drop p).takeWhile letB
def signAt (s : Str) (p : Nat) : Str := if s[p]? = some 58 ∧ s[p + 1]? = some 58 then [58, 58] else match s[p]? with
  | some c => [c]
  | none => []

/-- The tokens of a text from a place on, up to the end or the first that is wrong. -/
inductive Lex (s : Str) : Nat → List Tok → Option Flt → Prop where
  | fin (a) : s.length = skip s a → Lex s a [] none
  | form (a c) : s[skip s a]? = some c → letB c = false → signB c = false → Lex s a [] (some (skip s a, 2))
  | name (a c) : s[skip s a]? = some c → letB c = true → badWord (wordAt s (skip s a)) = true → Lex s a [] (some (skip s a, 8))
  | word (a c ts f) : s[skip s a]? = some c → letB c = true → badWord (wordAt s (skip s a)) = false → Lex s (skip s a + (wordAt s (skip s a)).length) ts f → Lex s a ((skip s a, wordAt s (skip s a)) :: ts) f
  | sign (a c ts f) : s[skip s a]? = some c → letB c = false → signB c = true → Lex s (skip s a + (signAt s (skip s a)).length) ts f → Lex s a ((skip s a, signAt s (skip s a)) :: ts) f

theorem tw_lt {p : UInt8 → Bool} : ∀ {l : Str} {i : Nat}, i < (l.takeWhile p).length → ∃ c, l[i]? = some c ∧ p c = true
  | [], i, h => by simp at h
  | c :: l, i, h => by
    simp only [List.takeWhile_cons] at h
    split at h
    · rename_i hc
      cases i with
      | zero => exact ⟨c, rfl, hc⟩
      | succ i => exact tw_lt (l := l) (i := i) (by simpa using h)
    · simp at h

theorem tw_at {p : UInt8 → Bool} : ∀ {l : Str} {c : UInt8}, l[(l.takeWhile p).length]? = some c → p c = false
  | [], c, h => by simp at h
  | d :: l, c, h => by
    simp only [List.takeWhile_cons] at h
    cases hd : p d with
    | true => simp only [hd, if_true] at h; exact tw_at (l := l) (by simpa using h)
    | false => simp [hd] at h; rw [← h]; exact hd

theorem tw_le {p : UInt8 → Bool} (l : Str) : (l.takeWhile p).length ≤ l.length := by
  induction l with
  | nil => simp
  | cons c l ih => simp only [List.takeWhile_cons]; split <;> simp <;> omega

theorem tw_take {p : UInt8 → Bool} : ∀ (l : Str), l.take (l.takeWhile p).length = l.takeWhile p
  | [] => rfl
  | c :: l => by
    simp only [List.takeWhile_cons]
    split
    · simp [tw_take l]
    · rfl

theorem skip_lt {s : Str} {a i : Nat} (h : a + i < skip s a) : ∃ c, s[a + i]? = some c ∧ blankB c = true := by
  obtain ⟨c, h1, h2⟩ := tw_lt (l := s.drop a) (i := i) (p := blankB) (by unfold skip at h; omega)
  exact ⟨c, by rw [List.getElem?_drop] at h1; exact h1, h2⟩
theorem skip_at {s : Str} {a : Nat} {c : UInt8} (h : s[skip s a]? = some c) : blankB c = false :=
  tw_at (l := s.drop a) (p := blankB) (by rw [List.getElem?_drop]; exact h)
theorem skip_ge (s : Str) (a : Nat) : a ≤ skip s a := Nat.le_add_right _ _
theorem skip_le {s : Str} {a : Nat} (h : a ≤ s.length) : skip s a ≤ s.length := by
  have := tw_le (p := blankB) (s.drop a)
  simp only [List.length_drop] at this
  unfold skip
  omega
theorem word_lt {s : Str} {p i : Nat} (h : i < (wordAt s p).length) : ∃ c, s[p + i]? = some c ∧ letB c = true := by
  obtain ⟨c, h1, h2⟩ := tw_lt (l := s.drop p) (i := i) (p := letB) h
  exact ⟨c, by rw [List.getElem?_drop] at h1; exact h1, h2⟩
theorem word_at {s : Str} {p : Nat} {c : UInt8} (h : s[p + (wordAt s p).length]? = some c) : letB c = false :=
  tw_at (l := s.drop p) (p := letB) (by rw [List.getElem?_drop]; exact h)
theorem word_le {s : Str} {p : Nat} (h : p ≤ s.length) : p + (wordAt s p).length ≤ s.length := by
  have := tw_le (p := letB) (s.drop p)
  simp only [List.length_drop] at this
  unfold wordAt
  omega
theorem word_sub (s : Str) (p : Nat) : (s.take (p + (wordAt s p).length)).drop p = wordAt s p := by
  rw [List.drop_take, Nat.add_sub_cancel_left]
  exact tw_take _
theorem word_cons {s : Str} {p : Nat} {c : UInt8} (h : s[p]? = some c) (hc : letB c = true) : ∃ w, wordAt s p = c :: w := by
  unfold wordAt
  rw [drop_cons h, List.takeWhile_cons, if_pos hc]
  exact ⟨_, rfl⟩
theorem signAt_two {s : Str} {p : Nat} (h : s[p]? = some 58) (h2 : s[p + 1]? = some 58) : signAt s p = [58, 58] := by simp [signAt, h, h2]
theorem signAt_one {s : Str} {p : Nat} {c : UInt8} (h : s[p]? = some c) (h2 : ¬ (c = 58 ∧ s[p + 1]? = some 58)) : signAt s p = [c] := by
  unfold signAt
  rw [if_neg (fun hh => h2 ⟨by rw [h] at hh; exact Option.some.inj hh.1, hh.2⟩), h]
theorem sign_sub {s : Str} {p : Nat} {c : UInt8} (h : s[p]? = some c) : (s.take (p + (signAt s p).length)).drop p = signAt s p := by
  rw [List.drop_take, Nat.add_sub_cancel_left]
  by_cases h2 : c = 58 ∧ s[p + 1]? = some 58
  · obtain ⟨rfl, h2⟩ := h2
    rw [signAt_two h h2, drop_cons h, drop_cons h2]
    rfl
  · rw [signAt_one h h2, drop_cons h]
    rfl
theorem sign_cons {s : Str} {p : Nat} {c : UInt8} (h : s[p]? = some c) : ∃ w, signAt s p = c :: w := by
  by_cases h2 : c = 58 ∧ s[p + 1]? = some 58
  · obtain ⟨rfl, h2⟩ := h2
    exact ⟨_, signAt_two h h2⟩
  · exact ⟨_, signAt_one h h2⟩
theorem sign_le {s : Str} {p : Nat} {c : UInt8} (h : s[p]? = some c) : p + (signAt s p).length ≤ s.length := by
  have hp := (List.getElem?_eq_some_iff.1 h).1
  by_cases h2 : c = 58 ∧ s[p + 1]? = some 58
  · obtain ⟨rfl, h2⟩ := h2
    have := (List.getElem?_eq_some_iff.1 h2).1
    rw [signAt_two h h2]
    simp
    omega
  · rw [signAt_one h h2]
    simp
    omega

theorem lex_ex (s : Str) : ∀ (n a : Nat), a ≤ s.length → s.length - a ≤ n → ∃ ts f, Lex s a ts f := by
  intro n
  induction n with
  | zero =>
    intro a h1 h2
    refine ⟨[], none, .fin a ?_⟩
    have := skip_le h1
    have := skip_ge s a
    omega
  | succ n ih =>
    intro a h1 h2
    have hle := skip_le h1
    have hge := skip_ge s a
    cases hc : s[skip s a]? with
    | none =>
      have : s.length ≤ skip s a := by simpa using hc
      exact ⟨[], none, .fin a (by omega)⟩
    | some c =>
      have hlt := (List.getElem?_eq_some_iff.1 hc).1
      cases hl : letB c with
      | true =>
        cases hb : badWord (wordAt s (skip s a)) with
        | true => exact ⟨[], _, .name a c hc hl hb⟩
        | false =>
          obtain ⟨w, hw⟩ := word_cons hc hl
          have hw2 : 0 < (wordAt s (skip s a)).length := by rw [hw]; simp
          obtain ⟨ts, f, h⟩ := ih (skip s a + (wordAt s (skip s a)).length) (word_le hle) (by omega)
          exact ⟨_, f, .word a c ts f hc hl hb h⟩
      | false =>
        cases hg : signB c with
        | false => exact ⟨[], _, .form a c hc hl hg⟩
        | true =>
          obtain ⟨w, hw⟩ := sign_cons hc
          have hw2 : 0 < (signAt s (skip s a)).length := by rw [hw]; simp
          obtain ⟨ts, f, h⟩ := ih (skip s a + (signAt s (skip s a)).length) (sign_le hc) (by omega)
          exact ⟨_, f, .sign a c ts f hc hl hg h⟩

/-! ### What reading gives -/

def isP (t : Tok) : Bool := match t.2 with
  | c :: _ => letB c
  | [] => false

/-- One token further: the fault is met as soon as its place is reached. -/
def goF (f : Option Flt) (ts : List Tok) : Except Flt (List Tok) := match ts, f with
  | [], some e => .error e
  | ts, _ => .ok ts

/-- What is known of the tokens that are left. -/
inductive Val (s : Str) (f : Option Flt) : List Tok → Prop where
  | nil : f = none → Val s f []
  | cons (t : Tok) (ts) : (s.take (t.1 + t.2.length)).drop t.1 = t.2 → t.1 + t.2.length ≤ s.length → t.2 ≠ [] → (isP t = true → badWord t.2 = false) → Lex s (t.1 + t.2.length) ts f → Val s f (t :: ts)

theorem Lex.val {s : Str} {a : Nat} {ts ts' : List Tok} {f : Option Flt} (h : Lex s a ts f) (ha : a ≤ s.length) (hg : goF f ts = .ok ts') : ts' = ts ∧ Val s f ts := by
  have hle := skip_le ha
  cases h with
  | fin _ h1 => cases hg; exact ⟨rfl, .nil rfl⟩
  | form _ c h1 h2 h3 => cases hg
  | name _ c h1 h2 h3 => cases hg
  | word _ c ts f h1 h2 h3 h4 =>
    cases f <;> cases hg <;>
    exact ⟨rfl, .cons _ _ (word_sub _ _) (word_le hle) (by obtain ⟨w, hw⟩ := word_cons h1 h2; simp [hw]) (fun _ => h3) h4⟩
  | sign _ c ts f h1 h2 h3 h4 =>
    have hn : isP (skip s a, signAt s (skip s a)) = false := by
      obtain ⟨w, hw⟩ := sign_cons h1
      simp [isP, hw, h2]
    cases f <;> cases hg <;>
    exact ⟨rfl, .cons _ _ (sign_sub h1) (sign_le h1) (by obtain ⟨w, hw⟩ := sign_cons h1; simp [hw]) (fun h => by rw [hn] at h; cases h) h4⟩

def wrongF (s : Str) : List Tok → Flt
  | [] => (s.length, 16)
  | t :: _ => (t.1, 9)
def isPart : List Tok → Bool
  | [] => false
  | t :: _ => isP t
def txt : List Tok → Str
  | [] => []
  | t :: _ => t.2
/-- The sign that is next; none: a part, or the end. -/
def sgn : List Tok → Str
  | [] => []
  | t :: _ => if isP t then [] else t.2

def partsF (f : Option Flt) (d : Bool) : List Tok → Except Flt (List Part × List Tok)
  | [] => .ok ([], [])
  | t :: ts =>
    if isP t then
      if t.2 == EMPTY then .error (t.1, 9)
      else if !isWord t.2 && (!d && !isMeta t.2) then .error (t.1, 8)
      else (goF f ts).bind fun _ => (partsF f d ts).bind fun r => .ok ((!isWord t.2, t.2) :: r.1, r.2)
    else .ok ([], t :: ts)

/-- Parts, at least one. -/
def someF (s : Str) (f : Option Flt) (d : Bool) (ts : List Tok) : Except Flt (List Part × List Tok) :=
  (partsF f d ts).bind fun r => if r.1 = [] then .error (wrongF s r.2) else .ok r

/-- EMPTY, or parts, at least one. -/
def altF (s : Str) (f : Option Flt) (d : Bool) : List Tok → Except Flt (List Part × List Tok)
  | t :: ts =>
    if isP t && t.2 == EMPTY then
      (goF f ts).bind fun _ => if isPart ts then .error (if !(txt ts == EMPTY) && (!isWord (txt ts) && (!d && !isMeta (txt ts))) then ((wrongF s ts).1, 8) else wrongF s ts) else .ok ([], ts)
    else someF s f d (t :: ts)
  | [] => someF s f d []

/-- The alternatives of a metarule; the token before the first is next. -/
def metaF (s : Str) (f : Option Flt) : Nat → List Tok → Except Flt (List (List Part) × List Tok)
  | n + 1, _ :: ts => (goF f ts).bind fun _ => (altF s f false ts).bind fun r =>
      if sgn r.2 == [59] then (metaF s f n r.2).bind fun q => .ok (r.1 :: q.1, q.2) else .ok ([r.1], r.2)
  | _, _ => .error (0, 0)

/-- The right hypernotions of a rule. -/
def rightF (s : Str) (f : Option Flt) : Nat → List Tok → Except Flt (List (List Part) × List Tok)
  | n + 1, ts => (someF s f true ts).bind fun r =>
      if sgn r.2 == [44] then (goF f r.2.tail).bind fun _ => (rightF s f n r.2.tail).bind fun q => .ok (r.1 :: q.1, q.2) else .ok ([r.1], r.2)
  | _, _ => .error (0, 0)

/-- The right side of one rule. -/
def sideF (s : Str) (f : Option Flt) (n : Nat) : List Tok → Except Flt (List (List Part) × List Tok)
  | t :: ts =>
    if isP t && t.2 == EMPTY then
      (goF f ts).bind fun _ => if isPart ts || sgn ts == [44] then .error (wrongF s ts) else .ok ([], ts)
    else rightF s f n (t :: ts)
  | [] => rightF s f n []

/-- The right sides of rules with one left side; the token before the first is next. -/
def rulesF (s : Str) (f : Option Flt) : Nat → List Tok → Except Flt (List (List (List Part)) × List Tok)
  | n + 1, _ :: ts => (goF f ts).bind fun _ => (sideF s f n ts).bind fun r =>
      if sgn r.2 == [59] then (rulesF s f n r.2).bind fun q => .ok (r.1 :: q.1, q.2) else .ok ([r.1], r.2)
  | _, _ => .error (0, 0)

abbrev PMeta := Str × List (List Part)
abbrev PRule := List Part × List (List Part)

def isRuleM (rs : List PRule) (left : List Part) (ts : List Tok) : Bool := sgn ts == [58, 58] && (rs.isEmpty && match left with
  | [p] => isMeta p.2
  | _ => false)

/-- The rules of a grammar. -/
def gramF (s : Str) (f : Option Flt) : Nat → List PMeta → List PRule → List Tok → Except Flt (List PMeta × List PRule)
  | n + 1, ms, rs, t :: ts => (partsF f true (t :: ts)).bind fun r =>
      (if isRuleM rs r.1 r.2 then (metaF s f n r.2).bind fun q => .ok (ms ++ [((r.1.map (·.2)).headD [], q.1)], rs, q.2)
       else if sgn r.2 == [58] && !r.1.isEmpty then (rulesF s f n r.2).bind fun q => .ok (ms, rs ++ q.1.map fun x => (r.1, x), q.2)
       else .error (wrongF s r.2)).bind fun q =>
      if sgn q.2.2 == [46] then (goF f q.2.2.tail).bind fun _ => gramF s f n q.1 q.2.1 q.2.2.tail else .error (wrongF s q.2.2)
  | _ + 1, ms, rs, [] => .ok (ms, rs)
  | 0, _, _, _ => .error (0, 0)

/-! ### The reader's variable -/

/-- The store with other cells in the reader's variable. -/
def cd (σ : St) (P : Nat) (cs : List PV) : St := σ.set P (.arr 0 6 [.agg cs])
def Has (σ : St) (P : Nat) (cs : List PV) : Prop := σ[P]? = some (.arr 0 6 [.agg cs])

theorem Has.lt {σ : St} {P : Nat} {cs : List PV} (h : Has σ P cs) : P < σ.length := (List.getElem?_eq_some_iff.1 h).1
theorem Has.self {σ : St} {P : Nat} {cs : List PV} (h : Has σ P cs) : cd σ P cs = σ := by
  have := List.getElem?_eq_some_iff.1 h
  unfold cd
  rw [← this.2]
  simp
theorem cd_has {σ : St} {P : Nat} (hP : P < σ.length) (cs : List PV) : Has (cd σ P cs) P cs := by simp [Has, cd, hP]
theorem cd_cd (σ : St) (P : Nat) (cs ds : List PV) : cd (cd σ P cs) P ds = cd σ P ds := by simp [cd]
theorem cd_len (σ : St) (P : Nat) (cs : List PV) : (cd σ P cs).length = σ.length := by simp [cd]
theorem cd_ne {σ : St} {P : Nat} {cs : List PV} {c : Nat} (h : c ≠ P) : (cd σ P cs)[c]? = σ[c]? := by simp [cd, List.getElem?_set, Ne.symm h]
theorem cd_take (σ : St) (P : Nat) (cs : List PV) : (cd σ P cs).take P = σ.take P := by simp [cd, List.take_set_of_le]

theorem Has.ld {σ : St} {P : Nat} {cs : List PV} (h : Has σ P cs) (i : Nat) : vLoad false 1 (.ptr P 0 0 i) σ = cs[i]? := by
  unfold Has at h
  simp [vLoad, h, vPart, PV.cells?]
theorem cd_ld {σ : St} {P : Nat} (hP : P < σ.length) (cs : List PV) (i : Nat) : vLoad false 1 (.ptr P 0 0 i) (cd σ P cs) = cs[i]? := (cd_has hP cs).ld i
theorem cd_st {σ : St} {P : Nat} (hP : P < σ.length) {cs : List PV} {x : PV} (hx : x.cells? = some [x]) {i : Nat} (hi : i < cs.length) : vStore 1 (.ptr P 0 0 i) x (cd σ P cs) = some (cd σ P (cs.set i x)) := by
  have h : Has (cd σ P cs) P cs := cd_has hP cs
  unfold Has at h
  have : setRange cs i [x] = cs.set i x := by
    rw [List.set_eq_take_append_cons_drop, if_pos hi]
    simp [setRange]
  simp [vStore, h, vPut, hx, show i + 1 ≤ cs.length by omega, this]
  simp [cd]
theorem cd_sti {σ : St} {P : Nat} (hP : P < σ.length) {cs : List PV} {k : IntKind} {n : Int} {i : Nat} (hi : i < cs.length) : vStore 1 (.ptr P 0 0 i) (.int k n) (cd σ P cs) = some (cd σ P (cs.set i (.int k n))) := cd_st hP rfl hi
theorem cd_sts {σ : St} {P : Nat} (hP : P < σ.length) {cs : List PV} {n : Str} {i : Nat} (hi : i < cs.length) : vStore 1 (.ptr P 0 0 i) (.str n) (cd σ P cs) = some (cd σ P (cs.set i (.str n))) := cd_st hP rfl hi
theorem cd_stb {σ : St} {P : Nat} (hP : P < σ.length) {cs : List PV} {n : Bool} {i : Nat} (hi : i < cs.length) : vStore 1 (.ptr P 0 0 i) (.bool n) (cd σ P cs) = some (cd σ P (cs.set i (.bool n))) := cd_st hP rfl hi
theorem nil_ptr (b g i o : Nat) : vNil (.ptr b g i o) = some (.ptr b g i o) := rfl

/-- Values that name no place. -/
inductive Flat : PV → Prop where
  | bool (b) : Flat (.bool b)
  | int (k i) : Flat (.int k i)
  | str (l) : Flat (.str l)
  | list (k xs) : (∀ x ∈ xs, Flat x) → Flat (.list k xs)
  | agg (xs) : (∀ x ∈ xs, Flat x) → Flat (.agg xs)
  | tuple (xs) : (∀ x ∈ xs, Flat x) → Flat (.tuple xs)

theorem Flat.free {x : PV} (h : Flat x) (D : Nat → Prop) : Free D x := by
  induction h with
  | bool b => exact .bool b
  | int k i => exact .int k i
  | str l => exact .str l
  | list k xs _ ih => exact .list k xs fun i x hx => ih x (List.mem_of_getElem? hx)
  | agg xs _ ih => exact .agg xs fun i x hx => ih x (List.mem_of_getElem? hx)
  | tuple xs _ ih => exact .tuple xs fun i x hx => ih x (List.mem_of_getElem? hx)

theorem Flat.frz {x : PV} (h : Flat x) (σ : St) (D : Nat → Prop) : FrzD σ D x x := .base _ (h.free D)

theorem flatPart (p : Part) : Flat (pvPart p) := .agg _ fun x h => by
  simp only [List.mem_cons, List.not_mem_nil, or_false] at h
  rcases h with rfl | rfl
  · exact .bool _
  · exact .str _
theorem flatSl {α : Type} {enc : α → PV} (h : ∀ a, Flat (enc a)) (p : Sl α) : Flat (pvSl enc p) := .list _ _ fun x hx => by
  obtain ⟨a, _, rfl⟩ := List.mem_map.1 hx
  exact h a
theorem flatParts (p : Sl Part) : Flat (pvParts p) := flatSl flatPart p
theorem flatLists (p : Lists) : Flat (pvLists p) := flatSl flatParts p
theorem flatMeta (m : Meta19) : Flat (pvMeta m) := .agg _ fun x h => by
  simp only [List.mem_cons, List.not_mem_nil, or_false] at h
  rcases h with rfl | rfl
  · exact .str _
  · exact flatLists _
theorem flatRule (m : Rule19) : Flat (pvRule m) := .agg _ fun x h => by
  simp only [List.mem_cons, List.not_mem_nil, or_false] at h
  rcases h with rfl | rfl
  · exact flatParts _
  · exact flatLists _

/-- A return after which the reader's variable alone is another. -/
theorem weakW_cell {σ σ' : St} {P : Nat} {cs : List PV} {v v' : PV} {K : PV → St → Prop} (hP : P < σ.length) (hlen : σ.length ≤ σ'.length) (hsame : ∀ c < σ.length, c ≠ P → σ'[c]? = σ[c]?) (hc : Has σ' P cs)
    (hcs : ∀ x ∈ cs, Flat x) (hv : FrzD σ' (fun b => σ.length ≤ b) v v') (h : K v' (cd σ P cs)) : weakW σ v σ' K := by
  refine weakW_kill (fun b => σ.length ≤ b) ⟨fun b h => h, by simpa [cd] using hlen, fun b hb _ => by simpa [cd] using hb, fun b k' hb => ?_⟩ hv h
  have hbl : b < σ.length := by have := (List.getElem?_eq_some_iff.1 hb).1; simpa [cd] using this
  refine .inr ⟨by omega, ?_⟩
  by_cases hbP : b = P
  · subst hbP
    obtain rfl : k' = .arr 0 6 [.agg cs] := by
      have := cd_has hP cs
      unfold Has at this
      rw [this] at hb
      exact (Option.some.inj hb).symm
    refine ⟨_, hc, .inl (.inr ⟨_, rfl, rfl, fun i x y hx hy => ?_⟩)⟩
    rw [hx] at hy
    cases hy
    have : x = .agg cs := by simpa using List.mem_of_getElem? hx
    subst this
    exact (Flat.agg _ hcs).frz _ _
  · rw [cd_ne hbP] at hb
    exact ⟨k', by rw [hsame b hbl hbP]; exact hb, .inr ⟨rfl, hb⟩⟩

/-- A slice that grew, frozen. -/
theorem Grow.frzD {n0 sz : Nat} {σ : St} {x : PV} {ys : List PV} (h : Grow n0 sz σ x ys) {D : Nat → Prop} (hD : ∀ b, n0 ≤ b → D b) (hu : ∀ y ∈ ys, Flat y) : FrzD σ D x (growV ys) := by
  rcases h with ⟨rfl, rfl⟩ | ⟨b, g, hb0, rfl, hb, hne⟩
  · exact .list _ _ _ rfl (by simp)
  · cases ys with
    | nil => exact absurd rfl hne
    | cons y ys =>
      refine .sref b g sz 0 _ g sz _ _ hb rfl (hD b hb0) rfl (by omega) fun i a c hi ha hc => ?_
      rw [Nat.zero_add, hc] at ha
      cases ha
      exact (hu a (List.mem_of_getElem? hc)).frz _ _

/-- The package's reader: its cells when tokens are left. -/
def hcells (s : Str) : List Tok → List PV
  | [] => [.str s, .int .i64 s.length, .int .i64 s.length, .int .i64 s.length, .str [], .bool true]
  | t :: ts => [.str s, .int .i64 (t.1 + t.2.length : Nat), .int .i64 t.1, .int .i64 (t.1 + t.2.length : Nat), .str (sgn (t :: ts)), .bool false]

theorem hcells_flat (s : Str) (ts : List Tok) : ∀ x ∈ hcells s ts, Flat x := by
  intro x hx
  cases ts <;> simp only [hcells, List.mem_cons, List.not_mem_nil, or_false] at hx <;> rcases hx with rfl | rfl | rfl | rfl | rfl | rfl <;> constructor

def fpv (e : Flt) : PV := .iface 41 (.agg [.int .i64 e.1, .int .i64 e.2])

/-- A function of the package's reader: it goes on, or leaves by a fault. -/
def Rd (f : FuncId) (args : List PV) (σ : St) (P : Nat) (s : Str) (res : Except Flt (PV × List Tok)) : Prop :=
  ∀ R : Res → St → Prop, (∀ v ts, res = .ok (v, ts) → R (.ret v) (cd σ P (hcells s ts))) → (∀ e σ', res = .error e → σ.take P <+: σ' → R (.pan (fpv e)) σ') → W f args σ R

theorem Rd.callB {f : FuncId} {args : List PV} {σ : St} {P : Nat} {s : Str} {res : Except Flt (PV × List Tok)} (h : Rd f args σ P s res) {K X : PV → St → Prop}
    (k : ∀ v ts, res = .ok (v, ts) → K v (cd σ P (hcells s ts))) (x : ∀ e σ', res = .error e → σ.take P <+: σ' → X (fpv e) σ') : callB W f args σ K X := h _ k x

end Go.Proofs.YtiniifbmeobmgaaGreatDoor
