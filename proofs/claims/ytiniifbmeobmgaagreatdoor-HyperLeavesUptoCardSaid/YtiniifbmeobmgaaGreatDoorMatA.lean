/- All bindings by which parts mean words (plain Lean, no program in sight). -/
import Derived.Test.YtiniifbmeobmgaaGreatDoorSpcF
set_option linter.unusedVariables false
set_option linter.unusedSimpArgs false
namespace Go.Proofs.YtiniifbmeobmgaaGreatDoor
open Go Go.Abs

abbrev ltB (a b : Str) : Bool := Op.bytesLess a b

theorem ltB_cons (a b : UInt8) (al bl : Str) : ltB (a :: al) (b :: bl) = (if a < b then true else if b < a then false else ltB al bl) := by
  simp only [ltB, Op.bytesLess]
  by_cases h1 : a < b
  · simp [h1]
  · by_cases h2 : b < a
    · have h3 : (a == b) = false := by
        rw [beq_eq_false_iff_ne]
        intro h
        subst h
        exact h1 h2
      simp [h1, h2, h3]
    · have h3 : a = b := UInt8.le_antisymm (UInt8.not_lt.1 h2) (UInt8.not_lt.1 h1)
      subst h3
      simp [h1]

theorem ltB_irr : ∀ a : Str, ltB a a = false
  | [] => rfl
  | a :: l => by
    have h : ¬ a < a := UInt8.lt_irrefl a
    rw [ltB_cons, if_neg h, if_neg h]
    exact ltB_irr l

theorem ltB_cmp : ∀ a b : Str, decide (cmpB a b < 0) = ltB a b
  | [], [] => rfl
  | [], _ :: _ => rfl
  | _ :: _, [] => rfl
  | a :: al, b :: bl => by
    rw [ltB_cons, cmpB]
    by_cases h1 : a < b
    · rw [if_pos h1, if_pos h1]; rfl
    · rw [if_neg h1, if_neg h1]
      by_cases h2 : b < a
      · rw [if_pos h2, if_pos h2]; rfl
      · rw [if_neg h2, if_neg h2]
        exact ltB_cmp al bl

theorem ltB_trans : ∀ {a b c : Str}, ltB a b = true → ltB b c = true → ltB a c = true
  | [], [], _, h, _ => by simp [ltB, Op.bytesLess] at h
  | [], _ :: _, [], _, h => by simp [ltB, Op.bytesLess] at h
  | [], _ :: _, _ :: _, _, _ => rfl
  | _ :: _, [], _, h, _ => by simp [ltB, Op.bytesLess] at h
  | _ :: _, _ :: _, [], _, h => by simp [ltB, Op.bytesLess] at h
  | a :: al, b :: bl, c :: cl, h1, h2 => by
    rw [ltB_cons] at h1 h2 ⊢
    by_cases q1 : a < b
    · by_cases q2 : b < c
      · rw [if_pos (UInt8.lt_trans q1 q2)]
      · rw [if_neg q2] at h2
        by_cases q3 : c < b
        · rw [if_pos q3] at h2; cases h2
        · have : b = c := UInt8.le_antisymm (UInt8.not_lt.1 q3) (UInt8.not_lt.1 q2)
          subst this
          rw [if_pos q1]
    · rw [if_neg q1] at h1
      by_cases q0 : b < a
      · rw [if_pos q0] at h1; cases h1
      · rw [if_neg q0] at h1
        have : a = b := UInt8.le_antisymm (UInt8.not_lt.1 q0) (UInt8.not_lt.1 q1)
        subst this
        by_cases q2 : a < c
        · rw [if_pos q2]
        · rw [if_neg q2] at h2 ⊢
          by_cases q3 : c < a
          · rw [if_pos q3] at h2; cases h2
          · rw [if_neg q3] at h2 ⊢
            exact ltB_trans h1 h2

theorem ltB_tri : ∀ {a b : Str}, ltB a b = false → ltB b a = false → a = b
  | [], [], _, _ => rfl
  | [], _ :: _, h, _ => by simp [ltB, Op.bytesLess] at h
  | _ :: _, [], _, h => by simp [ltB, Op.bytesLess] at h
  | a :: al, b :: bl, h1, h2 => by
    rw [ltB_cons] at h1 h2
    by_cases q1 : a < b
    · rw [if_pos q1] at h1; cases h1
    · rw [if_neg q1] at h1 h2
      by_cases q2 : b < a
      · rw [if_pos q2] at h2; cases h2
      · rw [if_neg q2] at h1 h2
        have : a = b := UInt8.le_antisymm (UInt8.not_lt.1 q2) (UInt8.not_lt.1 q1)
        subst this
        rw [ltB_tri h1 h2]

abbrev Binds := List Bind

/-- Ordered by names, each once. -/
def SortB (B : Binds) : Prop := B.Pairwise fun x y => ltB x.1 y.1 = true

def ins (b : Bind) : Binds → Binds
  | [] => [b]
  | x :: l => if ltB x.1 b.1 then x :: ins b l else b :: x :: l

theorem mem_ins {b x : Bind} : ∀ {l : Binds}, x ∈ ins b l ↔ x = b ∨ x ∈ l
  | [] => by simp [ins]
  | a :: l => by
    have ih := @mem_ins b x l
    unfold ins
    split
    · simp only [List.mem_cons, ih]
      constructor
      · rintro (h | h | h)
        · exact .inr (.inl h)
        · exact .inl h
        · exact .inr (.inr h)
      · rintro (h | h | h)
        · exact .inr (.inl h)
        · exact .inl h
        · exact .inr (.inr h)
    · simp

theorem valueOf_none {B : Binds} {n : Str} : valueOf B n = none ↔ ∀ b ∈ B, b.1 ≠ n := by
  unfold valueOf
  rw [Option.map_eq_none_iff, List.find?_eq_none]
  simp

theorem sort_ins {b : Bind} : ∀ {l : Binds}, SortB l → (∀ x ∈ l, x.1 ≠ b.1) → SortB (ins b l)
  | [], _, _ => by simp [ins, SortB]
  | a :: l, h, hn => by
    have ih := @sort_ins b l (List.Pairwise.of_cons h) (fun x hx => hn x (by simp [hx]))
    have ha := (List.pairwise_cons.1 h).1
    unfold ins
    split
    · rename_i hab
      refine List.pairwise_cons.2 ⟨fun x hx => ?_, ih⟩
      rcases mem_ins.1 hx with rfl | hx
      · exact hab
      · exact ha _ hx
    · rename_i hab
      have hba : ltB b.1 a.1 = true := by
        cases hh : ltB b.1 a.1 with
        | true => rfl
        | false =>
          have := ltB_tri (by simpa using hab) hh
          exact absurd this (hn a (by simp))
      refine List.pairwise_cons.2 ⟨fun x hx => ?_, h⟩
      rcases List.mem_cons.1 hx with rfl | hx
      · exact hba
      · exact ltB_trans hba (ha _ hx)

/-- Ordered lists of the same members are the same. -/
theorem sort_eq : ∀ {l m : Binds}, SortB l → SortB m → (∀ x, x ∈ l ↔ x ∈ m) → l = m
  | [], [], _, _, _ => rfl
  | [], b :: m, _, _, h => by have := (h b).2 (by simp); simp at this
  | a :: l, [], _, _, h => by have := (h a).1 (by simp); simp at this
  | a :: l, b :: m, h1, h2, h => by
    have ha := (List.pairwise_cons.1 h1).1
    have hb := (List.pairwise_cons.1 h2).1
    have hab : a = b := by
      rcases List.mem_cons.1 ((h a).1 (by simp)) with hh | hh
      · exact hh
      · rcases List.mem_cons.1 ((h b).2 (by simp)) with hk | hk
        · exact hk.symm
        · have q1 := hb _ hh
          have q2 := ha _ hk
          have := ltB_trans q1 q2
          rw [ltB_irr] at this
          cases this
    subst hab
    congr 1
    refine sort_eq (List.Pairwise.of_cons h1) (List.Pairwise.of_cons h2) fun x => ⟨fun hx => ?_, fun hx => ?_⟩
    · rcases List.mem_cons.1 ((h x).1 (by simp [hx])) with rfl | hh
      · have := ha _ hx; rw [ltB_irr] at this; cases this
      · exact hh
    · rcases List.mem_cons.1 ((h x).2 (by simp [hx])) with rfl | hh
      · have := hb _ hx; rw [ltB_irr] at this; cases this
      · exact hh

/-- Names once each. -/
def Once (E : Binds) : Prop := E.Pairwise fun x y => x.1 ≠ y.1

theorem once_sort {B : Binds} (h : SortB B) : Once B := h.imp fun {x y} h he => by rw [he, ltB_irr] at h; cases h

theorem valueOf_mem_iff : ∀ {E : Binds}, Once E → ∀ {n v : Str}, valueOf E n = some v ↔ (n, v) ∈ E
  | [], _, n, v => by simp [valueOf]
  | a :: E, h, n, v => by
    have ih := @valueOf_mem_iff E (List.Pairwise.of_cons h) n v
    have ha := (List.pairwise_cons.1 h).1
    unfold valueOf at ih ⊢
    rw [List.find?_cons]
    by_cases hn : a.1 = n
    · have : (a.1 == n) = true := by simpa using hn
      simp only [this, Option.map_some, Option.some.injEq, List.mem_cons]
      constructor
      · rintro rfl
        subst hn
        exact .inl rfl
      · rintro (h | h)
        · rw [← h]
        · exact absurd hn (ha _ h)
    · have : (a.1 == n) = false := by simpa using hn
      simp only [this, List.mem_cons]
      rw [ih]
      constructor
      · exact .inr
      · rintro (h | h)
        · rw [← h] at hn; exact absurd rfl hn
        · exact h

theorem valueOf_same {E B : Binds} (hE : Once E) (hB : Once B) (h : ∀ x, x ∈ E ↔ x ∈ B) (n : Str) : valueOf E n = valueOf B n := by
  cases h1 : valueOf B n with
  | none =>
    rw [valueOf_none] at h1 ⊢
    exact fun b hb => h1 b ((h b).1 hb)
  | some v =>
    rw [valueOf_mem_iff hB] at h1
    rw [valueOf_mem_iff hE]
    exact (h _).2 h1

/-! ### Joined words -/

def jn (ws : List Str) (a n : Nat) : Str := joinB [32] ((ws.drop a).take n)

theorem word_props {w : Str} (h : isWord w = true) : w ≠ [] ∧ (32 : UInt8) ∉ w := by
  simp only [isWord, within, inR, Bool.and_eq_true, decide_eq_true_eq] at h
  refine ⟨fun he => by rw [he] at h; simp at h, fun hm => ?_⟩
  have := List.all_eq_true.1 h.1 _ hm
  simp at this

theorem split_join : ∀ {x : Str} {xs : List Str}, (∀ w ∈ x :: xs, (32 : UInt8) ∉ w) → splitB 32 (joinB [32] (x :: xs)) = x :: xs
  | x, [], h => by
    rw [joinB]
    exact splitB_end 32 x (h x (by simp))
  | x, y :: xs, h => by
    have ih := @split_join y xs (fun w hw => h w (by simp [hw]))
    have e : joinB [32] (x :: y :: xs) = x ++ 32 :: joinB [32] (y :: xs) := by
      rw [joinB]
      · simp
      · simp
    rw [e, splitB_sep 32 x _ (h x (by simp)), ih]

theorem join_nil {xs : List Str} (h : ∀ w ∈ xs, w ≠ []) (he : joinB [32] xs = []) : xs = [] := by
  match xs with
  | [] => rfl
  | [x] => rw [joinB] at he; exact absurd he (h x (by simp))
  | x :: y :: r =>
    rw [joinB] at he
    · simp at he
    · simp

/-! ### The same words are produced wherever they stand -/

section
variable {M : Nat} {alts : Nat → List (List Part)} {ix : Str → Nat} {ws : List Str}

end

/-! ### All bindings -/

/-- What a part that produces a text does to the bindings: none: it cannot stand there. -/
def stepA (p : Part) (s : Str) (B : Binds) : Option Binds :=
  if p.1 then (match valueOf B p.2 with
    | some v => if s == v then some B else none
    | none => some (ins (p.2, s) B))
  else some B

section
variable (ws : List Str) (fp : Part → Nat → Nat → Bool)

def allB : List Part → Nat → Binds → List Binds
  | [], a, B => if a = ws.length then [B] else []
  | p :: l, a, B => (List.range (ws.length + 1 - a)).flatMap fun n => if fp p a (a + n) then (match stepA p (jn ws a n) B with
    | some B' => allB l (a + n) B'
    | none => []) else []

/-- Whether parts can produce the words from a place on, each by itself. -/
def mayB : List Part → Nat → Bool
  | [], a => decide (a = ws.length)
  | p :: l, a => (List.range (ws.length + 1 - a)).any fun n => mayB l (a + n) && fp p a (a + n)

theorem may_none : ∀ (l : List Part) (a : Nat) (B : Binds), mayB ws fp l a = false → allB ws fp l a B = []
  | [], a, B, h => by
    unfold mayB at h
    unfold allB
    rw [if_neg (by simpa using h)]
  | p :: l, a, B, h => by
    unfold mayB at h
    rw [List.any_eq_false] at h
    unfold allB
    rw [List.flatMap_eq_nil_iff]
    intro n hn
    have := h n hn
    split
    · rename_i hf
      split
      · refine may_none l _ _ ?_
        cases hm : mayB ws fp l (a + n) with
        | false => rfl
        | true => rw [hm, hf] at this; simp at this
      · rfl
    · rfl
end

theorem take_app {α : Type} {k : Nat} {a b : List α} (h : k ≤ a.length) : (a ++ b).take k = a.take k := by
  rw [List.take_append_of_le_length h]

theorem flat_succ {α : Type} {N : Nat} {f : Nat → List α} : (List.range (N + 1)).flatMap f = (List.range N).flatMap f ++ f N := by
  rw [List.range_succ, List.flatMap_append]
  simp

/-- A part of the turns comes first. -/
theorem flat_split {α : Type} {N k : Nat} {f : Nat → List α} (h : k ≤ N) : ∃ r, (List.range N).flatMap f = (List.range k).flatMap f ++ r := by
  induction N with
  | zero => exact ⟨[], by
    have h0 : k = 0 := by omega
    subst h0
    simp⟩
  | succ N ih =>
    by_cases hk : k = N + 1
    · subst hk; exact ⟨[], by simp⟩
    · obtain ⟨r, hr⟩ := ih (by omega)
      exact ⟨r ++ f N, by rw [flat_succ, hr, List.append_assoc]⟩

end Go.Proofs.YtiniifbmeobmgaaGreatDoor
