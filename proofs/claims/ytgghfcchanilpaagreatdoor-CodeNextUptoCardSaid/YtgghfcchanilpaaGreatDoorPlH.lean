import Derived.Test.YtgghfcchanilpaaGreatDoorAbsExt
set_option linter.unusedVariables false
set_option linter.unusedSimpArgs false
namespace Go.Abs
theorem eq_of_incr : ∀ {l m : List Int}, l.Pairwise (· < ·) → m.Pairwise (· < ·) → (∀ x, x ∈ l ↔ x ∈ m) → l = m
 | [], [], _, _, _ => rfl
 | [], y :: m, _, _, h => by have := (h y).2 (by simp); simp at this
 | x :: l, [], _, _, h => by have := (h x).1 (by simp); simp at this
 | x :: l, y :: m, hl, hm, h => by
  rw [List.pairwise_cons] at hl hm
  have h1 := (h x).1 (by simp)
  have h2 := (h y).2 (by simp)
  have hxy : x = y := by
   simp only [List.mem_cons] at h1 h2
   rcases h1 with h1 | h1
   ·exact h1
   ·rcases h2 with h2 | h2
    ·exact h2.symm
    ·have := hl.1 y h2
     have := hm.1 x h1
     omega
  subst hxy
  congr 1
  refine eq_of_incr hl.2 hm.2 fun z => ?_
  have hz := h z
  simp only [List.mem_cons] at hz
  constructor
  ·intro hzl
   have := hl.1 z hzl
   rcases hz.1 (.inr hzl) with h | h
   ·omega
   ·exact h
  ·intro hzm
   have := hm.1 z hzm
   rcases hz.2 (.inr hzm) with h | h
   ·omega
   ·exact h
theorem sortI_sorted (l : List Int) : (sortI l).Pairwise (· ≤ ·) := by
 unfold sortI
 refine (List.pairwise_mergeSort (le := fun (x y : Int) => decide (x ≤ y)) (fun a b c h1 h2 => ?_) (fun a b => ?_) l).imp fun {a b} h => of_decide_eq_true h
 ·have := of_decide_eq_true h1
  have := of_decide_eq_true h2
  exact decide_eq_true (by omega)
 ·rw [Bool.or_eq_true, decide_eq_true_eq, decide_eq_true_eq]
  omega
theorem sortI_mem (l : List Int) (y : Int) : y ∈ sortI l ↔ y ∈ l := (List.mergeSort_perm l _).mem_iff
theorem sortI_length (l : List Int) : (sortI l).length = l.length := (List.mergeSort_perm l _).length_eq
theorem compI_incr {l : List Int} (h : l.Pairwise (· ≤ ·)) : (compI l).Pairwise (· < ·) := by
 have key : ∀ (i j : Nat), i < j → j < l.length → l[i]! ≤ l[j]! := fun i j hij hj => by
  have hi : i < l.length := by omega
  have := List.pairwise_iff_getElem.1 h i j hi hj hij
  simpa [hi, hj] using this
 show (((List.range l.length).filter (Go.Lib.keeps l.toArray)).map (l.toArray[·]!)).Pairwise (· < ·)
 refine List.pairwise_map.2 ?_
 refine List.Pairwise.imp_of_mem ?_ (List.Pairwise.filter _ List.pairwise_lt_range)
 intro i j hi hj hij
 rw [List.mem_filter, List.mem_range] at hi hj
 have hk := hj.2
 simp only [Go.Lib.keeps, decide_eq_true_eq] at hk
 rcases hk with hk | hk
 ·omega
 have h1 := key (j - 1) j (by omega) hj.1
 have h2 : l[j]! ≠ l[j - 1]! := by simpa using hk
 have goal : l[i]! < l[j]! := by
  by_cases he : i = j - 1
  ·rw [he]; omega
  ·have := key i (j - 1) (by omega) (by omega)
   omega
 simpa using goal
theorem compI_mem (l : List Int) (x : Int) : x ∈ compI l ↔ x ∈ l := by
 show x ∈ (((List.range l.length).filter (Go.Lib.keeps l.toArray)).map (l.toArray[·]!)) ↔ _
 simp only [List.mem_map, List.mem_filter, List.mem_range]
 constructor
 ·rintro ⟨i, ⟨hi, _⟩, rfl⟩
  have : l.toArray[i]! = l[i] := by simp [hi]
  rw [this]
  exact List.getElem_mem hi
 ·intro hx
  have hex : ∃ i, i < l.length ∧ l[i]! = x := by
   obtain ⟨i, hi, he⟩ := List.getElem_of_mem hx
   exact ⟨i, hi, by simpa [hi] using he⟩
  have hmin : ∀ n, (∃ i, i < n ∧ i < l.length ∧ l[i]! = x) → ∃ i, i < l.length ∧ l[i]! = x ∧ ∀ k < i, l[k]! ≠ x := by
   intro n
   induction n with
   | zero => rintro ⟨i, hi, _⟩; omega
   | succ n ih =>
    rintro ⟨i, hi, hil, hix⟩
    by_cases hsm : ∃ k, k < i ∧ l[k]! = x
    ·obtain ⟨k, hk, hkx⟩ := hsm
     exact ih ⟨k, by omega, by omega, hkx⟩
    ·exact ⟨i, hil, hix, fun k hk he => hsm ⟨k, hk, he⟩⟩
  obtain ⟨i, hi, he⟩ := hex
  obtain ⟨i, hi, he, hno⟩ := hmin (i + 1) ⟨i, by omega, hi, he⟩
  refine ⟨i, ⟨hi, ?_⟩, by simpa using he⟩
  simp only [Go.Lib.keeps, decide_eq_true_eq]
  by_cases h0 : i = 0
  ·exact .inl h0
  ·right
   have := hno (i - 1) (by omega)
   have e1 : l.toArray[i]! = x := by simpa using he
   have e2 : l.toArray[i - 1]! = l[i - 1]! := by simp
   rw [e1, e2]
   exact fun h => this h.symm
theorem compI_one (n : Int) : compI [n] = [n] := eq_of_incr (compI_incr (by simp)) (by simp) fun x => compI_mem _ x
def putL (n : Int) : List Int → Bool → List Int
 | [], d => if d then [] else [n]
 | x :: l, d => (if !d && decide (n ≤ x) then [n] else []) ++ (if x ≠ n then [x] else []) ++ putL n l (d || decide (n ≤ x))
def putI (l : List Int) (n : Int) : List Int := putL n l false
theorem putL_done (n : Int) : ∀ {l : List Int}, (∀ x ∈ l, n < x) → putL n l true = l
 | [], _ => rfl
 | x :: l, h => by
  have h1 := h x (by simp)
  have hx : x ≠ n := by omega
  simp only [putL, Bool.not_true, Bool.false_and, Bool.false_eq_true, if_false, List.nil_append, Bool.true_or, if_pos hx]
  rw [putL_done n fun y hy => h y (by simp [hy])]
  rfl
theorem putI_spec (n : Int) : ∀ {l : List Int}, l.Pairwise (· < ·) → (putI l n).Pairwise (· < ·) ∧ ∀ y, y ∈ putI l n ↔ y = n ∨ y ∈ l
 | [], _ => by simp [putI, putL]
 | x :: l, h => by
  rw [List.pairwise_cons] at h
  unfold putI
  simp only [putL, Bool.not_false, Bool.true_and, Bool.false_or]
  by_cases hle : n ≤ x
  ·have hd := putL_done n (l := l) fun y hy => by have := h.1 y hy; omega
   simp only [decide_eq_true hle, if_true, hd]
   by_cases hx : x = n
   ·subst hx
    simp only [ne_eq, not_true, if_false, List.append_nil, List.singleton_append]
    exact ⟨List.pairwise_cons.2 h, fun y => by simp⟩
   ·rw [if_pos hx]
    simp only [List.singleton_append, List.cons_append, List.nil_append]
    refine ⟨List.pairwise_cons.2 ⟨fun y hy => ?_, List.pairwise_cons.2 h⟩, fun y => by simp⟩
    rcases List.mem_cons.1 hy with rfl | hy
    ·omega
    ·have := h.1 y hy; omega
  ·have hx : x ≠ n := by omega
   obtain ⟨i1, i2⟩ := putI_spec n h.2
   unfold putI at i1 i2
   simp only [decide_eq_false hle, Bool.false_eq_true, if_false, List.nil_append, if_pos hx, List.singleton_append]
   refine ⟨List.pairwise_cons.2 ⟨fun y hy => ?_, i1⟩, fun y => ?_⟩
   ·rcases (i2 y).1 hy with rfl | hy
    ·omega
    ·exact h.1 y hy
   ·simp only [List.mem_cons, i2 y]
    constructor
    ·rintro (h | h | h)
     ·exact .inr (.inl h)
     ·exact .inl h
     ·exact .inr (.inr h)
    ·rintro (h | h | h)
     ·exact .inr (.inl h)
     ·exact .inl h
     ·exact .inr (.inr h)
theorem putsI_spec : ∀ (xs : List Int) {l : List Int}, l.Pairwise (· < ·) → (xs.foldl putI l).Pairwise (· < ·) ∧ ∀ y, y ∈ xs.foldl putI l ↔ y ∈ xs ∨ y ∈ l
 | [], l, h => ⟨h, fun y => by simp⟩
 | x :: xs, l, h => by
  obtain ⟨h1, h2⟩ := putI_spec x h
  obtain ⟨h3, h4⟩ := putsI_spec xs h1
  refine ⟨h3, fun y => ?_⟩
  simp only [List.foldl_cons, h4 y, h2 y, List.mem_cons]
  constructor
  ·rintro (h | h | h)
   ·exact .inl (.inr h)
   ·exact .inl (.inl h)
   ·exact .inr h
  ·rintro ((h | h) | h)
   ·exact .inr (.inl h)
   ·exact .inl h
   ·exact .inr (.inr h)
theorem sort_puts (xs : List Int) : compI (sortI xs) = xs.foldl putI [] := by
 obtain ⟨h1, h2⟩ := putsI_spec xs (l := []) .nil
 refine eq_of_incr (compI_incr (sortI_sorted xs)) h1 fun y => ?_
 rw [compI_mem, sortI_mem, h2]
 simp
theorem putL_len (n : Int) : ∀ (l : List Int) (d : Bool), (putL n l d).length ≤ l.length + 1
 | [], d => by cases d <;> simp [putL]
 | x :: l, d => by
  simp only [putL, List.length_append, List.length_cons]
  cases d with
  | true =>
   have := putL_lenT n l
   simp only [Bool.not_true, Bool.false_and, Bool.false_eq_true, if_false, List.length_nil, Bool.true_or]
   split <;> simp <;> omega
  | false =>
   simp only [Bool.not_false, Bool.true_and, Bool.false_or]
   by_cases hle : n ≤ x
   ·have := putL_lenT n l
    simp only [decide_eq_true hle, if_true]
    split <;> simp <;> omega
   ·have := putL_len n l false
    simp only [decide_eq_false hle, Bool.false_eq_true, if_false]
    split <;> simp <;> omega
where
 putL_lenT (n : Int) : ∀ (l : List Int), (putL n l true).length ≤ l.length
  | [] => by simp [putL]
  | x :: l => by
   have := putL_lenT n l
   simp only [putL, List.length_append, List.length_cons, Bool.not_true, Bool.false_and, Bool.false_eq_true, if_false, List.length_nil, Bool.true_or]
   split <;> simp <;> omega
theorem putI_len (l : List Int) (n : Int) : (putI l n).length ≤ l.length + 1 := putL_len n l false
end Go.Abs
