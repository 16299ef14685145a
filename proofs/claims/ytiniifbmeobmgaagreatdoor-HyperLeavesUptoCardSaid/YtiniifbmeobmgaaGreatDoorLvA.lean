/- The reference's Matches; the law HyperMatches. -/
import Derived.Test.YtiniifbmeobmgaaGreatDoorSpecY
set_option linter.unusedVariables false
set_option linter.unusedSimpArgs false
namespace Go.Proofs.YtiniifbmeobmgaaGreatDoor
open Go Go.Abs

/-! ### Equal lists -/

theorem allB_len {ws : List Str} {fp : Part → Nat → Nat → Bool} : ∀ {l : List Part} {a : Nat} {B X : Binds}, X ∈ allB ws fp l a B → X.length ≤ B.length + l.length
  | [], a, B, X, h => by
    unfold allB at h
    split at h
    · simp at h; subst h; simp
    · cases h
  | p :: l, a, B, X, h => by
    rw [allB, List.mem_flatMap] at h
    obtain ⟨n, _, hX⟩ := h
    split at hX
    · split at hX
      · rename_i B' hB'
        have ih := allB_len hX
        have : B'.length ≤ B.length + 1 := by
          unfold stepA at hB'
          split at hB'
          · split at hB'
            · split at hB'
              · cases hB'; omega
              · cases hB'
            · cases hB'; rw [ins_len]; omega
          · cases hB'; omega
        simp only [List.length_cons]
        omega
      · cases hX
    · cases hX

theorem matG_mem {g : Gram} {l : List Part} {s : Str} {most : Int} {X : Binds} (h : X ∈ (matG g l s most).1) : X.length ≤ l.length := by
  unfold matG at h
  split at h
  · split at h
    · cases h
    split at h
    · cases h
    split at h
    · cases h
    split at h
    · cases h
    split at h
    · have := allB_len h
      simpa using this
    · cases h
  · cases h

theorem matG_len {g : Gram} {l : List Part} {s : Str} {most : Int} (hm : most ≤ 900) : (matG g l s most).1.length ≤ 900 := by
  unfold matG
  split
  · split
    · simp
    split
    · simp
    split
    · simp
    split
    · simp
    split
    · rename_i h
      simp only
      omega
    · simp
  · simp

end Go.Proofs.YtiniifbmeobmgaaGreatDoor

/- What is bound by Matches means the words. -/
set_option linter.unusedVariables false
set_option linter.unusedSimpArgs false
namespace Go.Proofs.YtiniifbmeobmgaaGreatDoor
open Go Go.Abs

theorem join_split (c : UInt8) : ∀ s : Str, joinB [c] (splitB c s) = s
  | [] => by simp [splitB, joinB]
  | b :: l => by
    have ih := join_split c l
    simp only [splitB]
    cases hs : splitB c l with
    | nil => exact absurd hs (splitB_ne c l)
    | cons x xs =>
      rw [hs] at ih
      by_cases hb : (b == c) = true
      · rw [if_pos hb]
        have hbc : b = c := by simpa using hb
        subst hbc
        have : joinB [b] ([] :: x :: xs) = [b] ++ joinB [b] (x :: xs) := by simp [joinB]
        rw [this, ih]
        rfl
      · rw [if_neg hb]
        cases xs with
        | nil =>
          simp only [joinB] at ih ⊢
          rw [ih]
        | cons y ys =>
          have e1 : joinB [c] (x :: y :: ys) = x ++ ([c] ++ joinB [c] (y :: ys)) := by simp [joinB]
          have e2 : joinB [c] ((b :: x) :: y :: ys) = (b :: x) ++ ([c] ++ joinB [c] (y :: ys)) := by simp [joinB]
          simp only
          rw [e2, List.cons_append, ← e1, ih]

theorem join_words (s : Str) : joinB [32] (wordsL s) = s := by
  unfold wordsL
  split
  · rename_i h
    have : s = [] := by simpa using h
    rw [this]
    rfl
  · exact join_split 32 s

theorem words_of {xs : List Str} (h : ∀ w ∈ xs, isWord w = true) : wordsL (joinB [32] xs) = xs ∧ wordsOk (joinB [32] xs) = true := by
  have e : wordsL (joinB [32] xs) = xs := by
    cases xs with
    | nil => rfl
    | cons x xs =>
      unfold wordsL
      split
      · rename_i he
        have := join_nil (fun w hw => (word_props (h w hw)).1) (by simpa using he)
        cases this
      · exact split_join fun w hw => (word_props (h w hw)).2
  refine ⟨e, ?_⟩
  unfold wordsOk
  rw [e, List.all_eq_true]
  exact h

theorem valueOf_ins (b : Bind) : ∀ {B : Binds}, valueOf B b.1 = none → ∀ n, valueOf (ins b B) n = if b.1 = n then some b.2 else valueOf B n
  | [], _, n => by
    unfold ins valueOf
    by_cases h : b.1 = n
    · simp [h]
    · have : (b.1 == n) = false := by simpa using h
      simp [this, h]
  | x :: B, h, n => by
    rw [valueOf_none] at h
    have hx := h x (by simp)
    have ih := @valueOf_ins b B (by rw [valueOf_none]; exact fun y hy => h y (by simp [hy])) n
    unfold ins
    split
    · unfold valueOf at ih ⊢
      rw [List.find?_cons, List.find?_cons]
      by_cases hn : x.1 = n
      · have hb : ¬ b.1 = n := fun e => hx (by rw [hn, e])
        have : (x.1 == n) = true := by simpa using hn
        simp [this, hb]
      · have : (x.1 == n) = false := by simpa using hn
        simp only [this]
        exact ih
    · unfold valueOf
      rw [List.find?_cons]
      by_cases hn : b.1 = n
      · have : (b.1 == n) = true := by simpa using hn
        simp [this, hn]
      · have : (b.1 == n) = false := by simpa using hn
        simp [this, hn]

section
variable {ws : List Str} {fp : Part → Nat → Nat → Bool}

theorem allB_keep : ∀ {l : List Part} {a : Nat} {B X : Binds}, X ∈ allB ws fp l a B → ∀ {n v : Str}, valueOf B n = some v → valueOf X n = some v
  | [], a, B, X, h, n, v, hv => by
    unfold allB at h
    split at h
    · simp at h; subst h; exact hv
    · cases h
  | p :: l, a, B, X, h, n, v, hv => by
    unfold allB at h
    rw [List.mem_flatMap] at h
    obtain ⟨k, _, h⟩ := h
    split at h
    · split at h
      · rename_i B' hB'
        refine allB_keep h ?_
        unfold stepA at hB'
        split at hB'
        · split at hB'
          · split at hB'
            · cases hB'; exact hv
            · cases hB'
          · rename_i hno
            cases hB'
            rw [valueOf_ins _ hno]
            split
            · rename_i he
              simp only at he
              rw [he, hv] at hno
              cases hno
            · exact hv
        · cases hB'; exact hv
      · cases h
    · cases h

theorem drop_split {α : Type} (ws : List α) (a k : Nat) : (ws.drop a).take k ++ ws.drop (a + k) = ws.drop a := by
  rw [← List.drop_drop, List.take_append_drop]

theorem allB_means (hw : ∀ w ∈ ws, isWord w = true) (hfp : ∀ p a b, p.1 = false → fp p a b = true → b = a + 1 ∧ ws[a]? = some p.2) : ∀ {l : List Part} {a : Nat} {B X : Binds} {acc : List Str}, X ∈ allB ws fp l a B → meansGo X l acc = .inl (acc ++ ws.drop a)
  | [], a, B, X, acc, h => by
    unfold allB at h
    split at h
    · rename_i ha
      subst ha
      simp [meansGo]
    · cases h
  | p :: l, a, B, X, acc, h => by
    unfold allB at h
    rw [List.mem_flatMap] at h
    obtain ⟨k, _, h⟩ := h
    split at h
    · rename_i hf
      split at h
      · rename_i B' hB'
        have ih := fun acc => allB_means hw hfp (acc := acc) h
        have hkeep := @allB_keep ws fp l (a + k) B' X h
        unfold meansGo
        cases hp : p.1 with
        | false =>
          obtain ⟨h1, h2⟩ := hfp p a (a + k) hp hf
          obtain rfl : k = 1 := by omega
          simp only [Bool.false_eq_true, if_false]
          rw [ih, List.append_assoc]
          congr 2
          obtain ⟨hlt, he⟩ := List.getElem?_eq_some_iff.1 h2
          rw [← drop_split ws a 1, List.drop_eq_getElem_cons hlt, he]
          rfl
        | true =>
          have hv : valueOf X p.2 = some (jn ws a k) := by
            refine hkeep ?_
            unfold stepA at hB'
            rw [hp] at hB'
            simp only [if_true] at hB'
            split at hB'
            · rename_i v hv
              split at hB'
              · rename_i he
                cases hB'
                rw [hv, eq_of_beq he]
              · cases hB'
            · rename_i hno
              cases hB'
              rw [valueOf_ins _ hno]
              simp
          obtain ⟨w1, w2⟩ := words_of (xs := (ws.drop a).take k) fun w hw' => hw w (List.mem_of_mem_drop (List.mem_of_mem_take hw'))
          simp only [if_true, hv]
          unfold jn
          rw [w1, w2, if_pos rfl, ih, List.append_assoc, drop_split]
      · cases h
    · cases h

theorem allB_vals (P : Bind → Prop) (hP : ∀ p a k, P (p, jn ws a k)) : ∀ {l : List Part} {a : Nat} {B X : Binds}, (∀ b ∈ B, P b) → X ∈ allB ws fp l a B → ∀ b ∈ X, P b
  | [], a, B, X, hB, h => by
    unfold allB at h
    split at h
    · simp at h; subst h; exact hB
    · cases h
  | p :: l, a, B, X, hB, h => by
    unfold allB at h
    rw [List.mem_flatMap] at h
    obtain ⟨k, _, h⟩ := h
    split at h
    · split at h
      · rename_i B' hB'
        refine allB_vals P hP (fun b hb => ?_) h
        unfold stepA at hB'
        split at hB'
        · split at hB'
          · split at hB'
            · cases hB'; exact hB b hb
            · cases hB'
          · cases hB'
            rcases mem_ins.1 hb with rfl | hb
            · exact hP _ _ _
            · exact hB b hb
        · cases hB'; exact hB b hb
      · cases h
    · cases h
end

theorem jn_len (ws : List Str) (a n : Nat) : (jn ws a n).length ≤ tot ws := by
  have h1 := joinB_len ((ws.drop a).take n)
  have h2 := tot_sub ws a n
  unfold jn
  omega

/-- By each binding that Matches answers the parts mean the text. -/
theorem matG_means {g : Gram} {l : List Part} {s : Str} {most : Int} {X : Binds} (h0 : (matG g l s most).2 = 0) (h : X ∈ (matG g l s most).1) : means l X = (s, 0) ∧ ∀ b ∈ X, b.2.length ≤ s.length + 1 := by
  unfold matG at h h0
  by_cases hc : checkG g = 0
  rotate_left
  · rw [if_neg hc] at h; cases h
  rw [if_pos hc] at h h0
  by_cases hb : l.any (badPart true) = true
  · rw [if_pos hb] at h; cases h
  rw [if_neg hb] at h h0
  by_cases hu : l.any (unkPart (names g)) = true
  · rw [if_pos hu] at h; cases h
  rw [if_neg hu] at h h0
  by_cases hw : wordsOk s = false
  · rw [if_pos hw] at h; cases h
  rw [if_neg hw] at h h0
  by_cases h2 : 200 < (wordsL s).length ∨ most < 0
  · rw [if_pos h2] at h; cases h
  rw [if_neg h2] at h h0
  have hX : X ∈ allB (wordsL s) (fpart g (wordsL s) (derT g (wordsL s))) l 0 [] := by
    split at h
    · exact h
    · cases h
  have hws : ∀ w ∈ wordsL s, isWord w = true := by
    have : wordsOk s = true := by simpa using hw
    exact List.all_eq_true.1 this
  have hm := allB_means hws (fun p a b hp hf => by
    simp only [fpart, partB] at hf
    rw [hp] at hf
    simp only [Bool.false_eq_true, if_false, Bool.and_eq_true, decide_eq_true_eq, beq_iff_eq] at hf
    exact hf) (acc := []) hX
  refine ⟨?_, fun b hb => ?_⟩
  · unfold means
    rw [if_neg hb, hm, List.nil_append, List.drop_zero]
    simp only [meansEnd, join_words]
  · have h3 := wordsL_tot s
    refine allB_vals (ws := wordsL s) (fun b => b.2.length ≤ s.length + 1) (fun p a k => ?_) (fun b hb => by simp at hb) hX b hb
    have := jn_len (wordsL s) a k
    show (jn (wordsL s) a k).length ≤ _
    omega

end Go.Proofs.YtiniifbmeobmgaaGreatDoor
