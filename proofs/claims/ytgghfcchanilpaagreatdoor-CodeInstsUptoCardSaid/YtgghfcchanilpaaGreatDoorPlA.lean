/- Plain words on decimal numerals and on texts cut at a byte. No program in it. -/
import Derived.Lib.AtoiAllCases
import Derived.Lib.ParseIntBTie
import Derived.Test.YtgghfcchanilpaaGreatDoorAbsExt
set_option linter.unusedVariables false
set_option linter.unusedSimpArgs false
namespace Go.Abs
open Go.Lib

theorem any_cons_false {α : Type} {q : α → Bool} {l : List α} {i : Nat} {a : α} (hp : (l.take i).any q = false) (h : l[i]? = some a) (hq : q a = false) : (l.take (i + 1)).any q = false := by
  rw [List.take_add_one, h, List.any_append, hp]
  simp [hq]

theorem any_of_get {α : Type} {q : α → Bool} {l : List α} {i : Nat} {a : α} (h : l[i]? = some a) (hq : q a = true) : l.any q = true := List.any_eq_true.2 ⟨a, List.mem_of_getElem? h, hq⟩

theorem u8_digit {d : Nat} (h : d < 10) : (UInt8.ofNat (48 + d)).toNat = 48 + d := by
  simp [UInt8.toNat_ofNat']
  omega

theorem parseUint10_dec (u : Nat) : u < 18446744073709551616 → ∀ rest, parseUint10 0 (decDigits u ++ rest) = parseUint10 u rest := by
  induction u using Nat.strongRecOn with
  | _ u ih =>
    intro hu rest
    rw [decDigits]
    split
    · rename_i h
      simp only [List.cons_append, List.nil_append, parseUint10, u8_digit h]
      rw [if_pos (by omega), if_neg (by omega), if_neg (by omega)]
      congr 1
      omega
    · rename_i h
      rw [List.append_assoc, ih (u / 10) (by omega) (by omega)]
      have hd : u % 10 < 10 := Nat.mod_lt _ (by decide)
      simp only [List.cons_append, List.nil_append, parseUint10, u8_digit hd]
      rw [if_pos (by omega), if_neg (by omega), if_neg (by omega)]
      congr 1
      omega

theorem decDigits_ne (u : Nat) : decDigits u ≠ [] := by
  rw [decDigits]
  split <;> simp

theorem dec_mem (u : Nat) : ∀ c ∈ decDigits u, 48 ≤ c.toNat ∧ c.toNat ≤ 57 := by
  induction u using Nat.strongRecOn with
  | _ u ih =>
    rw [decDigits]
    split
    · rename_i h
      intro c hc
      obtain rfl : c = UInt8.ofNat (48 + u) := by simpa using hc
      rw [u8_digit h]
      omega
    · rename_i h
      intro c hc
      rcases List.mem_append.1 hc with hc | hc
      · exact ih (u / 10) (by omega) c hc
      · have hd : u % 10 < 10 := Nat.mod_lt _ (by decide)
        obtain rfl : c = UInt8.ofNat (48 + u % 10) := by simpa using hc
        rw [u8_digit hd]
        omega

theorem parseMag_dec {u : Nat} (h : u < 18446744073709551616) : parseMag (decDigits u) = .ok u := by
  unfold parseMag
  rw [if_neg (decDigits_ne u)]
  have := parseUint10_dec u h []
  rw [List.append_nil] at this
  rw [this]
  rfl

/-- What is written is read. -/
theorem atoi_itoa {n : Int} (h : inI64 n = true) : atoiAll (itoaB n) = .ok n := by
  rw [itoaB_eq h]
  simp only [inI64, Bool.and_eq_true, decide_eq_true_eq] at h
  unfold itoa
  split
  · rename_i hn
    rw [atoiAll_minus, parseMag_dec (by omega)]
    simp only [signed]
    rw [if_neg (by omega)]
    congr 1
    omega
  · rename_i hn
    have h1 := parseMag_dec (u := n.toNat) (by omega)
    have h2 := dec_mem n.toNat
    cases hd : decDigits n.toNat with
    | nil => exact absurd hd (decDigits_ne _)
    | cons c r =>
      rw [hd] at h1 h2
      have hc := h2 c (by simp)
      rw [atoiAll_plain c r (by omega) (by omega), h1]
      simp only [signless]
      rw [if_neg (by omega)]
      congr 1
      omega

theorem itoa_mem {n : Int} (h : inI64 n = true) : ∀ c ∈ itoaB n, c = 45 ∨ (48 ≤ c.toNat ∧ c.toNat ≤ 57) := by
  rw [itoaB_eq h]
  unfold itoa
  intro c hc
  split at hc
  · rcases List.mem_cons.1 hc with rfl | hc
    · exact .inl rfl
    · exact .inr (dec_mem _ c hc)
  · exact .inr (dec_mem _ c hc)

theorem itoa_ne {n : Int} (h : inI64 n = true) : itoaB n ≠ [] := by
  rw [itoaB_eq h]
  unfold itoa
  split
  · simp
  · exact decDigits_ne _

theorem itoa_no {n : Int} (h : inI64 n = true) {b : UInt8} (hb : b = 32 ∨ b = 46) : b ∉ itoaB n := by
  intro hm
  rcases itoa_mem h b hm with e | ⟨e1, e2⟩
  · rcases hb with rfl | rfl <;> exact absurd e (by decide)
  · rcases hb with rfl | rfl
    · exact absurd e1 (by decide)
    · exact absurd e1 (by decide)

theorem inI64_of {n : Int} (h1 : -9223372036854775808 ≤ n) (h2 : n ≤ 9223372036854775807) : inI64 n = true := by
  simp only [inI64, Bool.and_eq_true, decide_eq_true_eq]
  exact ⟨h1, h2⟩

/-! ### Texts cut at a byte -/

theorem indexByte_hit {c : UInt8} : ∀ {s : List UInt8} (t : List UInt8), c ∉ s → indexByte (s ++ c :: t) c = (s.length : Int)
  | [], t, _ => by simp [indexByte]
  | b :: l, t, h => by
    have h1 : (b == c) = false := by
      rw [beq_eq_false_iff_ne]
      exact fun e => h (by simp [e])
    have h2 := indexByte_hit (s := l) t (fun hm => h (List.mem_cons_of_mem _ hm))
    simp only [List.cons_append, indexByte, h1, h2, Bool.false_eq_true, if_false, List.length_cons]
    have h3 : (((l.length : Int)) == -1) = false := by
      rw [beq_eq_false_iff_ne]
      omega
    simp only [h3, Bool.false_eq_true, if_false]
    omega

theorem cut_hit {c : UInt8} {s : List UInt8} (t : List UInt8) (h : c ∉ s) : cut (s ++ c :: t) [c] = (s, t, true) := by
  unfold cut
  rw [index_one, indexByte_hit t h, if_pos (by omega)]
  simp

theorem splitB_last {c : UInt8} {s : List UInt8} (h : c ∉ s) : splitB c s = [s] := splitB_miss fun k hk => h (List.mem_of_getElem? hk)

theorem splitB_at {c : UInt8} : ∀ {s : List UInt8} (t : List UInt8), c ∉ s → splitB c (s ++ c :: t) = s :: splitB c t
  | [], t, _ => by simp [splitB]
  | b :: l, t, h => by
    have h1 : (b == c) = false := by
      rw [beq_eq_false_iff_ne]
      exact fun e => h (by simp [e])
    have h2 := splitB_at (s := l) t (fun hm => h (List.mem_cons_of_mem _ hm))
    simp only [List.cons_append, splitB, h1, h2, Bool.false_eq_true, if_false]

end Go.Abs
