/- The text of an instruction read exactly, word by word: it comes to the same as what is read loosely and written again. No program in it. -/
import Derived.Test.YtgghfcchanilpaaGreatDoorPlB
set_option linter.unusedVariables false
set_option linter.unusedSimpArgs false
namespace Go.Abs
open Go.Lib

def decGo (n : Nat) : Str → Option Nat
  | [] => some n
  | c :: r => if c.toNat < 48 ∨ 57 < c.toNat ∨ 922337203685477581 < n then none else decGo (n * 10 + (c.toNat - 48)) r

def isNeg (s : Str) : Bool := s.head? == some 45
def magR (s : Str) : Str := if isNeg s then s.tail else s
def valR (neg : Bool) (n : Nat) : Int := if neg then IntKind.wrap .i64 (0 - IntKind.wrap .i64 n) else IntKind.wrap .i64 n

/-- A number, read exactly. -/
def decR (s : Str) : Int × Bool :=
  match decGo 0 (magR s) with
  | none => (0, false)
  | some n => (valR (isNeg s) n, itoaB (valR (isNeg s) n) == s)

theorem decGo_dec (u : Nat) : u ≤ 9223372036854775808 → ∀ rest, decGo 0 (decDigits u ++ rest) = decGo u rest := by
  induction u using Nat.strongRecOn with
  | _ u ih =>
    intro hu rest
    rw [decDigits]
    split
    · rename_i h
      simp only [List.cons_append, List.nil_append, decGo, u8_digit h]
      rw [if_neg (by omega)]
      congr 1
      omega
    · rename_i h
      rw [List.append_assoc, ih (u / 10) (by omega) (by omega)]
      have hd : u % 10 < 10 := Nat.mod_lt _ (by decide)
      simp only [List.cons_append, List.nil_append, decGo, u8_digit hd]
      rw [if_neg (by omega)]
      congr 1
      omega

theorem wrap_i64 (n : Int) : IntKind.wrap .i64 n = (n + 9223372036854775808) % 18446744073709551616 - 9223372036854775808 := by
  show (if (true && decide (n % (2 ^ 64 : Int) ≥ (2 ^ 63 : Int))) = true then n % (2 ^ 64 : Int) - (2 ^ 64 : Int) else n % (2 ^ 64 : Int)) = _
  simp only [Bool.true_and, decide_eq_true_eq]
  have e1 : (2 ^ 64 : Int) = 18446744073709551616 := by decide
  have e2 : (2 ^ 63 : Int) = 9223372036854775808 := by decide
  rw [e1, e2]
  split <;> omega

theorem wrap_in (n : Int) : inI64 (IntKind.wrap .i64 n) = true := by
  rw [wrap_i64]
  exact inI64_of (by omega) (by omega)

theorem decR_itoa {n : Int} (h : inI64 n = true) : decR (itoaB n) = (n, true) := by
  have hb := h
  simp only [inI64, Bool.and_eq_true, decide_eq_true_eq] at hb
  have e := itoaB_eq h
  unfold itoa at e
  by_cases hn : n < 0
  · rw [if_pos hn] at e
    have e1 : isNeg (itoaB n) = true := by rw [e]; rfl
    have e2 : magR (itoaB n) = decDigits n.natAbs := by unfold magR; rw [e1, if_pos rfl, e]; rfl
    have e3 := decGo_dec n.natAbs (by omega) []
    rw [List.append_nil] at e3
    have e4 : valR true n.natAbs = n := by
      unfold valR
      rw [if_pos rfl, wrap_i64, wrap_i64]
      omega
    unfold decR
    rw [e2, e3]
    simp only [decGo, e1, e4, BEq.rfl]
  · rw [if_neg hn] at e
    have e1 : isNeg (itoaB n) = false := by
      rw [e]
      unfold isNeg
      cases hd : decDigits n.toNat with
      | nil => exact absurd hd (decDigits_ne _)
      | cons c r =>
        have := dec_mem n.toNat c (by rw [hd]; simp)
        simp only [List.head?_cons, beq_eq_false_iff_ne, ne_eq, Option.some.injEq]
        rintro rfl
        exact absurd this.1 (by decide)
    have e2 : magR (itoaB n) = decDigits n.toNat := by unfold magR; rw [e1, if_neg (by decide), e]
    have e3 := decGo_dec n.toNat (by omega) []
    rw [List.append_nil] at e3
    have e4 : valR false n.toNat = n := by
      unfold valR
      rw [if_neg (by decide), wrap_i64]
      omega
    unfold decR
    rw [e2, e3]
    simp only [decGo, e1, e4, BEq.rfl]

theorem itoa_of_dec {s : Str} {v : Int} (h : decR s = (v, true)) : itoaB v = s ∧ inI64 v = true := by
  unfold decR at h
  split at h
  · cases h
  · rename_i n _
    obtain ⟨rfl, h2⟩ := Prod.mk.inj h
    refine ⟨eq_of_beq h2, ?_⟩
    unfold valR
    split <;> exact wrap_in _

/-- An operand, read exactly. -/
def operR (s : Str) : OperS × Bool :=
  if s = [45] then (⟨0, 0, 0⟩, true)
  else if s.length < 4 ∨ (s.head? ≠ some 115 ∧ s.head? ≠ some 114) then (⟨0, 0, 0⟩, false)
  else if (46 : UInt8) ∈ s.tail then
    (⟨if s.head? = some 114 then 2 else 1, (decR (cut s.tail [46]).1).1, (decR (cut s.tail [46]).2.1).1⟩, (decR (cut s.tail [46]).1).2 && (decR (cut s.tail [46]).2.1).2)
  else (⟨0, 0, 0⟩, false)

theorem operR_spell {o : OperS} (hk : goodO o = true) (ho : o.ok = true) : operR (spellS o).1 = (o, true) := by
  simp only [goodO, Bool.and_eq_true, decide_eq_true_eq] at hk
  simp only [OperS.ok, Bool.and_eq_true] at ho
  rcases spell_zero hk.1 hk.2 with ⟨h1, h2, h3, h4⟩ | ⟨c, hc, he⟩
  · rw [h4]
    unfold operR
    rw [if_pos rfl]
    cases o
    simp_all
  · rw [he]
    have hcut := cut_hit (itoaB o.b) (itoa_no ho.2.1 (b := 46) (.inr rfl))
    have hne := itoa_ne ho.2.1
    have hne2 := itoa_ne ho.2.2
    have l1 := List.length_pos_iff.2 hne
    have l2 := List.length_pos_iff.2 hne2
    unfold operR
    rw [if_neg (by intro e; have := congrArg List.length e; simp at this)]
    rw [if_neg (by
      intro e
      rcases e with e | ⟨e1, e2⟩
      · simp at e
        omega
      · rcases hc with ⟨rfl, _⟩ | ⟨rfl, _⟩
        · exact e1 rfl
        · exact e2 rfl)]
    rw [if_pos (show (46 : UInt8) ∈ (c :: (itoaB o.a ++ 46 :: itoaB o.b)).tail by simp)]
    simp only [List.tail_cons, List.head?_cons]
    rw [hcut, decR_itoa ho.2.1, decR_itoa ho.2.2]
    cases o
    rcases hc with ⟨rfl, hk⟩ | ⟨rfl, hk⟩
    · simp only at hk; subst hk; rfl
    · simp only at hk; subst hk; rfl

theorem spell_of_oper {s : Str} {o : OperS} (h : operR s = (o, true)) : goodO o = true ∧ o.ok = true ∧ (spellS o).1 = s := by
  unfold operR at h
  split at h
  · rename_i h1
    obtain ⟨rfl, _⟩ := Prod.mk.inj h
    subst h1
    exact ⟨by decide, by decide, by decide⟩
  split at h
  · cases h
  rename_i h0 h1
  split at h
  · rename_i h2
    obtain ⟨rfl, h3⟩ := Prod.mk.inj h
    simp only [Bool.and_eq_true] at h3
    match s, h1, h2 with
    | [], h1, h2 => simp at h2
    | c :: r, h1, h2 =>
      simp only [List.tail_cons, List.head?_cons] at h2 h3 ⊢
      simp only [List.head?_cons, not_or, ne_eq, not_and, Decidable.not_not, Option.some.injEq] at h1
      obtain ⟨a1, a2⟩ := itoa_of_dec (Prod.ext rfl h3.1)
      obtain ⟨b1, b2⟩ := itoa_of_dec (Prod.ext rfl h3.2)
      have hr : r = itoaB (decR (cut r [46]).1).1 ++ 46 :: itoaB (decR (cut r [46]).2.1).1 := by
        rw [a1, b1]
        obtain ⟨i, hi⟩ : ∃ i : Nat, index r [46] = i := by
          have hg := index_ge r [46]
          by_cases e : index r [46] = -1
          · rw [index_one] at e
            obtain ⟨k, hk⟩ := List.getElem?_of_mem h2
            exact absurd hk (indexByte_none e k)
          · exact ⟨(index r [46]).toNat, by omega⟩
        unfold cut
        rw [hi, if_pos (by omega)]
        simp only [Int.toNat_natCast, List.length_singleton]
        rw [index_one] at hi
        obtain ⟨k1, k2⟩ := indexByte_some hi
        have : r.drop i = 46 :: r.drop (i + 1) := by
          rw [List.drop_eq_getElem_cons (List.getElem?_eq_some_iff.1 k1).1]
          rw [(List.getElem?_eq_some_iff.1 k1).2]
        rw [← this, List.take_append_drop]
      by_cases hc : c = 114
      · subst hc
        simp only [if_true]
        refine ⟨by simp [goodO, okKind, spellS], by simp [OperS.ok, a2, b2]; decide, ?_⟩
        simp only [spellS]
        rw [← hr]
        rfl
      · obtain rfl : c = 115 := by
          by_cases hc2 : c = 115
          · exact hc2
          · exact absurd (h1.2 hc2) hc
        simp only [Option.some.injEq, hc, if_false]
        refine ⟨by simp [goodO, okKind, spellS], by simp [OperS.ok, a2, b2]; decide, ?_⟩
        simp only [spellS]
        rw [← hr]
        rfl
  · cases h

def zeroI : InstS := ⟨0, ⟨0, 0, 0⟩, ⟨0, 0, 0⟩, ⟨0, 0, 0⟩, 0, 0⟩

/-- The instruction of a text, as the reference has it. -/
def instR (s : Str) : InstS × Int :=
  match splitB 32 s with
  | [a, b, c, d, e, f] =>
    if (findS a).isSome && ((operR b).2 && ((operR c).2 && ((operR d).2 && ((decR e).2 && (decR f).2)))) then (⟨((findS a).getD 0 : Nat), (operR b).1, (operR c).1, (operR d).1, (decR e).1, (decR f).1⟩, 0) else (zeroI, 9)
  | _ => (zeroI, 9)

theorem joinB_splitB (c : UInt8) : ∀ s : Str, joinB [c] (splitB c s) = s
  | [] => rfl
  | b :: l => by
    have ih := joinB_splitB c l
    simp only [splitB]
    split
    · rename_i hb
      obtain rfl := eq_of_beq hb
      cases hs : splitB b l with
      | nil => exact absurd hs (splitB_ne b l)
      | cons x xs =>
        rw [hs] at ih
        rw [joinB, ih]
        · rfl
        · simp
    · cases hs : splitB c l with
      | nil => exact absurd hs (splitB_ne c l)
      | cons x xs =>
        rw [hs] at ih
        cases xs with
        | nil => simp only [joinB] at ih ⊢; rw [ih]
        | cons y ys => simp only [joinB] at ih ⊢; rw [← ih]; rfl

theorem atoi_in {s : Str} : inI64 (numS s) = true := by
  unfold numS
  cases h : atoiAll s with
  | ok v =>
    have := atoiAll_bounds h
    exact inI64_of this.1 this.2
  | range =>
    have := atoiSat_bounds s
    exact inI64_of this.1 this.2
  | _ => exact (by decide : inI64 0 = true)

theorem read_in {s : Str} : (readS s).ok = true := by
  unfold readS
  split
  · simp only [OperS.ok, atoi_in, Bool.and_true]
    split
    · decide
    · split <;> decide
  · decide

/-- Both ways of reading come to the same. -/
theorem inst_both (s : Str) : instS s = instR s := by
  unfold instR
  split
  · rename_i a b c d e f hs
    split
    · rename_i h
      simp only [Bool.and_eq_true] at h
      obtain ⟨h0, h1, h2, h3, h4, h5⟩ := h
      obtain ⟨n, hn⟩ := Option.isSome_iff_exists.1 h0
      obtain ⟨n1, n2⟩ := name_of_find hn
      obtain ⟨g1, o1, t1⟩ := spell_of_oper (Prod.ext rfl h1)
      obtain ⟨g2, o2, t2⟩ := spell_of_oper (Prod.ext rfl h2)
      obtain ⟨g3, o3, t3⟩ := spell_of_oper (Prod.ext rfl h3)
      obtain ⟨t4, o4⟩ := itoa_of_dec (Prod.ext rfl h4)
      obtain ⟨t5, o5⟩ := itoa_of_dec (Prod.ext rfl h5)
      rw [hn, Option.getD_some]
      have hg : goodI ⟨(n : Int), (operR b).1, (operR c).1, (operR d).1, (decR e).1, (decR f).1⟩ = true := by
        simp only [goodI, g1, g2, g3, Bool.and_true]
        simp [knownS]
        omega
      have hok : InstS.ok ⟨(n : Int), (operR b).1, (operR c).1, (operR d).1, (decR e).1, (decR f).1⟩ = true := by
        simp only [InstS.ok, o1, o2, o3, o4, o5, Bool.and_true]
        exact inI64_of (by omega) (by omega)
      have hl := line_good hg
      simp only [n2, t1, t2, t3, t4, t5] at hl
      have hj := joinB_splitB 32 s
      rw [hs] at hj
      have hls : (lineS ⟨(n : Int), (operR b).1, (operR c).1, (operR d).1, (decR e).1, (decR f).1⟩).1 = s := by
        rw [hl, ← hj]
        simp [joinB]
      have := inst_line hg hok
      rw [hls] at this
      exact this
    · rename_i h
      have key : ∀ i, looseS (splitB 32 s) = some i → lineS i = (s, 0) → False := by
        intro i hi hl
        have hg : goodI i = true := line_ok.1 (by rw [hl])
        have hok : i.ok = true := by
          rw [hs] at hi
          simp only [looseS, Option.some.injEq] at hi
          subst hi
          simp only [InstS.ok, read_in, atoi_in, Bool.and_true]
          simp only [goodI, Bool.and_eq_true, knownS, decide_eq_true_eq] at hg
          exact inI64_of (by omega) (by omega)
        have h2 := split_line hg hok
        rw [hl] at h2
        rw [hs] at h2
        simp only [List.cons.injEq, and_true] at h2
        obtain ⟨rfl, rfl, rfl, rfl, rfl, rfl⟩ := h2
        simp only [goodI, Bool.and_eq_true] at hg
        simp only [InstS.ok, Bool.and_eq_true] at hok
        obtain ⟨g0, g1, g2, g3⟩ := hg
        obtain ⟨_, o1, o2, o3, o4, o5⟩ := hok
        rw [find_name g0, operR_spell g1 o1, operR_spell g2 o2, operR_spell g3 o3, decR_itoa o4, decR_itoa o5] at h
        exact h rfl
      unfold instS
      cases hl : looseS (splitB 32 s) with
      | none => rfl
      | some i =>
        simp only
        rw [if_neg]
        · rfl
        · intro hh
          simp only [Bool.and_eq_true, decide_eq_true_eq] at hh
          exact key i hl (Prod.ext (eq_of_beq hh.2.2) hh.2.1)
  · rename_i hne
    unfold instS
    have : looseS (splitB 32 s) = none := by
      unfold looseS
      split
      · rename_i a b c d e f h
        exact absurd h (hne a b c d e f)
      · rfl
    rw [this]
    rfl

/-- The text of the instruction that was read. -/
theorem inst_back {s : Str} (h : (instS s).2 = 0) : lineS (instS s).1 = (s, 0) := by
  unfold instS at h ⊢
  cases hl : looseS (splitB 32 s) with
  | none => rw [hl] at h; cases h
  | some i =>
    rw [hl] at h
    simp only at h ⊢
    split at h
    · rename_i hh
      rw [if_pos hh]
      simp only [Bool.and_eq_true, decide_eq_true_eq] at hh
      exact Prod.ext (eq_of_beq hh.2.2) hh.2.1
    · cases h

theorem inst_err (s : Str) : (instS s).2 = 0 ∨ (instS s).1 = zeroI ∧ (instS s).2 = 9 := by
  unfold instS
  split
  · split
    · exact .inl rfl
    · exact .inr ⟨rfl, rfl⟩
  · exact .inr ⟨rfl, rfl⟩

end Go.Abs
