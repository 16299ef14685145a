/- Instructions and their texts: plain words; the text of an instruction is read as that instruction. No program in it. -/
import Derived.Test.YtgghfcchanilpaaGreatDoorPlA
set_option linter.unusedVariables false
set_option linter.unusedSimpArgs false
namespace Go.Abs
open Go.Lib

abbrev Str := List UInt8

structure OperS where
  k : Int
  a : Int
  b : Int
  deriving DecidableEq

structure InstS where
  op : Int
  s : OperS
  t : OperS
  d : OperS
  n : Int
  k : Int
  deriving DecidableEq

def pvOper (o : OperS) : PV := .agg [.int .i64 o.k, .int .i64 o.a, .int .i64 o.b]
def pvInst (i : InstS) : PV := .agg [.int .i64 i.op, .int .i64 i.s.k, .int .i64 i.s.a, .int .i64 i.s.b, .int .i64 i.t.k, .int .i64 i.t.a, .int .i64 i.t.b, .int .i64 i.d.k, .int .i64 i.d.a, .int .i64 i.d.b, .int .i64 i.n, .int .i64 i.k]

def OperS.ok (o : OperS) : Bool := inI64 o.k && (inI64 o.a && inI64 o.b)
def InstS.ok (i : InstS) : Bool := inI64 i.op && (i.s.ok && (i.t.ok && (i.d.ok && (inI64 i.n && inI64 i.k))))

/-- The operations: name and form. -/
def opTab : List (Str × Str) := [([110, 111, 112], [45, 45, 45, 45, 45]), ([109, 111, 118, 101], [115, 45, 115, 45, 109]), ([117, 110, 100, 101, 102], [45, 45, 115, 45, 109]), ([99, 111, 110, 115, 116], [45, 45, 115, 110, 45]), ([114, 101, 97, 108], [45, 45, 115, 110, 101]), ([116, 101, 120, 116], [45, 45, 115, 45, 116]), ([102, 111, 114, 109], [45, 45, 115, 45, 116]), ([110, 105, 108], [45, 45, 115, 45, 45]), ([101, 109, 112, 116, 121], [45, 45, 115, 45, 45]), ([106, 117, 109, 112], [45, 45, 45, 45, 106]), ([102, 97, 108, 115, 101], [115, 45, 45, 45, 106]), ([99, 104, 111, 111, 115, 101], [115, 45, 45, 45, 99]), ([99, 111, 110, 102, 111, 114, 109], [115, 45, 45, 45, 99]), ([101, 110, 116, 101, 114], [45, 45, 45, 45, 103]), ([108, 101, 97, 118, 101], [111, 45, 45, 77, 103]), ([116, 105, 99, 107], [45, 45, 45, 45, 45]), ([99, 97, 108, 108], [115, 111, 111, 45, 45]), ([114, 101, 116, 117, 114, 110], [45, 45, 45, 45, 45]), ([103, 111, 116, 111], [114, 45, 45, 45, 74]), ([112, 97, 114], [45, 45, 45, 45, 99]), ([115, 116, 111, 112], [45, 45, 45, 45, 45]), ([114, 111, 117, 116], [45, 45, 115, 45, 102]), ([117, 110, 105, 116, 101], [111, 45, 115, 45, 117]), ([114, 101, 117, 110, 105, 116, 101], [115, 45, 115, 45, 112]), ([112, 97, 114, 116], [115, 45, 111, 45, 117]), ([102, 105, 101, 108, 100], [115, 45, 115, 45, 111]), ([100, 101, 114, 101, 102], [115, 45, 115, 45, 45]), ([97, 115, 115, 105, 103, 110], [115, 115, 45, 45, 45]), ([105, 115], [115, 115, 115, 45, 45]), ([117, 115, 101], [115, 45, 45, 45, 104]), ([115, 112, 97, 110], [115, 45, 45, 45, 68]), ([103, 101, 110], [111, 45, 115, 45, 104]), ([115, 117, 98], [115, 115, 115, 104, 100]), ([116, 114, 105, 109], [115, 111, 115, 98, 100]), ([114, 111, 119], [115, 45, 115, 45, 45]), ([99, 111, 108, 108, 97, 116], [111, 45, 115, 45, 107]), ([119, 105, 100, 101, 110], [115, 45, 115, 45, 45]), ([111, 112, 101, 114], [115, 111, 111, 45, 113]), ([115, 116, 100], [45, 45, 115, 45, 105]), ([116, 114, 97, 110, 115], [111, 111, 45, 45, 120])]

def knownS (n : Int) : Bool := decide (0 ≤ n) && decide (n < 40)
def entryS (n : Int) : Str × Str := opTab.getD n.toNat ([], [])
def nameS (n : Int) : Str := if knownS n then (entryS n).1 else []
def formS (n : Int) : Str := if knownS n then (entryS n).2 else []
/-- The operation of a name. -/
def findS (s : Str) : Option Nat := opTab.findIdx? fun p => p.1 == s

theorem opTab_length : opTab.length = 40 := by decide
theorem opTab_find : ∀ n : Fin 40, findS (entryS ((n.val : Nat) : Int)).1 = some n.val := by decide +kernel
theorem opTab_name : ∀ n : Fin 40, (entryS ((n.val : Nat) : Int)).1 ≠ [] ∧ (32 : UInt8) ∉ (entryS ((n.val : Nat) : Int)).1 := by decide +kernel

theorem find_name {n : Int} (h : knownS n = true) : findS (nameS n) = some n.toNat := by
  have h' := h
  simp only [knownS, Bool.and_eq_true, decide_eq_true_eq] at h'
  have := opTab_find ⟨n.toNat, by omega⟩
  simp only at this
  rw [Int.toNat_of_nonneg h'.1] at this
  unfold nameS
  rw [if_pos h, this]

theorem name_of_find {s : Str} {n : Nat} (h : findS s = some n) : n < 40 ∧ nameS (n : Int) = s := by
  obtain ⟨h1, h2, h3⟩ := List.findIdx?_eq_some_iff_getElem.1 h
  rw [opTab_length] at h1
  refine ⟨h1, ?_⟩
  unfold nameS
  rw [if_pos (by simp [knownS]; omega)]
  unfold entryS
  rw [Int.toNat_natCast, List.getD_eq_getElem?_getD, List.getElem?_eq_getElem (by rw [opTab_length]; exact h1), Option.getD_some]
  exact eq_of_beq h2

theorem name_ne {n : Int} (h : knownS n = true) : nameS n ≠ [] ∧ (32 : UInt8) ∉ nameS n := by
  have h' := h
  simp only [knownS, Bool.and_eq_true, decide_eq_true_eq] at h'
  have := opTab_name ⟨n.toNat, by omega⟩
  simp only at this
  rw [Int.toNat_of_nonneg h'.1] at this
  unfold nameS
  rw [if_pos h]
  exact this

/-- The text of an operand, and the error. -/
def spellS (o : OperS) : Str × Int :=
  if o.k = 0 then (if o.a = 0 ∧ o.b = 0 then ([45], 0) else ([], 11))
  else if o.k = 1 then (115 :: (itoaB o.a ++ 46 :: itoaB o.b), 0)
  else if o.k = 2 then (114 :: (itoaB o.a ++ 46 :: itoaB o.b), 0)
  else ([], 13)

def okKind (o : OperS) : Bool := decide (0 ≤ o.k) && decide (o.k < 3)

/-- The text of an instruction, and the error. -/
def lineS (i : InstS) : Str × Int :=
  if knownS i.op && (okKind i.s && (okKind i.t && okKind i.d)) then
    if (spellS i.s).2 ≠ 0 then ([], (spellS i.s).2)
    else if (spellS i.t).2 ≠ 0 then ([], (spellS i.t).2)
    else if (spellS i.d).2 ≠ 0 then ([], (spellS i.d).2)
    else (nameS i.op ++ 32 :: ((spellS i.s).1 ++ 32 :: ((spellS i.t).1 ++ 32 :: ((spellS i.d).1 ++ 32 :: (itoaB i.n ++ 32 :: itoaB i.k)))), 0)
  else ([], 13)

/-- An operand that has a text. -/
def goodO (o : OperS) : Bool := okKind o && decide ((spellS o).2 = 0)
def goodI (i : InstS) : Bool := knownS i.op && (goodO i.s && (goodO i.t && goodO i.d))

theorem spell_zero {o : OperS} (h : okKind o = true) (h0 : (spellS o).2 = 0) : (o.k = 0 ∧ o.a = 0 ∧ o.b = 0 ∧ (spellS o).1 = [45]) ∨ ∃ c : UInt8, (c = 115 ∧ o.k = 1 ∨ c = 114 ∧ o.k = 2) ∧ (spellS o).1 = c :: (itoaB o.a ++ 46 :: itoaB o.b) := by
  unfold spellS at *
  split at h0
  · rename_i h1
    split at h0
    · rename_i h2
      left
      rw [if_pos h1, if_pos h2]
      exact ⟨h1, h2.1, h2.2, rfl⟩
    · cases h0
  · rename_i h1
    split at h0
    · rename_i h2
      right
      rw [if_neg h1, if_pos h2]
      exact ⟨115, .inl ⟨rfl, h2⟩, rfl⟩
    · rename_i h2
      split at h0
      · rename_i h3
        right
        rw [if_neg h1, if_neg h2, if_pos h3]
        exact ⟨114, .inr ⟨rfl, h3⟩, rfl⟩
      · cases h0

theorem line_good {i : InstS} (h : goodI i = true) : lineS i = (nameS i.op ++ 32 :: ((spellS i.s).1 ++ 32 :: ((spellS i.t).1 ++ 32 :: ((spellS i.d).1 ++ 32 :: (itoaB i.n ++ 32 :: itoaB i.k)))), 0) := by
  simp only [goodI, goodO, Bool.and_eq_true, decide_eq_true_eq] at h
  obtain ⟨h0, ⟨h1, h2⟩, ⟨h3, h4⟩, h5, h6⟩ := h
  unfold lineS
  simp only [h0, h1, h3, h5, h2, h4, h6, Bool.and_self, if_true, ne_eq, not_true, if_false]

theorem line_bad {i : InstS} (h : goodI i = false) : (lineS i).1 = [] ∧ (lineS i).2 ≠ 0 := by
  unfold lineS
  split
  · rename_i h1
    simp only [Bool.and_eq_true] at h1
    obtain ⟨a0, a1, a2, a3⟩ := h1
    split
    · rename_i h2; exact ⟨rfl, h2⟩
    · rename_i h2
      split
      · rename_i h3; exact ⟨rfl, h3⟩
      · rename_i h3
        split
        · rename_i h4; exact ⟨rfl, h4⟩
        · rename_i h4
          simp only [ne_eq, Decidable.not_not] at h2 h3 h4
          simp [goodI, goodO, a0, a1, a2, a3, h2, h3, h4] at h
  · exact ⟨rfl, by decide⟩

theorem line_ok {i : InstS} : (lineS i).2 = 0 ↔ goodI i = true := by
  constructor
  · intro h
    cases hg : goodI i with
    | true => rfl
    | false => exact absurd h (line_bad hg).2
  · intro h
    rw [line_good h]

/-! ### Read loosely -/

/-- The number of a text. -/
def numS (s : Str) : Int := match atoiAll s with
  | .ok v => v
  | NumEnd.syntax => 0
  | .range => atoiSat s

/-- An operand's text, read loosely. -/
def readS (s : Str) : OperS :=
  match s with
  | c :: c' :: r => ⟨if c = 115 then 1 else if c = 114 then 2 else 0, numS (cut (c' :: r) [46]).1, numS (cut (c' :: r) [46]).2.1⟩
  | _ => ⟨0, 0, 0⟩

/-- An instruction's text, read loosely. -/
def looseS (l : List Str) : Option InstS :=
  match l with
  | [a, b, c, d, e, f] => some ⟨((findS a).getD 0 : Nat), readS b, readS c, readS d, numS e, numS f⟩
  | _ => none

theorem num_itoa {n : Int} (h : inI64 n = true) : numS (itoaB n) = n := by
  unfold numS
  rw [atoi_itoa h]

theorem read_spell {o : OperS} (hk : goodO o = true) (ho : o.ok = true) : readS (spellS o).1 = o ∧ (32 : UInt8) ∉ (spellS o).1 := by
  simp only [goodO, Bool.and_eq_true, decide_eq_true_eq] at hk
  simp only [OperS.ok, Bool.and_eq_true] at ho
  rcases spell_zero hk.1 hk.2 with ⟨h1, h2, h3, h4⟩ | ⟨c, hc, he⟩
  · rw [h4]
    refine ⟨?_, by decide⟩
    show OperS.mk 0 0 0 = o
    cases o
    simp_all
  · rw [he]
    have n1 := itoa_no ho.2.1 (b := 46) (.inr rfl)
    have m1 := itoa_no ho.2.1 (b := 32) (.inl rfl)
    have m2 := itoa_no ho.2.2 (b := 32) (.inl rfl)
    have hne := itoa_ne ho.2.1
    have hcut := cut_hit (itoaB o.b) n1
    constructor
    · cases hi : itoaB o.a with
      | nil => exact absurd hi hne
      | cons x r =>
        rw [hi] at hcut
        simp only [List.cons_append] at hcut ⊢
        simp only [readS, hcut, ← hi, num_itoa ho.2.1, num_itoa ho.2.2]
        cases o
        rcases hc with ⟨rfl, hk⟩ | ⟨rfl, hk⟩
        · simp only at hk; subst hk; rfl
        · simp only at hk; subst hk; rfl
    · intro hm
      rcases List.mem_cons.1 hm with e | hm
      · rcases hc with ⟨rfl, _⟩ | ⟨rfl, _⟩ <;> exact absurd e (by decide)
      · rcases List.mem_append.1 hm with hm | hm
        · exact m1 hm
        · rcases List.mem_cons.1 hm with e | hm
          · exact absurd e (by decide)
          · exact m2 hm

/-- The text of an instruction falls into its words. -/
theorem split_line {i : InstS} (h : goodI i = true) (hi : i.ok = true) : splitB 32 (lineS i).1 = [nameS i.op, (spellS i.s).1, (spellS i.t).1, (spellS i.d).1, itoaB i.n, itoaB i.k] := by
  rw [line_good h]
  simp only [goodI, Bool.and_eq_true] at h
  simp only [InstS.ok, Bool.and_eq_true] at hi
  obtain ⟨h0, h1, h2, h3⟩ := h
  obtain ⟨_, i1, i2, i3, i4, i5⟩ := hi
  rw [splitB_at _ (name_ne h0).2, splitB_at _ (read_spell h1 i1).2, splitB_at _ (read_spell h2 i2).2, splitB_at _ (read_spell h3 i3).2, splitB_at _ (itoa_no i4 (.inl rfl)), splitB_last (itoa_no i5 (.inl rfl))]

theorem loose_line {i : InstS} (h : goodI i = true) (hi : i.ok = true) : looseS (splitB 32 (lineS i).1) = some i := by
  rw [split_line h hi]
  simp only [goodI, Bool.and_eq_true] at h
  simp only [InstS.ok, Bool.and_eq_true] at hi
  obtain ⟨h0, h1, h2, h3⟩ := h
  obtain ⟨_, i1, i2, i3, i4, i5⟩ := hi
  simp only [looseS, find_name h0, (read_spell h1 i1).1, (read_spell h2 i2).1, (read_spell h3 i3).1, num_itoa i4, num_itoa i5, Option.getD_some]
  have : ((i.op.toNat : Nat) : Int) = i.op := by
    simp only [knownS, Bool.and_eq_true, decide_eq_true_eq] at h0
    omega
  rw [this]

/-- The instruction of a text, as the package has it. -/
def instS (s : Str) : InstS × Int :=
  match looseS (splitB 32 s) with
  | some i => if (findS ((splitB 32 s).headD [])).isSome && (decide ((lineS i).2 = 0) && ((lineS i).1 == s)) then (i, 0) else (⟨0, ⟨0, 0, 0⟩, ⟨0, 0, 0⟩, ⟨0, 0, 0⟩, 0, 0⟩, 9)
  | none => (⟨0, ⟨0, 0, 0⟩, ⟨0, 0, 0⟩, ⟨0, 0, 0⟩, 0, 0⟩, 9)

theorem inst_line {i : InstS} (h : goodI i = true) (hi : i.ok = true) : instS (lineS i).1 = (i, 0) := by
  unfold instS
  rw [loose_line h hi]
  have h2 := split_line h hi
  simp only [h2, List.headD_cons]
  have h' := h
  simp only [goodI, Bool.and_eq_true] at h'
  rw [find_name h'.1]
  simp [line_ok.2 h]

end Go.Abs
