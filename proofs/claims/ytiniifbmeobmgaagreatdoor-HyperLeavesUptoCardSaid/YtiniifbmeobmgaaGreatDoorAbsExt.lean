/- Functions of the library that are taken as known: what they answer. -/
import Derived.Lib.Split
import Derived.Lib.Join
import Derived.Lib.IndexBytes
import Derived.Lib.Repeat
import Derived.Lib.SlTrimSet
import Derived.Lib.SlicesCompact
import Derived.Sort.EncStr
import Derived.Test.YtiniifbmeobmgaaGreatDoorAbsF
set_option linter.unusedVariables false
set_option linter.unusedSimpArgs false
namespace Go.Abs

def strs? : List PV → Option (List (List UInt8))
  | [] => some []
  | .str s :: l => (match strs? l with
    | some r => some (s :: r)
    | none => none)
  | _ => none

def splitB (sep : UInt8) : List UInt8 → List (List UInt8)
  | [] => [[]]
  | c :: l => if c == sep then [] :: splitB sep l else match splitB sep l with
    | x :: xs => (c :: x) :: xs
    | [] => [[c]]

def joinB (sep : List UInt8) : List (List UInt8) → List UInt8
  | [] => []
  | [x] => x
  | x :: xs => x ++ sep ++ joinB sep xs

def idxB (c : UInt8) : List UInt8 → Nat → Int
  | [], _ => -1
  | b :: l, i => if b == c then i else idxB c l (i + 1)

def cmpB : List UInt8 → List UInt8 → Int
  | [], [] => 0
  | [], _ :: _ => -1
  | _ :: _, [] => 1
  | a :: as, b :: bs => if a < b then -1 else if b < a then 1 else cmpB as bs

def listOf (x : PV) (σ : St) : Option (List PV) :=
  match x with
  | .list _ xs => some xs
  | .sref b g z off len => if z = 1 then vElems (.sref b g z off len) σ else none
  | _ => none

def extSplit : List PV → St → Option (PV × St) := fun a σ => match a with
  | [.str s, .str [c]] => if s.length < 4294967281 then some (.list .full ((splitB c s).map .str), σ) else none
  | _ => none

def extJoin : List PV → St → Option (PV × St) := fun a σ => match a with
  | [l, .str sep] => (match listOf l σ with
    | some l => (match strs? l with
      | some xs => if xs.length ≤ 140737488355328 ∧ (joinB sep xs).length ≤ 140737488355328 then some (.str (joinB sep xs), σ) else none
      | none => none)
    | none => none)
  | _ => none

def extIndexByte : List PV → St → Option (PV × St) := fun a σ => match a with
  | [.str s, .int .u8 c] => some (.int .i64 (idxB c.toNat.toUInt8 s 0), σ)
  | _ => none

def extCompare : List PV → St → Option (PV × St) := fun a σ => match a with
  | [.str s, .str t] => some (.int .i64 (cmpB s t), σ)
  | _ => none

/-- The record that lies in a typed block. -/
def bldAt (t b g : Nat) (σ : St) : Option (Nat × PV × PV) :=
  match σ[b]? with
  | some (.arr g' z [.agg [a, buf]]) => if g = g' ∧ g % 4 = 1 ∧ tyG g = t then some (z, a, buf) else none
  | _ => none

def bytes? : List PV → Option (List UInt8)
  | [] => some []
  | .int .u8 k :: l => if 0 ≤ k ∧ k < 256 then (match bytes? l with
    | some r => some (k.toNat.toUInt8 :: r)
    | none => none) else none
  | _ => none

/-- (*strings.Builder).copyCheck -/
def extCopy (t : Nat) : List PV → St → Option (PV × St) := fun a σ => match a with
  | [.ptr b g 0 0] => (match bldAt t b g σ with
    | some (z, .nilptr, buf) => some (.tuple [], σ.set b (.arr g z [.agg [.ptr b g 0 0, buf]]))
    | some (_, .ptr b' g' 0 0, _) => if b' = b ∧ g' = g then some (.tuple [], σ) else none
    | _ => none)
  | _ => none

/-- (*strings.Builder).String -/
def extStr (t tb : Nat) : List PV → St → Option (PV × St) := fun a σ => match a with
  | [.ptr b g 0 0] => (match bldAt t b g σ with
    | some (_, _, .list .nil []) => some (.str [], σ)
    | some (_, _, .sref c gc _ 0 len) => (match σ[c]? with
      | some (.arr gc' _ xs) => if gc = gc' ∧ gc % 4 = 3 ∧ tyG gc = tb ∧ 0 < len ∧ len ≤ xs.length ∧ len ≤ 140737488355328 then
          (match bytes? (xs.take len) with
          | some bs => some (.str bs, σ.set c .dead)
          | none => none) else none
      | _ => none)
    | _ => none)
  | _ => none

def extRepeat : List PV → St → Option (PV × St) := fun a σ => match a with
  | [.str s, .int .i64 c] => if 0 ≤ c ∧ c ≤ 9223372036854775807 ∧ s.length * c.toNat ≤ 140737488355328 then some (.str (Go.Lib.repeatL s c.toNat), σ) else none
  | _ => none

def extTrimRight : List PV → St → Option (PV × St) := fun a σ => match a with
  | [.str s, .str cs] => if s.length ≤ 9223372036854775807 ∧ cs.length < 4294967281 ∧ cs.all (fun c => decide (c.toNat < 128)) = true then some (.str (Go.Lib.trimRightS s cs), σ) else none
  | _ => none

/-- Strings that fill a block of the store. -/
def strRow (x : PV) (σ : St) : Option (Nat × Nat × List (List UInt8)) :=
  match x with
  | .sref b g z off len => (match σ[b]? with
    | some (.arr g' z' xs) => if g = g' ∧ z = 1 ∧ z' = 1 ∧ off = 0 ∧ len = xs.length ∧ len < 4611686018427387904 then (strs? xs).map fun ss => (b, g, ss) else none
    | _ => none)
  | _ => none

def sortS (ss : List (List UInt8)) : List (List UInt8) := ss.mergeSort fun x y => decide (x ≤ y)

/-- slices.Sort of strings -/
def extSort : List PV → St → Option (PV × St) := fun a σ => match a with
  | [.list .nil []] => some (.tuple [], σ)
  | [x] => (match strRow x σ with
    | some (b, g, ss) => some (.tuple [], σ.set b (.arr g 1 ((sortS ss).map .str)))
    | none => none)
  | _ => none

/-- slices.Compact of strings -/
def extCompact : List PV → St → Option (PV × St) := fun a σ => match a with
  | [.list .nil []] => some (.list .nil [], σ)
  | [x] => (match strRow x σ with
    | some (b, g, ss) => some (.sref b g 1 0 (Go.Lib.compact ss).length, σ.set b (.arr g 1 ((Go.Lib.compact ss ++ List.replicate (ss.length - (Go.Lib.compact ss).length) []).map .str)))
    | none => none)
  | _ => none

/-! ### Against the library's words -/

theorem cmpB_eq : ∀ (a b : List UInt8), cmpB a b = Go.Lib.compareBytes a b
  | [], [] => rfl
  | [], _ :: _ => rfl
  | _ :: _, [] => rfl
  | a :: as, b :: bs => by simp only [cmpB, Go.Lib.compareBytes, cmpB_eq as bs]

theorem idxB_eq (c : UInt8) : ∀ (l : List UInt8) (i : Nat), idxB c l i = if Go.Lib.indexByte l c = -1 then -1 else Go.Lib.indexByte l c + i
  | [], i => by simp [idxB, Go.Lib.indexByte]
  | b :: l, i => by
    have hg := Go.Lib.indexByte_ge l c
    simp only [idxB, Go.Lib.indexByte, idxB_eq c l (i + 1)]
    split
    · simp
    · by_cases h : Go.Lib.indexByte l c = -1
      · simp [h]
      · have h2 : ¬ Go.Lib.indexByte l c + 1 = -1 := by omega
        simp [h, h2]
        omega

theorem joinB_eq (sep : List UInt8) : ∀ (xs : List (List UInt8)), joinB sep xs = Go.Lib.join xs sep
  | [] => rfl
  | [x] => (Go.Lib.join_one x sep).symm
  | x :: y :: r => by
    rw [joinB, joinB_eq sep (y :: r), Go.Lib.join_cons, Go.Lib.join_cons]
    · simp [Go.Lib.joinTail]
    · simp

theorem splitB_ne (sep : UInt8) (l : List UInt8) : splitB sep l ≠ [] := by
  cases l with
  | nil => simp [splitB]
  | cons c l =>
    simp only [splitB]
    split
    · simp
    · split <;> simp

theorem splitB_miss {c : UInt8} : ∀ {s : List UInt8}, (∀ k : Nat, s[k]? ≠ some c) → splitB c s = [s]
  | [], h => rfl
  | b :: l, h => by
    have hb : b ≠ c := fun e => h 0 (by simp [e])
    have ih := splitB_miss (s := l) fun k => by simpa using h (k + 1)
    simp [splitB, hb, ih]

theorem splitB_hit {c : UInt8} : ∀ {s : List UInt8} {i : Nat}, s[i]? = some c → (∀ k : Nat, k < i → s[k]? ≠ some c) → splitB c s = s.take i :: splitB c (s.drop (i + 1))
  | [], i, h, hn => by simp at h
  | b :: l, 0, h, hn => by
    simp at h
    simp [splitB, h]
  | b :: l, i + 1, h, hn => by
    have hb : b ≠ c := fun e => hn 0 (by omega) (by simp [e])
    have ih := splitB_hit (s := l) (i := i) (by simpa using h) fun k hk => by simpa using hn (k + 1) (by omega)
    simp [splitB, hb, ih]

theorem splitB_eq (c : UInt8) : ∀ (n : Nat) (s : List UInt8), s.length ≤ n → Go.Lib.splitK [c] 0 (Go.Lib.count s [c]) s = splitB c s := by
  intro n
  induction n with
  | zero =>
    intro s hs
    obtain rfl : s = [] := List.length_eq_zero_iff.1 (by omega)
    rfl
  | succ n ih =>
    intro s hs
    by_cases h : Go.Lib.index s [c] = -1
    · rw [Go.Lib.count_miss h]
      rw [Go.Lib.index_one] at h
      rw [splitB_miss (Go.Lib.indexByte_none h)]
      rfl
    · have hg := Go.Lib.index_ge s [c]
      obtain ⟨i, hi⟩ : ∃ i : Nat, Go.Lib.index s [c] = i := ⟨(Go.Lib.index s [c]).toNat, by omega⟩
      rw [Go.Lib.count_hit (by simp) hi]
      have hi' := hi
      rw [Go.Lib.index_one] at hi'
      obtain ⟨h1, h2⟩ := Go.Lib.indexByte_some hi'
      rw [splitB_hit h1 h2]
      have hlt : i < s.length := (List.getElem?_eq_some_iff.1 h1).1
      rw [Nat.add_comm 1, Go.Lib.splitK, if_neg (by rw [hi]; simp), hi]
      simp only [Int.toNat_natCast, Nat.add_zero, List.length_singleton]
      rw [ih _ (by simp; omega)]

end Go.Abs
