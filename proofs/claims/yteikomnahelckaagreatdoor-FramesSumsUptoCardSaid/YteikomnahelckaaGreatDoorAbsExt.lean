import Derived.Lib.Split
import Derived.Lib.Join
import Derived.Lib.IndexMore
import Derived.Lib.Replace
import Derived.Lib.AtoiAll
import Derived.Lib.ParseIntB
import Derived.Lib.ItoaNum
import Derived.Lib.SlicesCompact
import Derived.Lib.Fields
import Derived.Test.YteikomnahelckaaGreatDoorAbsF
set_option linter.unusedVariables false
set_option linter.unusedSimpArgs false
namespace Go.Abs
def strs? : List PV → Option (List (List UInt8))
 | [] => some []
 | .str s :: l => (match strs? l with
  | some r => some (s :: r)
  | none => none)
 | _ => none
def ints? : List PV → Option (List Int)
 | [] => some []
 | .int .i64 n :: l => (match ints? l with
  | some r => some (n :: r)
  | none => none)
 | _ => none
def splitB (sep : UInt8) : List UInt8 → List (List UInt8)
 | [] => [[]]
 | c :: l => if c == sep then [] :: splitB sep l else match splitB sep l with
  | x :: xs => (c :: x) :: xs
  | [] => [[c]]
def joinB (sep : List UInt8) : List (List UInt8) → List UInt8
 | [] => []
 | [x] => x
 | x :: xs => x ++ sep ++ joinB sep xs
def listOf (x : PV) (σ : St) : Option (List PV) :=
 match x with
 | .list _ xs => some xs
 | .sref b g z off len => if z = 1 then vElems (.sref b g z off len) σ else none
 | _ => none
def digF : Nat → Nat → List UInt8 → List UInt8
 | 0,_,acc => acc
 | n + 1,u,acc => if u < 10 then UInt8.ofNat (48 + u) :: acc else digF n (u / 10) (UInt8.ofNat (48 + u % 10) :: acc)
def itoaB (n : Int) : List UInt8 := if n < 0 then 45 :: digF 20 n.natAbs [] else digF 20 n.toNat []
def inI64 (n : Int) : Bool := decide (-9223372036854775808 ≤ n) && decide (n ≤ 9223372036854775807)
def extItoa : List PV → St → Option (PV × St) := fun a σ => match a with
 | [.int .i64 n] => if inI64 n then some (.str (itoaB n),σ) else none
 | _ => none
def extSplit : List PV → St → Option (PV × St) := fun a σ => match a with
 | [.str s,.str [c]] => if s.length < 4294967281 then some (.list .full ((splitB c s).map .str),σ) else none
 | [.str s,.str t] => if s.length < 4294967281 ∧ 1 ≤ t.length then some (.list .full ((Go.Lib.splitK t 0 (Go.Lib.count s t) s).map .str),σ) else none
 | _ => none
def extReplace : List PV → St → Option (PV × St) := fun a σ => match a with
 | [.str s,.str t,.str u] => if s.length < 65536 ∧ 1 ≤ t.length ∧ u.length < 65536 then some (.str (Go.Lib.replaceAll s t u),σ) else none
 | _ => none
def extJoin : List PV → St → Option (PV × St) := fun a σ => match a with
 | [l,.str sep] => (match listOf l σ with
  | some l => (match strs? l with
   | some xs => if xs.length ≤ 140737488355328 ∧ (joinB sep xs).length ≤ 140737488355328 then some (.str (joinB sep xs),σ) else none
   | none => none)
  | none => none)
 | _ => none
def extFields : List PV → St → Option (PV × St) := fun a σ => match a with
 | [.str s] => if s.length < 4294967281 ∧ s.all (fun b => decide (b.toNat < 128)) = true then some (.list .full ((Go.Lib.fields s).map .str),σ) else none
 | _ => none
def bldAt (t b g : Nat) (σ : St) : Option (Nat × PV × PV) :=
 match σ[b]? with
 | some (.arr g' z [.agg [a,buf]]) => if g = g' ∧ g % 4 = 1 ∧ tyG g = t then some (z,a,buf) else none
 | _ => none
def bytes? : List PV → Option (List UInt8)
 | [] => some []
 | .int .u8 k :: l => if 0 ≤ k ∧ k < 256 then (match bytes? l with
  | some r => some (k.toNat.toUInt8 :: r)
  | none => none) else none
 | _ => none
def extCopy (t : Nat) : List PV → St → Option (PV × St) := fun a σ => match a with
 | [.ptr b g 0 0] => (match bldAt t b g σ with
  | some (z,.nilptr,buf) => some (.tuple [],σ.set b (.arr g z [.agg [.ptr b g 0 0,buf]]))
  | some (_,.ptr b' g' 0 0,_) => if b' = b ∧ g' = g then some (.tuple [],σ) else none
  | _ => none)
 | _ => none
def extStr (t tb : Nat) : List PV → St → Option (PV × St) := fun a σ => match a with
 | [.ptr b g 0 0] => (match bldAt t b g σ with
  | some (_,_,.list .nil []) => some (.str [],σ)
  | some (_,_,.sref c gc _ 0 len) => (match σ[c]? with
   | some (.arr gc' _ xs) => if gc = gc' ∧ gc % 4 = 3 ∧ tyG gc = tb ∧ 0 < len ∧ len ≤ xs.length ∧ len ≤ 140737488355328 then
     (match bytes? (xs.take len) with
     | some bs => some (.str bs,σ.set c .dead)
     | none => none) else none
   | _ => none)
  | _ => none)
 | _ => none
def extBool : List PV → St → Option (PV × St) := fun a σ => match a with
 | [.bool true] => some (.str [116,114,117,101],σ)
 | [.bool false] => some (.str [102,97,108,115,101],σ)
 | _ => none
def extAwake : List PV → St → Option (PV × St) := fun a σ => match a with
 | [] => some (.bool true,σ)
 | _ => none
def extLen (n : Nat) : List PV → St → Option (PV × St) := fun a σ => match a with
 | [] => some (.list .part (List.replicate n .any),σ)
 | _ => none
theorem joinB_eq (sep : List UInt8) : ∀ (xs : List (List UInt8)),joinB sep xs = Go.Lib.join xs sep
 | [] => rfl
 | [x] => (Go.Lib.join_one x sep).symm
 | x :: y :: r => by
  rw [joinB,joinB_eq sep (y :: r),Go.Lib.join_cons,Go.Lib.join_cons]
  ·simp [Go.Lib.joinTail]
  ·simp
theorem splitB_miss {c : UInt8} : ∀ {s : List UInt8},(∀ k : Nat,s[k]? ≠ some c) → splitB c s = [s]
 | [],h => rfl
 | b :: l,h => by
  have hb : b ≠ c := fun e => h 0 (by simp [e])
  have ih := splitB_miss (s := l) fun k => by simpa using h (k + 1)
  simp [splitB,hb,ih]
theorem splitB_hit {c : UInt8} : ∀ {s : List UInt8} {i : Nat},s[i]? = some c → (∀ k : Nat,k < i → s[k]? ≠ some c) → splitB c s = s.take i :: splitB c (s.drop (i + 1))
 | [],i,h,hn => by simp at h
 | b :: l,0,h,hn => by
  simp at h
  simp [splitB,h]
 | b :: l,i + 1,h,hn => by
  have hb : b ≠ c := fun e => hn 0 (by omega) (by simp [e])
  have ih := splitB_hit (s := l) (i := i) (by simpa using h) fun k hk => by simpa using hn (k + 1) (by omega)
  simp [splitB,hb,ih]
theorem splitB_eq (c : UInt8) : ∀ (n : Nat) (s : List UInt8),s.length ≤ n → Go.Lib.splitK [c] 0 (Go.Lib.count s [c]) s = splitB c s := by
 intro n
 induction n with
 | zero =>
  intro s hs
  obtain rfl : s = [] := List.length_eq_zero_iff.1 (by omega)
  rfl
 | succ n ih =>
  intro s hs
  by_cases h : Go.Lib.index s [c] = -1
  ·rw [Go.Lib.count_miss h]
   rw [Go.Lib.index_one] at h
   rw [splitB_miss (Go.Lib.indexByte_none h)]
   rfl
  ·have hg := Go.Lib.index_ge s [c]
   obtain ⟨i,hi⟩ : ∃ i : Nat,Go.Lib.index s [c] = i := ⟨(Go.Lib.index s [c]).toNat,by omega⟩
   rw [Go.Lib.count_hit (by simp) hi]
   have hi' := hi
   rw [Go.Lib.index_one] at hi'
   obtain ⟨h1,h2⟩ := Go.Lib.indexByte_some hi'
   rw [splitB_hit h1 h2]
   have hlt : i < s.length := (List.getElem?_eq_some_iff.1 h1).1
   rw [Nat.add_comm 1,Go.Lib.splitK,if_neg (by rw [hi]; simp),hi]
   simp only [Int.toNat_natCast,Nat.add_zero,List.length_singleton]
   rw [ih _ (by simp; omega)]
theorem digF_eq : ∀ (n u : Nat) (acc : List UInt8),u < 10 ^ (n + 1) → digF (n + 1) u acc = Go.Lib.decDigits u ++ acc
 | 0,u,acc,h => by
  have h' : u < 10 := by simpa using h
  rw [digF,if_pos h',Go.Lib.decDigits,dif_pos h']
  rfl
 | n + 1,u,acc,h => by
  rw [digF]
  by_cases h' : u < 10
  ·rw [if_pos h',Go.Lib.decDigits,dif_pos h']
   rfl
  ·rw [if_neg h',digF_eq n (u / 10) _ (by rw [Nat.pow_succ] at h; exact Nat.div_lt_of_lt_mul (by omega))]
   rw [Go.Lib.decDigits.eq_1 u,dif_neg h']
   simp
theorem itoaB_eq {n : Int} (h : inI64 n = true) : itoaB n = Go.Lib.itoa n := by
 simp only [inI64,Bool.and_eq_true,decide_eq_true_eq] at h
 unfold itoaB Go.Lib.itoa
 split
 ·rw [digF_eq 19 _ [] (by show n.natAbs < 100000000000000000000; omega)]
  simp
 ·rw [digF_eq 19 _ [] (by show n.toNat < 100000000000000000000; omega)]
  simp
end Go.Abs
