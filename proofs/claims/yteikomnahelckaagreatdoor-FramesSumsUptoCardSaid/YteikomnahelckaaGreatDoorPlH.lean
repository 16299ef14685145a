import Derived.Lib.AtoiAllCases
import Derived.Lib.ParseIntBTie
import Derived.Test.YteikomnahelckaaGreatDoorAbsExt
import Derived.Test.YteikomnahelckaaGreatDoorPlG
set_option linter.unusedVariables false
set_option linter.unusedSimpArgs false
namespace Go.Abs
open Go.Lib
theorem u8_digit {d : Nat} (h : d < 10) : (UInt8.ofNat (48 + d)).toNat = 48 + d := by
 simp [UInt8.toNat_ofNat']
 omega
theorem parseUint10_dec (u : Nat) : u < 18446744073709551616 → ∀ rest,parseUint10 0 (decDigits u ++ rest) = parseUint10 u rest := by
 induction u using Nat.strongRecOn with
 | _ u ih =>
  intro hu rest
  rw [decDigits]
  split
  ·rename_i h
   simp only [List.cons_append,List.nil_append,parseUint10,u8_digit h]
   rw [if_pos (by omega),if_neg (by omega),if_neg (by omega)]
   congr 1
   omega
  ·rename_i h
   rw [List.append_assoc,ih (u / 10) (by omega) (by omega)]
   have hd : u % 10 < 10 := Nat.mod_lt _ (by decide)
   simp only [List.cons_append,List.nil_append,parseUint10,u8_digit hd]
   rw [if_pos (by omega),if_neg (by omega),if_neg (by omega)]
   congr 1
   omega
theorem decDigits_ne (u : Nat) : decDigits u ≠ [] := by
 rw [decDigits]
 split <;> simp
theorem dec_mem (u : Nat) : ∀ c ∈ decDigits u,48 ≤ c.toNat ∧ c.toNat ≤ 57 := by
 induction u using Nat.strongRecOn with
 | _ u ih =>
  rw [decDigits]
  split
  ·rename_i h
   intro c hc
   obtain rfl : c = UInt8.ofNat (48 + u) := by simpa using hc
   rw [u8_digit h]
   omega
  ·rename_i h
   intro c hc
   rcases List.mem_append.1 hc with hc | hc
   ·exact ih (u / 10) (by omega) c hc
   ·have hd : u % 10 < 10 := Nat.mod_lt _ (by decide)
    obtain rfl : c = UInt8.ofNat (48 + u % 10) := by simpa using hc
    rw [u8_digit hd]
    omega
theorem parseMag_dec {u : Nat} (h : u < 18446744073709551616) : parseMag (decDigits u) = .ok u := by
 unfold parseMag
 rw [if_neg (decDigits_ne u)]
 have := parseUint10_dec u h []
 rw [List.append_nil] at this
 rw [this]
 rfl
theorem atoi_itoa {n : Int} (h : inI64 n = true) : atoiAll (itoaB n) = .ok n := by
 rw [itoaB_eq h]
 simp only [inI64,Bool.and_eq_true,decide_eq_true_eq] at h
 unfold itoa
 split
 ·rename_i hn
  rw [atoiAll_minus,parseMag_dec (by omega)]
  simp only [signed]
  rw [if_neg (by omega)]
  congr 1
  omega
 ·rename_i hn
  have h1 := parseMag_dec (u := n.toNat) (by omega)
  have h2 := dec_mem n.toNat
  cases hd : decDigits n.toNat with
  | nil => exact absurd hd (decDigits_ne _)
  | cons c r =>
   rw [hd] at h1 h2
   have hc := h2 c (by simp)
   rw [atoiAll_plain c r (by omega) (by omega),h1]
   simp only [signless]
   rw [if_neg (by omega)]
   congr 1
   omega
theorem itoa_mem {n : Int} (h : inI64 n = true) : ∀ c ∈ itoaB n,c = 45 ∨ (48 ≤ c.toNat ∧ c.toNat ≤ 57) := by
 rw [itoaB_eq h]
 unfold itoa
 intro c hc
 split at hc
 ·rcases List.mem_cons.1 hc with rfl | hc
  ·exact .inl rfl
  ·exact .inr (dec_mem _ c hc)
 ·exact .inr (dec_mem _ c hc)
theorem inI64_of {n : Int} (h1 : -9223372036854775808 ≤ n) (h2 : n ≤ 9223372036854775807) : inI64 n = true := by
 simp only [inI64,Bool.and_eq_true,decide_eq_true_eq]
 exact ⟨h1,h2⟩
end Go.Abs
namespace Go.Abs
def boolB : Bool → Str
 | true => [116,114,117,101]
 | false => [102,97,108,115,101]
def slotB (s : SlotS) (cs : List Nat) : Str := itoaB s.kind ++ 44 :: (itoaB s.size ++ 44 :: (itoaB s.dims ++ 44 :: (boolB s.flex ++ (cs.flatMap (fun c : Nat => 58 :: itoaB (c : Int)) ++ [59]))))
def keyB (r : List (SlotS × List Nat)) : Str := r.flatMap fun x => slotB x.1 x.2
def sepB (c : UInt8) : Prop := c = 44 ∨ c = 58 ∨ c = 59
theorem tok_cut : ∀ {a b x y : Str} {c d : UInt8},(∀ u ∈ a,¬ sepB u) → (∀ u ∈ b,¬ sepB u) → sepB c → sepB d → a ++ c :: x = b ++ d :: y → a = b ∧ c = d ∧ x = y
 | [],[],x,y,c,d,_,_,_,_,h => by simpa using h
 | [],v :: b,x,y,c,d,_,hb,hc,_,h => by
  simp only [List.nil_append,List.cons_append,List.cons.injEq] at h
  exact absurd (h.1 ▸ hc) (hb v (by simp))
 | u :: a,[],x,y,c,d,ha,_,_,hd,h => by
  simp only [List.nil_append,List.cons_append,List.cons.injEq] at h
  exact absurd (h.1 ▸ hd) (ha u (by simp))
 | u :: a,v :: b,x,y,c,d,ha,hb,hc,hd,h => by
  simp only [List.cons_append,List.cons.injEq] at h
  obtain ⟨h1,h2,h3⟩ := tok_cut (fun w hw => ha w (by simp [hw])) (fun w hw => hb w (by simp [hw])) hc hd h.2
  exact ⟨by rw [h.1,h1],h2,h3⟩
theorem itoa_clean {n : Int} (h : inI64 n = true) : ∀ u ∈ itoaB n,¬ sepB u := by
 intro u hu hs
 rcases itoa_mem h u hu with rfl | ⟨h1,h2⟩
 ·rcases hs with h | h | h <;> revert h <;> decide
 ·rcases hs with rfl | rfl | rfl
  ·exact absurd h1 (by decide)
  ·exact absurd h2 (by decide)
  ·exact absurd h2 (by decide)
theorem itoa_inj {n m : Int} (hn : inI64 n = true) (hm : inI64 m = true) (h : itoaB n = itoaB m) : n = m := by
 have h1 := atoi_itoa hn
 rw [h,atoi_itoa hm] at h1
 injection h1 with h1
 exact h1.symm
theorem bool_clean (b : Bool) : ∀ u ∈ boolB b,¬ sepB u := by
 intro u hu hs
 cases b
 all_goals
  simp only [boolB,List.mem_cons,List.not_mem_nil,or_false] at hu
  unfold sepB at hs
  revert hs
  rcases hu with rfl | rfl | rfl | rfl | rfl <;> decide
theorem boolB_inj {a b : Bool} (h : boolB a = boolB b) : a = b := by
 revert h
 cases a <;> cases b <;> decide
structure SlotI (s : SlotS) : Prop where
 k : inI64 s.kind = true
 z : inI64 s.size = true
 d : inI64 s.dims = true
 m : s.map = 0
def smallC (cs : List Nat) : Prop := ∀ c ∈ cs,c < 9223372036854775808
theorem smallI {c : Nat} (h : c < 9223372036854775808) : inI64 (c : Int) = true := inI64_of (by omega) (by omega)
theorem colons_cut : ∀ {cs ds : List Nat} {x y : Str},smallC cs → smallC ds → cs.flatMap (fun c : Nat => 58 :: itoaB (c : Int)) ++ 59 :: x = ds.flatMap (fun c : Nat => 58 :: itoaB (c : Int)) ++ 59 :: y → cs = ds ∧ x = y
 | [],[],x,y,_,_,h => by simpa using h
 | [],d :: ds,x,y,_,_,h => by simp at h
 | c :: cs,[],x,y,_,_,h => by simp at h
 | c :: cs,d :: ds,x,y,hc,hd,h => by
  simp only [List.flatMap_cons,List.cons_append,List.cons.injEq,true_and,List.append_assoc] at h
  have hx : ∀ (es : List Nat) (z : Str),∃ (s : UInt8) (w : Str),sepB s ∧ es.flatMap (fun c : Nat => 58 :: itoaB (c : Int)) ++ 59 :: z = s :: w := by
   intro es z
   cases es with
   | nil => exact ⟨59,z,.inr (.inr rfl),rfl⟩
   | cons e es => exact ⟨58,_,.inr (.inl rfl),rfl⟩
  obtain ⟨s1,w1,p1,e1⟩ := hx cs x
  obtain ⟨s2,w2,p2,e2⟩ := hx ds y
  have h' := h
  rw [e1,e2] at h'
  obtain ⟨q1,q2,q3⟩ := tok_cut (itoa_clean (smallI (hc c (by simp)))) (itoa_clean (smallI (hd d (by simp)))) p1 p2 h'
  have := itoa_inj (smallI (hc c (by simp))) (smallI (hd d (by simp))) q1
  rw [q1] at h
  obtain ⟨r1,r2⟩ := colons_cut (fun u hu => hc u (by simp [hu])) (fun u hu => hd u (by simp [hu])) (List.append_cancel_left h)
  exact ⟨by rw [r1]; congr 1; omega,r2⟩
theorem slotB_cut {s t : SlotS} {cs ds : List Nat} {x y : Str} (hs : SlotI s) (ht : SlotI t) (hc : smallC cs) (hd : smallC ds) (h : slotB s cs ++ x = slotB t ds ++ y) : (s,cs) = (t,ds) ∧ x = y := by
 unfold slotB at h
 simp only [List.append_assoc,List.cons_append,List.nil_append] at h
 have c44 : sepB 44 := .inl rfl
 obtain ⟨a1,_,h⟩ := tok_cut (itoa_clean hs.k) (itoa_clean ht.k) c44 c44 h
 obtain ⟨a2,_,h⟩ := tok_cut (itoa_clean hs.z) (itoa_clean ht.z) c44 c44 h
 obtain ⟨a3,_,h⟩ := tok_cut (itoa_clean hs.d) (itoa_clean ht.d) c44 c44 h
 have hx : ∀ (es : List Nat) (z : Str),∃ (s : UInt8) (w : Str),sepB s ∧ es.flatMap (fun c : Nat => 58 :: itoaB (c : Int)) ++ 59 :: z = s :: w := by
  intro es z
  cases es with
  | nil => exact ⟨59,z,.inr (.inr rfl),rfl⟩
  | cons e es => exact ⟨58,_,.inr (.inl rfl),rfl⟩
 obtain ⟨s1,w1,p1,e1⟩ := hx cs x
 obtain ⟨s2,w2,p2,e2⟩ := hx ds y
 have h' := h
 rw [e1,e2] at h'
 obtain ⟨a4,_,_⟩ := tok_cut (bool_clean _) (bool_clean _) p1 p2 h'
 rw [a4] at h
 obtain ⟨b1,b2⟩ := colons_cut hc hd (List.append_cancel_left h)
 have e1 := itoa_inj hs.k ht.k a1
 have e2 := itoa_inj hs.z ht.z a2
 have e3 := itoa_inj hs.d ht.d a3
 have e4 := boolB_inj a4
 have e5 := hs.m.trans ht.m.symm
 obtain ⟨k,z,m,d,f⟩ := s
 obtain ⟨k',z',m',d',f'⟩ := t
 simp only at e1 e2 e3 e4 e5
 subst e1 e2 e3 e4 e5 b1
 exact ⟨rfl,b2⟩
theorem keyB_inj : ∀ {r q : List (SlotS × List Nat)},(∀ x ∈ r,SlotI x.1 ∧ smallC x.2) → (∀ x ∈ q,SlotI x.1 ∧ smallC x.2) → keyB r = keyB q → r = q
 | [],[],_,_,_ => rfl
 | [],b :: q,_,_,h => by
  exfalso
  have := congrArg List.length h
  simp [keyB,slotB] at this
 | a :: r,[],_,_,h => by
  exfalso
  have := congrArg List.length h
  simp [keyB,slotB] at this
 | a :: r,b :: q,hr,hq,h => by
  unfold keyB at h
  rw [List.flatMap_cons,List.flatMap_cons] at h
  obtain ⟨e1,e2⟩ := slotB_cut (hr a (by simp)).1 (hq b (by simp)).1 (hr a (by simp)).2 (hq b (by simp)).2 h
  rw [keyB_inj (fun x hx => hr x (by simp [hx])) (fun x hx => hq x (by simp [hx])) e2]
  congr 1
end Go.Abs
