import Derived.Test.YtgghfcchanilpaaGreatDoorFnB
import Derived.KernelRfl
import Derived.Test.YtgghfcchanilpaaGreatDoorAnn
import Derived.Test.YtgghfcchanilpaaGreatDoorProg
import Derived.Test.YtgghfcchanilpaaGreatDoorTabW
import Derived.Lib.ItoaLen
set_option linter.unusedVariables false
set_option linter.unusedSimpArgs false
namespace Go.Proofs.YtgghfcchanilpaaGreatDoor
open Go Go.Abs
def NS (P : Program) (f : FuncId) : Bool := match P.funcs[f]? with
 | some fn => fn.body.isSome
 | none => false
noncomputable abbrev Yj (f : FuncId) : Bool := NS Tryz.prog f
theorem Jb {P : Program} {call : Q8} {f k : Nat} (h : NS P f = true) (caps args : List PV) (σ : St) (K X : PV → St → Prop) : Zc (Qq call) P false (.func f k caps) args σ K X = Q0 call f (YP k args caps) σ K X := by
 unfold NS at h
 unfold Zc
 simp only
 cases hf : P.funcs[f]? with
 | none => simp [hf] at h
 | some fn =>
  rw [hf] at h
  simp only at h ⊢
  cases hb : fn.body with
  | none => simp [hb] at h
  | some c => rfl
theorem YO {f k : Nat} (h : Yj f = true) (caps args : List PV) (σ : St) (K X : PV → St → Prop) : Zc (Qq W) Tryz.prog false (.func f k caps) args σ K X = Q0 W f (YP k args caps) σ K X := Jb h caps args σ K X
def idxOf {α : Type} (p : α → Bool) : List α → Nat → Int
 | [],_ => -1
 | a :: l,i => if p a then i else idxOf p l (i + 1)
theorem idxOf_hit {α : Type} {p : α → Bool} : ∀ {l : List α} {i n : Nat} {a : α},l[i]? = some a → p a = true → (l.take i).all (fun a => !p a) = true → idxOf p l n = ((n + i : Nat) : Int)
 | b :: l,0,n,a,h,hp,hn => by
  simp at h
  subst h
  simp [idxOf,hp]
 | b :: l,i + 1,n,a,h,hp,hn => by
  simp only [List.take_succ_cons,List.all_cons,Bool.and_eq_true,Bool.not_eq_true'] at hn
  have := idxOf_hit (l := l) (n := n + 1) (by simpa using h) hp hn.2
  simp only [idxOf,hn.1,Bool.false_eq_true,if_false,this]
  omega
theorem Vl {α : Type} {p : α → Bool} : ∀ {l : List α} {n : Nat},l.all (fun a => !p a) = true → idxOf p l n = -1
 | [],n,h => rfl
 | b :: l,n,h => by
  simp only [List.all_cons,Bool.and_eq_true,Bool.not_eq_true'] at h
  simp only [idxOf,h.1,Bool.false_eq_true,if_false,Vl h.2]
theorem UT {α : Type} {p : α → Bool} : ∀ (l : List α) (n : Nat),decide (idxOf p l n ≥ 0) = l.any p
 | [],n => rfl
 | b :: l,n => by
  simp only [idxOf,List.any_cons]
  by_cases hb : p b = true
  ·simp [hb]
  ·simp only [hb,Bool.false_or,if_false]
   exact UT l (n + 1)
structure Zr {α : Type} (enc : α → PV) (ag : Bool) (sz : Nat) : Prop where
 cells : ∀ a,∃ cs,(enc a).cells? = some cs ∧ cs.length = sz
 part : ∀ a,Q6 ag sz (enc a) 0 = some (enc a)
theorem Zr.index {α : Type} {enc : α → PV} {ag : Bool} {sz : Nat} (h : Zr enc ag sz) {l : List α} {i : Nat} {a : α} (ha : l[i]? = some a) {lk : LK} {k : IntKind} : Q5 sz (.list lk (l.map enc)) (.int k i) = some (.eptr (enc a) 0) := by
 obtain ⟨cs,h1,h2⟩ := h.cells a
 exact Zg k (by rw [List.getElem?_map,ha]; rfl) h1 h2
theorem Yy {α : Type} {q : α → Bool} {l : List α} {i : Nat} {a : α} (h : (l.take i).all q = true) (ha : l[i]? = some a) (hq : q a = true) : (l.take (i + 1)).all q = true := by
 rw [List.take_add_one,ha,List.all_append,h]
 simp [hq]
theorem wv {α : Type} {enc : α → PV} (E : Zr enc true 9) {l : List α} (p : α → Bool) {lk : LK} {g k : Nat} {caps : List PV} {σ : St} (hf : Yj g = true) (hl : l.length < 4611686018427387904) (h : ∀ a ∈ l,Ret W g (YP k [enc a] caps) σ (.bool (p a))) :
  Ret W 136 [.list lk (l.map enc),.func g k caps] σ (.int .i64 (idxOf p l 0)) := by
 refine QE fun R hR => ?_
 rw [Gw]
 delta CM bF kF nI
 simp only [List.length_map,zz,Nat.reduceEqDiff]
 refine QT l.length (fun i x σ' => x = Qz [(0,.list lk (l.map enc)),(1,.func g k caps),(7,.int .i64 l.length),(8,.int .i64 i)] ∧ σ' = σ ∧ (l.take i).all (fun a => !p a) = true) ?_ ⟨rfl,rfl,rfl⟩
 rintro Φ i x σ' hi ⟨rfl,rfl,hp⟩ next
 simp only [zz,Nat.reduceEqDiff]
 by_cases hlt : i < l.length
 ·have hc : l[i]? = some l[i] := by simp [hlt]
  have hmem : l[i] ∈ l := by simp
  simp only [hlt,E.index hc,E.part,YO hf,zz,Nat.reduceEqDiff]
  refine (h _ hmem).Q0 ?_
  generalize l[i] = a at hc
  cases hpa : p a with
  | true =>
   simp only [zz,Nat.reduceEqDiff]
   refine Q2 ?_
   rw [idxOf_hit hc hpa hp] at hR
   simpa using hR
  | false =>
   simp only [zz,Nat.reduceEqDiff]
   rw [Qi _ (by omega) (by omega)]
   simp only [zz,Nat.reduceEqDiff]
   exact next _ _ hlt ⟨by simp,rfl,Yy hp hc (by simp [hpa])⟩
 ·obtain rfl : i = l.length := by omega
  rw [List.take_length] at hp
  simp only [hlt,zz,Nat.reduceEqDiff]
  refine Q2 ?_
  rw [Vl hp] at hR
  exact hR
theorem c221 {α : Type} {enc : α → PV} (E : Zr enc true 1) {l : List α} (p : α → Bool) {lk : LK} {g k : Nat} {caps : List PV} {σ : St} (hf : Yj g = true) (hl : l.length < 4611686018427387904) (h : ∀ a ∈ l,Ret W g (YP k [enc a] caps) σ (.bool (p a))) :
  Ret W 221 [.list lk (l.map enc),.func g k caps] σ (.int .i64 (idxOf p l 0)) := by
 refine QE fun R hR => ?_
 rw [D1]
 delta CI bF kF nI
 simp only [List.length_map,zz,Nat.reduceEqDiff]
 refine QT l.length (fun i x σ' => x = Qz [(0,.list lk (l.map enc)),(1,.func g k caps),(7,.int .i64 l.length),(8,.int .i64 i)] ∧ σ' = σ ∧ (l.take i).all (fun a => !p a) = true) ?_ ⟨rfl,rfl,rfl⟩
 rintro Φ i x σ' hi ⟨rfl,rfl,hp⟩ next
 simp only [zz,Nat.reduceEqDiff]
 by_cases hlt : i < l.length
 ·have hc : l[i]? = some l[i] := by simp [hlt]
  have hmem : l[i] ∈ l := by simp
  simp only [hlt,E.index hc,E.part,YO hf,zz,Nat.reduceEqDiff]
  refine (h _ hmem).Q0 ?_
  generalize l[i] = a at hc
  cases hpa : p a with
  | true =>
   simp only [zz,Nat.reduceEqDiff]
   refine Q2 ?_
   rw [idxOf_hit hc hpa hp] at hR
   simpa using hR
  | false =>
   simp only [zz,Nat.reduceEqDiff]
   rw [Qi _ (by omega) (by omega)]
   simp only [zz,Nat.reduceEqDiff]
   exact next _ _ hlt ⟨by simp,rfl,Yy hp hc (by simp [hpa])⟩
 ·obtain rfl : i = l.length := by omega
  rw [List.take_length] at hp
  simp only [hlt,zz,Nat.reduceEqDiff]
  refine Q2 ?_
  rw [Vl hp] at hR
  exact hR
theorem c222 {α : Type} {enc : α → PV} (E : Zr enc false 1) {l : List α} (p : α → Bool) {lk : LK} {g k : Nat} {caps : List PV} {σ : St} (hf : Yj g = true) (hl : l.length < 4611686018427387904) (h : ∀ a ∈ l,Ret W g (YP k [enc a] caps) σ (.bool (p a))) :
  Ret W 222 [.list lk (l.map enc),.func g k caps] σ (.int .i64 (idxOf p l 0)) := by
 refine QE fun R hR => ?_
 rw [GY]
 delta Ct bF kF nI
 simp only [List.length_map,zz,Nat.reduceEqDiff]
 refine QT l.length (fun i x σ' => x = Qz [(0,.list lk (l.map enc)),(1,.func g k caps),(7,.int .i64 l.length),(8,.int .i64 i)] ∧ σ' = σ ∧ (l.take i).all (fun a => !p a) = true) ?_ ⟨rfl,rfl,rfl⟩
 rintro Φ i x σ' hi ⟨rfl,rfl,hp⟩ next
 simp only [zz,Nat.reduceEqDiff]
 by_cases hlt : i < l.length
 ·have hc : l[i]? = some l[i] := by simp [hlt]
  have hmem : l[i] ∈ l := by simp
  simp only [hlt,E.index hc,E.part,YO hf,zz,Nat.reduceEqDiff]
  refine (h _ hmem).Q0 ?_
  generalize l[i] = a at hc
  cases hpa : p a with
  | true =>
   simp only [zz,Nat.reduceEqDiff]
   refine Q2 ?_
   rw [idxOf_hit hc hpa hp] at hR
   simpa using hR
  | false =>
   simp only [zz,Nat.reduceEqDiff]
   rw [Qi _ (by omega) (by omega)]
   simp only [zz,Nat.reduceEqDiff]
   exact next _ _ hlt ⟨by simp,rfl,Yy hp hc (by simp [hpa])⟩
 ·obtain rfl : i = l.length := by omega
  rw [List.take_length] at hp
  simp only [hlt,zz,Nat.reduceEqDiff]
  refine Q2 ?_
  rw [Vl hp] at hR
  exact hR
theorem uW {α : Type} {enc : α → PV} (E : Zr enc false 1) {l : List α} (p : α → Bool) {lk : LK} {g k : Nat} {caps : List PV} {σ : St} (hf : Yj g = true) (hl : l.length < 4611686018427387904) (h : ∀ a ∈ l,Ret W g (YP k [enc a] caps) σ (.bool (p a))) :
  Ret W 223 [.list lk (l.map enc),.func g k caps] σ (.int .i64 (idxOf p l 0)) := by
 refine QE fun R hR => ?_
 rw [D4]
 delta CO bF kF nI
 simp only [List.length_map,zz,Nat.reduceEqDiff]
 refine QT l.length (fun i x σ' => x = Qz [(0,.list lk (l.map enc)),(1,.func g k caps),(7,.int .i64 l.length),(8,.int .i64 i)] ∧ σ' = σ ∧ (l.take i).all (fun a => !p a) = true) ?_ ⟨rfl,rfl,rfl⟩
 rintro Φ i x σ' hi ⟨rfl,rfl,hp⟩ next
 simp only [zz,Nat.reduceEqDiff]
 by_cases hlt : i < l.length
 ·have hc : l[i]? = some l[i] := by simp [hlt]
  have hmem : l[i] ∈ l := by simp
  simp only [hlt,E.index hc,E.part,YO hf,zz,Nat.reduceEqDiff]
  refine (h _ hmem).Q0 ?_
  generalize l[i] = a at hc
  cases hpa : p a with
  | true =>
   simp only [zz,Nat.reduceEqDiff]
   refine Q2 ?_
   rw [idxOf_hit hc hpa hp] at hR
   simpa using hR
  | false =>
   simp only [zz,Nat.reduceEqDiff]
   rw [Qi _ (by omega) (by omega)]
   simp only [zz,Nat.reduceEqDiff]
   exact next _ _ hlt ⟨by simp,rfl,Yy hp hc (by simp [hpa])⟩
 ·obtain rfl : i = l.length := by omega
  rw [List.take_length] at hp
  simp only [hlt,zz,Nat.reduceEqDiff]
  refine Q2 ?_
  rw [Vl hp] at hR
  exact hR
theorem c224 {α : Type} {enc : α → PV} (E : Zr enc false 1) {l : List α} (p : α → Bool) {lk : LK} {g k : Nat} {caps : List PV} {σ : St} (hf : Yj g = true) (hl : l.length < 4611686018427387904) (h : ∀ a ∈ l,Ret W g (YP k [enc a] caps) σ (.bool (p a))) :
  Ret W 224 [.list lk (l.map enc),.func g k caps] σ (.int .i64 (idxOf p l 0)) := by
 refine QE fun R hR => ?_
 rw [Ec]
 delta CK bF kF nI
 simp only [List.length_map,zz,Nat.reduceEqDiff]
 refine QT l.length (fun i x σ' => x = Qz [(0,.list lk (l.map enc)),(1,.func g k caps),(7,.int .i64 l.length),(8,.int .i64 i)] ∧ σ' = σ ∧ (l.take i).all (fun a => !p a) = true) ?_ ⟨rfl,rfl,rfl⟩
 rintro Φ i x σ' hi ⟨rfl,rfl,hp⟩ next
 simp only [zz,Nat.reduceEqDiff]
 by_cases hlt : i < l.length
 ·have hc : l[i]? = some l[i] := by simp [hlt]
  have hmem : l[i] ∈ l := by simp
  simp only [hlt,E.index hc,E.part,YO hf,zz,Nat.reduceEqDiff]
  refine (h _ hmem).Q0 ?_
  generalize l[i] = a at hc
  cases hpa : p a with
  | true =>
   simp only [zz,Nat.reduceEqDiff]
   refine Q2 ?_
   rw [idxOf_hit hc hpa hp] at hR
   simpa using hR
  | false =>
   simp only [zz,Nat.reduceEqDiff]
   rw [Qi _ (by omega) (by omega)]
   simp only [zz,Nat.reduceEqDiff]
   exact next _ _ hlt ⟨by simp,rfl,Yy hp hc (by simp [hpa])⟩
 ·obtain rfl : i = l.length := by omega
  rw [List.take_length] at hp
  simp only [hlt,zz,Nat.reduceEqDiff]
  refine Q2 ?_
  rw [Vl hp] at hR
  exact hR
theorem c104 {α : Type} {enc : α → PV} (E : Zr enc true 1) {l : List α} (p : α → Bool) {lk : LK} {g k : Nat} {caps : List PV} {σ : St} (hf : Yj g = true) (hl : l.length < 4611686018427387904) (h : ∀ a ∈ l,Ret W g (YP k [enc a] caps) σ (.bool (p a))) :
  Ret W 104 [.list lk (l.map enc),.func g k caps] σ (.bool (l.any p)) := by
 refine QE fun R hR => ?_
 rw [FW]
 delta CW bF nI
 refine (c221 E p hf hl h).Q0 ?_
 simp only [UT,zz,Nat.reduceEqDiff]
 exact Q2 hR
theorem c106 {α : Type} {enc : α → PV} (E : Zr enc true 9) {l : List α} (p : α → Bool) {lk : LK} {g k : Nat} {caps : List PV} {σ : St} (hf : Yj g = true) (hl : l.length < 4611686018427387904) (h : ∀ a ∈ l,Ret W g (YP k [enc a] caps) σ (.bool (p a))) :
  Ret W 106 [.list lk (l.map enc),.func g k caps] σ (.bool (l.any p)) := by
 refine QE fun R hR => ?_
 rw [Ed]
 delta CN bF nI
 refine (wv E p hf hl h).Q0 ?_
 simp only [UT,zz,Nat.reduceEqDiff]
 exact Q2 hR
theorem c108 {α : Type} {enc : α → PV} (E : Zr enc false 1) {l : List α} (p : α → Bool) {lk : LK} {g k : Nat} {caps : List PV} {σ : St} (hf : Yj g = true) (hl : l.length < 4611686018427387904) (h : ∀ a ∈ l,Ret W g (YP k [enc a] caps) σ (.bool (p a))) :
  Ret W 108 [.list lk (l.map enc),.func g k caps] σ (.bool (l.any p)) := by
 refine QE fun R hR => ?_
 rw [E0]
 delta Cw bF nI
 refine (c222 E p hf hl h).Q0 ?_
 simp only [UT,zz,Nat.reduceEqDiff]
 exact Q2 hR
theorem vG {α : Type} {enc : α → PV} (E : Zr enc false 1) {l : List α} (p : α → Bool) {lk : LK} {g k : Nat} {caps : List PV} {σ : St} (hf : Yj g = true) (hl : l.length < 4611686018427387904) (h : ∀ a ∈ l,Ret W g (YP k [enc a] caps) σ (.bool (p a))) :
  Ret W 110 [.list lk (l.map enc),.func g k caps] σ (.bool (l.any p)) := by
 refine QE fun R hR => ?_
 rw [EN]
 delta Bu bF nI
 refine (uW E p hf hl h).Q0 ?_
 simp only [UT,zz,Nat.reduceEqDiff]
 exact Q2 hR
theorem Ew {α : Type} {enc : α → PV} (E : Zr enc false 1) {l : List α} (p : α → Bool) {lk : LK} {g k : Nat} {caps : List PV} {σ : St} (hf : Yj g = true) (hl : l.length < 4611686018427387904) (h : ∀ a ∈ l,Ret W g (YP k [enc a] caps) σ (.bool (p a))) :
  Ret W 113 [.list lk (l.map enc),.func g k caps] σ (.bool (l.any p)) := by
 refine QE fun R hR => ?_
 rw [E6]
 delta Cr bF nI
 refine (c224 E p hf hl h).Q0 ?_
 simp only [UT,zz,Nat.reduceEqDiff]
 exact Q2 hR
end Go.Proofs.YtgghfcchanilpaaGreatDoor
namespace Go.Proofs.YtgghfcchanilpaaGreatDoor
open Go Go.Abs
theorem BH : Qn (Oq Tryz.prog QO 3000 60) Tryz.prog QO 12 [] [] (fun r σ => match r with
  | .ret (.bool true) => JX σ []
  | _ => false) = true := by kernel_rfl
end Go.Proofs.YtgghfcchanilpaaGreatDoor
namespace Go.Proofs.YtgghfcchanilpaaGreatDoor
open Go Go.Abs
theorem c12 : Ret W 12 [] [] (.bool true) := fun R hR => by
 refine Y7 (R' := R) (fun r σ hr => ?_) BH
 split at hr
 ·rw [Pn _ _ hr]
  exact hR
 ·cases hr
theorem T5 {n : Int} : Zo n = true ↔ 0 ≤ n ∧ n < 40 := by simp [Zo]
theorem A3 {n : Int} (h : Zo n = true) : TL 2 40 (.int .i64 n) = some (n.toNat * 2) := by
 have := T5.1 h
 simp only [TL]
 rw [if_pos (by omega)]
theorem EB {n : Int} (h : Zo n = true) : PC[n.toNat * 2]? = some (.str (VH n).1) ∧ PC[n.toNat * 2 + 1]? = some (.str (VH n).2) := by
 have h' := T5.1 h
 have := A8 ⟨n.toNat,by omega⟩
 simp only [Int.toNat_of_nonneg h'.1] at this
 rw [Nat.mul_comm]
 exact this
theorem BT {n : Int} (h : Zo n = true) {k : LK} {q : IntKind} : Q5 2 (.list k (M9.map Mj)) (.int q n) = some (.eptr (Mj (VH n)) 0) := by
 have h' := T5.1 h
 have e1 : M9[n.toNat]? = some (VH n) := by
  unfold VH
  rw [List.getD_eq_getElem?_getD,List.getElem?_eq_getElem (by rw [Ke]; omega),Option.getD_some]
 have := Zg (lk := k) q (xs := M9.map Mj) (sz := 2) (i := n.toNat) (e := Mj (VH n)) (by rw [List.getElem?_map,e1]; rfl) (cs := _) rfl rfl
 rw [Int.toNat_of_nonneg h'.1] at this
 exact this
theorem HU {n : Int} : (decide (n < 0) || decide (n ≥ 40)) = !Zo n := by
 unfold Zo
 by_cases h0 : n < 0
 ·have : ¬ 0 ≤ n := by omega
  simp [h0,this]
 ·have h1 : 0 ≤ n := by omega
  by_cases h2 : n ≥ 40
  ·have : ¬ n < 40 := by omega
   simp [h0,h1,h2,this]
  ·have : n < 40 := by omega
   simp [h0,h1,h2,this]
theorem c18 (n : Int) (σ : St) : Ret W 18 [.int .i64 n] σ (.str (ZN n)) := by
 refine QE fun R hR => ?_
 rw [Ch]
 delta ql bF nI
 unfold ZN at hR
 have hk := HU (n := n)
 simp only [zz,Nat.reduceEqDiff]
 cases h0 : decide (n < 0) with
 | true =>
  rw [h0] at hk
  have hk' : Zo n = false := by simpa using hk
  rw [hk'] at hR
  simp only [zz,Nat.reduceEqDiff]
  exact Q2 hR
 | false =>
  rw [h0] at hk
  simp only [zz,Nat.reduceEqDiff]
  cases h1 : decide (n ≥ 40) with
  | true =>
   rw [h1] at hk
   have hk' : Zo n = false := by simpa using hk
   rw [hk'] at hR
   simp only [zz,Nat.reduceEqDiff]
   exact Q2 hR
  | false =>
   rw [h1] at hk
   have hk' : Zo n = true := by simpa using hk
   rw [hk'] at hR
   simp only [zz,Nat.reduceEqDiff]
   refine (c38 _).Q0 ?_
   simp only [BT hk',Mj,zz,Nat.reduceEqDiff]
   exact Q2 hR
theorem Se {σ : St} {n : Nat} {v : PV} (h : XR n v) : Frz σ n v v := .base v h
end Go.Proofs.YtgghfcchanilpaaGreatDoor
namespace Go.Proofs.YtgghfcchanilpaaGreatDoor
open Go Go.Abs
def vS (Pr : Program) (W : Q8) (a0 a1 : PV) (σ : St) (R : Res → St → Prop) : Prop :=
bF .geq a0 (nI 0) fun a =>
XB False a true (fun b =>
bF .lss a0 a1 fun c =>
b (Q9 [(8,(.v a0)),(9,(.v a1)),(10,(.v c))]) σ) σ (fun b c =>
oF (Qc a (b 10).pv (.bool false)) fun a =>
wkR σ a c R)
theorem C2 (W : Q8) (a0 a1 : PV) (σ : St) (R : Res → St → Prop) : Qn (Qq W) Tryz.prog QO 42 [a0,a1] σ R = vS Tryz.prog W a0 a1 σ R := by kernel_rfl
end Go.Proofs.YtgghfcchanilpaaGreatDoor
namespace Go.Abs
open Go.Lib
def xv : Xz := ⟨0,⟨0,0,0⟩,⟨0,0,0⟩,⟨0,0,0⟩,0,0⟩
end Go.Abs
namespace Go.Abs
abbrev Sl (α : Type) := LK × List α
def QB {α : Type} (enc : α → PV) (l : Sl α) : PV := .list l.1 (l.2.map enc)
structure Xb where
 kind : Int
 size : Int
 map : Int
 dims : Int
 flex : Bool
 deriving DecidableEq
structure Yq where
 outer : Int
 fr : Int
 «to» : Int
 deriving DecidableEq
structure Vv where
 sig : Int
 frame : Int
 fr : Int
 «to» : Int
 outer : Int
 within : Int
 level : Int
 needs : Int
 ranges : Sl Yq
structure YW where
 word : Str
 file : Bool
 map : Int
structure Qp where
 maps : Sl (Sl Xb)
 unions : Sl (Sl Int)
 sigs : Sl (Int × Int)
 routs : Sl Vv
 insts : Sl Xz
 jumps : Sl (Sl Int)
 parts : Sl (Sl Int)
 texts : Sl Str
 trans : Sl YW
 lines : Sl (Int × Int)
def pvI (n : Int) : PV := .int .i64 n
def Qm (s : Xb) : PV := .agg [.int .i64 s.kind,.int .i64 s.size,.int .i64 s.map,.int .i64 s.dims,.bool s.flex]
def Xj (m : Sl Xb) : PV := .agg [QB Qm m]
def QP (l : Sl Int) : PV := QB pvI l
def Qw (p : Int × Int) : PV := .agg [.int .i64 p.1,.int .i64 p.2]
def X7 (r : Yq) : PV := .agg [.int .i64 r.outer,.int .i64 r.fr,.int .i64 r.to]
def Qo (r : Vv) : PV := .agg [.int .i64 r.sig,.int .i64 r.frame,.int .i64 r.fr,.int .i64 r.to,.int .i64 r.outer,.int .i64 r.within,.int .i64 r.level,.int .i64 r.needs,QB X7 r.ranges]
def QY (t : YW) : PV := .agg [.str t.word,.bool t.file,.int .i64 t.map]
def Td (c : Qp) : List PV := [QB Xj c.maps,QB QP c.unions,QB Qw c.sigs,QB Qo c.routs,QB QD c.insts,QB QP c.jumps,QB QP c.parts,QB PV.str c.texts,QB QY c.trans,QB Qw c.lines]
def Qt (c : Qp) : PV := .agg (Td c)
def X2 (c : Qp) (rows idents : Int) : PV := .agg (Td c ++ [.int .i64 rows,.int .i64 idents])
def len {α : Type} (l : Sl α) : Int := (l.2.length : Int)
def inS (n most : Int) : Bool := decide (n ≥ 0) && decide (n < most)
def atI {α : Type} (d : α) (l : Sl α) (i : Int) : α := l.2.getD i.toNat d
structure VX (c : Qp) : Prop where
 maps : c.maps.2.length ≤ 1048576
 slots : ∀ m ∈ c.maps.2,m.2.length ≤ 1048576
 unions : c.unions.2.length ≤ 1048576
 union : ∀ m ∈ c.unions.2,m.2.length ≤ 1048576
 sigs : c.sigs.2.length ≤ 1048576
 routs : c.routs.2.length ≤ 1048576
 ranges : ∀ r ∈ c.routs.2,r.ranges.2.length ≤ 1048576
 insts : c.insts.2.length ≤ 1048576
 jumps : c.jumps.2.length ≤ 1048576
 jump : ∀ m ∈ c.jumps.2,m.2.length ≤ 1048576
 parts : c.parts.2.length ≤ 1048576
 part : ∀ m ∈ c.parts.2,m.2.length ≤ 1048576
 texts : c.texts.2.length ≤ 1048576
 text : ∀ m ∈ c.texts.2,m.length ≤ 1048576
 trans : c.trans.2.length ≤ 1048576
 word : ∀ m ∈ c.trans.2,m.word.length ≤ 1048576
 lines : c.lines.2.length ≤ 1048576
def U5 (l : Sl (Sl Int)) : Bool := l.2.any fun t => decide (len t > 4000)
def M3 (c : Qp) : Bool := [len c.insts,len c.maps,len c.unions,len c.sigs,len c.routs,len c.jumps,len c.parts,len c.texts,len c.trans,len c.lines].any fun n => decide (n > 16384)
def T6 (c : Qp) : Bool := (c.maps.2.any fun m => decide (len m > 1000)) || ((c.routs.2.any fun r => decide (len r.ranges > 4000)) || (c.texts.2.any fun s => decide ((s.length : Int) > 65536)))
def OU (c : Qp) : Bool := M3 c || (T6 c || (U5 c.unions || (U5 c.jumps || U5 c.parts)))
def Nw (c : Qp) (k : Int) : Int := if k = 8 ∨ k = 9 then len c.maps else if k = 10 then len c.unions else if k = 11 then len c.sigs else 1
def sizedB (k : Int) : Bool := decide (k = 2) || (decide (k = 3) || decide (k = 4))
def T9 (c : Qp) (s : Xb) : Bool :=
 decide (s.kind ≥ 0) && (decide (s.kind < 12) && ((decide (s.size = 0) || (sizedB s.kind && (decide (s.size ≥ -1) && decide (s.size ≤ 1)))) &&
  (((decide (s.kind = 9) && (decide (s.dims ≥ 1) && decide (s.dims ≤ 3))) || (!decide (s.kind = 9) && (decide (s.dims = 0) && !s.flex))) && inS s.map (Nw c s.kind))))
def Yt (c : Qp) : Bool := c.maps.2.any fun m => m.2.any fun s => !T9 c s
def Vi (c : Qp) : Bool := c.unions.2.any fun u => u.2.any fun m => !inS m (len c.maps)
def YE (c : Qp) : Bool := c.sigs.2.any fun p => !inS p.1 (len c.maps) || !inS p.2 (len c.maps)
def VD (c : Qp) : Bool := c.unions.2.any fun u => decide (len u = 0)
def YJ (c : Qp) : Int := if Vi c then 11 else if YE c then 11 else if VD c then 12 else 0
end Go.Abs
namespace Go.Proofs.YtgghfcchanilpaaGreatDoor
open Go Go.Abs
open Go.Lib (decDigits itoa)
theorem c42 (n m : Int) (σ : St) : Ret W 42 [.int .i64 n,.int .i64 m] σ (.bool (inS n m)) := by
 refine QE fun R hR => ?_
 rw [C2]
 delta vS bF nI
 unfold inS at hR
 simp only [zz,Nat.reduceEqDiff]
 cases h : decide (n ≥ 0) with
 | true =>
  rw [h] at hR
  simp only [zz,Nat.reduceEqDiff]
  exact Q2 (by simpa using hR)
 | false =>
  rw [h] at hR
  simp only [zz,Nat.reduceEqDiff]
  exact Q2 (by simpa using hR)
theorem Ab (a b : Int) : (a == b) = decide (a = b) := by
 by_cases h : a = b
 ·simp [h]
 ·simp [h]
theorem wrap_u64 (n : Int) : IntKind.wrap .u64 n = n % 18446744073709551616 := by
 show (if (false && decide (n % (2 ^ 64 : Int) ≥ (2 ^ 63 : Int))) = true then n % (2 ^ 64 : Int) - (2 ^ 64 : Int) else n % (2 ^ 64 : Int)) = _
 have e1 : (2 ^ 64 : Int) = 18446744073709551616 := by decide
 rw [e1]
 rfl
theorem wrap_u8 (n : Int) : IntKind.wrap .u8 n = n % 256 := by
 show (if (false && decide (n % (2 ^ 8 : Int) ≥ (2 ^ 7 : Int))) = true then n % (2 ^ 8 : Int) - (2 ^ 8 : Int) else n % (2 ^ 8 : Int)) = _
 have e1 : (2 ^ 8 : Int) = 256 := by decide
 rw [e1]
 rfl
end Go.Proofs.YtgghfcchanilpaaGreatDoor
