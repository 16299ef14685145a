import Derived.Test.YtgghfcchanilpaaGreatDoorSpV
set_option linter.unusedVariables false
set_option linter.unusedSimpArgs false
namespace Go.Proofs.YtgghfcchanilpaaGreatDoor
open Go Go.Abs
theorem c234 {c : Qp} {i : Nat} (ho : VF c i) (hi : (i : Int) < len c.routs) {m : Nat} {r : Int} (h0 : 0 ≤ r) (h1 : r ≤ i) (hm : m < 9223372036854775808) (hf : 0 ≤ Y9 c m r) (σ : St) : Ret W 234 [Qt c,.int .i64 r,.int .i64 m] σ (.bool (VP c m r)) := by
 refine QE fun R hR => ?_
 rw [EU]
 delta CZ bF pF gF kF nI
 simp only [Qf,zz,Nat.reduceEqDiff]
 generalize hF : VP c m r = F at hR
 refine Qr (fun x τ => F = true ∧ τ = σ) (fun x τ hx => ?_) ?_
 ·obtain ⟨h1,rfl⟩ := hx
  rw [h1] at hR
  exact Q2 hR
 refine M0 (fun m x τ => ∃ r : Int,0 ≤ r ∧ r ≤ i ∧ m < 9223372036854775808 ∧ 0 ≤ Y9 c m r ∧ x = Qz [(1,.int .i64 r),(7,.int .i64 m),(3,Qt c)] ∧ τ = σ ∧ VP c m r = F) ?_ m ⟨r,h0,h1,hm,hf,rfl,rfl,hF⟩
 rintro Φ m x τ ⟨r,h0,h1,hm,hf,rfl,rfl,hF⟩ next _
 simp only [Qf,zz,Nat.reduceEqDiff]
 cases m with
 | zero =>
  have e : decide (((0 : Nat) : Int) > 0) = false := rfl
  simp only [e,zz,Nat.reduceEqDiff]
  exact ⟨hF.symm,trivial⟩
 | succ m =>
  have e : decide (((m + 1 : Nat) : Int) > 0) = true := decide_eq_true (by omega)
  have hk := ho r.toNat (by omega)
  rw [Int.toNat_of_nonneg h0] at hk
  have hix : Q5 9 (QB Qo c.routs) (.int .i64 r) = some (.eptr (Qo (rAt c r)) 0) := Zd X3 ZE h0 (by omega)
  have hr : ¬ r < 0 := by omega
  simp only [Y9,hr,if_false] at hf
  have hb' := YI ho m (rAt c r).outer hk.1 (by omega)
  simp only [VP] at hF
  simp only [e,hix,Zx,Qy,zz,Nat.reduceEqDiff,Nat.reduceAdd]
  refine orG (decide ((rAt c r).level > ((m + 1 : Nat) : Int))) (fun _ J hJ => ?_) ?_
  ·try simp only [hix,Zx,Qy,zz,Nat.reduceEqDiff,Nat.reduceAdd]
   exact hJ _ rfl
  refine Qu (fun hb => ?_) (fun hb => ?_)
  ·rw [if_pos hb] at hF
   subst hF
   exact Q2 hR
  ·rw [if_neg (by rw [hb]; simp)] at hF
   rw [Yh _ (by omega) (by omega)]
   simp only [zz,Nat.reduceEqDiff]
   refine next _ _ m (by omega) ⟨(rAt c r).outer,by omega,by omega,by omega,hf,?_,rfl,hF⟩
   congr 4
   simp
theorem Kq {c : Qp} {i : Nat} (ho : VF c i) (hi : (i : Int) < len c.routs) {r n : Int} (h0 : 0 ≤ r) (h1 : r ≤ i) (hn : 0 ≤ n) : VL c r n = Y9 c n.toNat r := by
 unfold VL
 split
 ·exact (NZ ho _ _ (by omega) (by omega) (by omega)).symm
 ·rfl
theorem Li {c : Qp} {i : Nat} (ho : VF c i) (hi : (i : Int) < len c.routs) {r n : Int} (h0 : 0 ≤ r) (h1 : r ≤ i) :
  (XL c r n).2 = (decide (0 ≤ VL c r n) && VP c n.toNat r) ∧ ((XL c r n).2 = true → (XL c r n).1 = VL c r n) := by
 unfold XL
 by_cases hn : n < 0
 ·have : VL c r n = -1 := by unfold VL; rw [if_pos (by omega)]
  rw [if_pos hn,this]
  simp
 ·rw [if_neg hn,Kq ho hi h0 h1 (by omega),Sf ho _ _ h0 h1]
  by_cases hc : Y9 c n.toNat r ≥ 0 ∧ VP c n.toNat r = true
  ·rw [if_pos hc]
   simp [hc.1,hc.2]
  ·rw [if_neg hc]
   simp only [Bool.false_eq_true,false_implies,and_true]
   by_cases h : Y9 c n.toNat r ≥ 0
   ·have : VP c n.toNat r = false := by simpa [h] using hc
    simp [this]
   ·have : ¬ 0 ≤ Y9 c n.toNat r := h
    simp [this]
theorem A9 {c : Qp} (hc : VX c) (hf : Fit c) {i : Nat} (hi : i < c.routs.2.length) {r : Int} (h0 : 0 ≤ r) (h1 : r ≤ i) (o : Za) (ho : o.b < 9223372036854775808) (l : Int) (σ : St) : Ret W 132 [Qt c,.int .i64 r,XX o,.int .u8 l] σ (.bool (Xi c o l r)) := by
 refine QE fun R hR => ?_
 rw [E1]
 delta CD bF pF gF nI
 have hout := hf.out hi
 have hlen : (i : Int) < len c.routs := by unfold len; omega
 have fin : ∀ b : Bool,Xi c o l r = b → XG σ (.bool b) σ fun v σ => R (.ret v) σ := fun n hb => by
  rw [hb] at hR
  exact Q2 hR
 clear hR
 simp only [Qf,OK,zz,Nat.reduceEqDiff]
 refine Qu (fun hk => ?_) (fun hk => ?_)
 ·simp only [beq_iff_eq] at hk
  refine orG (l == 111) (fun _ J hJ => hJ _ rfl) ?_
  refine XW (o.a == 0) (fun _ J hJ => hJ _ rfl) ?_
  refine XW (o.b == 0) (fun _ J hJ => hJ _ rfl) ?_
  refine fin _ ?_
  simp only [Xi,hk,if_true]
 simp only [beq_eq_false_iff_ne,ne_eq] at hk
 refine (BI hc hout hlen (by omega) h1 _).Q0 ?_
 obtain ⟨hr2,hr1⟩ := Li (n := o.b) hout hlen h0 h1
 simp only [zz,Nat.reduceEqDiff]
 refine orG (!VP c o.b.toNat r) (fun hx J hJ => ?_) ?_
 ·simp only [decide_eq_false_iff_not] at hx
  have hnn : 0 ≤ o.b := by
   rcases Int.lt_or_le o.b 0 with h | h
   ·exact absurd (show VL c r o.b < 0 by unfold VL; rw [if_pos (Or.inl h)]; omega) hx
   ·exact h
  have hfu : VL c r o.b = Y9 c o.b.toNat r := Kq hout hlen h0 h1 hnn
  have hcall := c234 (m := o.b.toNat) hout hlen h0 h1 (by omega) (by omega) σ
  rw [Int.toNat_of_nonneg hnn] at hcall
  refine hcall.Q0 ?_
  simp only [zz,Nat.reduceEqDiff]
  exact hJ _ rfl
 refine Qu (fun hb => ?_) (fun hb => ?_)
 ·refine fin _ ?_
  have h2 : (XL c r o.b).2 = false := by
   rw [hr2]
   simp only [Bool.or_eq_true,decide_eq_true_eq,Bool.not_eq_true'] at hb
   rcases hb with hb | hb
   ·rw [decide_eq_false (by omega)]; rfl
   ·rw [hb,Bool.and_false]
  simp only [Xi,hk,h2,if_false,Bool.and_false,Bool.false_and]
  simp
 have h2 : (XL c r o.b).2 = true := by
  rw [hr2]
  simp only [Bool.or_eq_false_iff,decide_eq_false_iff_not,Bool.not_eq_false'] at hb
  rw [decide_eq_true (by omega),hb.2]
  rfl
 have h3 := hr1 h2
 obtain ⟨f0,f1⟩ := NQ hout h0 h1 h2
 have hos : Xi c o l r = if o.k = 1 then ((l == 115 || l == 111) && true) && inS o.a (len (mAt c (rAt c (VL c r o.b)).frame)) else if o.k = 2 then ((l == 114) && true) && inS o.a (len (rAt c (VL c r o.b)).ranges) else false := by
  simp only [Xi,hk,if_false,h2,h3]
 rw [h3] at f0 f1
 generalize VL c r o.b = f at f0 f1 hos
 have hfr := hf.frame f0 (by omega)
 have hix : Q5 9 (QB Qo c.routs) (.int .i64 f) = some (.eptr (Qo (rAt c f)) 0) := Zd X3 ZE f0 (by omega)
 have hix2 : Q5 1 (QB Xj c.maps) (.int .i64 (rAt c f).frame) = some (.eptr (Xj (mAt c (rAt c f).frame)) 0) := Zd Ze (.nil,[]) hfr.1 hfr.2
 simp only [Bool.and_true] at hos
 refine Qu (fun hk1 => ?_) (fun hk1 => ?_)
 ·simp only [beq_iff_eq] at hk1
  refine orG (l == 111) (fun _ J hJ => hJ _ rfl) ?_
  refine XW (inS o.a (len (mAt c (rAt c f).frame))) (fun hx J hJ => ?_) ?_
  ·simp only [hix,hix2,Zx,Qy,V2,Ql,zz,Nat.reduceEqDiff,Nat.reduceAdd]
   refine (c75 _ _ _).Q0 ?_
   exact hJ _ rfl
  refine fin _ ?_
  rw [hos,if_pos hk1]
 simp only [beq_eq_false_iff_ne,ne_eq] at hk1
 rw [if_neg hk1] at hos
 refine XW (l == 114) (fun _ J hJ => hJ _ rfl) ?_
 refine XW (inS o.a (len (rAt c f).ranges)) (fun hx J hJ => ?_) ?_
 ·simp only [hix,Zx,Qy,Ql,zz,Nat.reduceEqDiff,Nat.reduceAdd]
  refine (c75 _ _ _).Q0 ?_
  exact hJ _ rfl
 refine fin _ ?_
 rw [hos]
 by_cases hk2 : o.k = 2
 ·simp [hk2]
 ·have : (o.k == 2) = false := by simpa using hk2
  simp [hk2,this]
end Go.Proofs.YtgghfcchanilpaaGreatDoor
namespace Go.Proofs.YtgghfcchanilpaaGreatDoor
open Go Go.Abs
theorem c133 (c : Qp) (i : Xz) (l : Int) (σ : St) : Ret W 133 [Qt c,QD i,.int .u8 l] σ (.bool (Tc c i l)) := by
 refine QE fun R hR => ?_
 rw [FH]
 delta CP bF pF gF nI
 have fin : ∀ b : Bool,Tc c i l = b → XG σ (.bool b) σ fun v σ => R (.ret v) σ := fun n hb => by
  rw [hb] at hR
  exact Q2 hR
 clear hR
 simp only [Qf,XQ,Ql,zz,Nat.reduceEqDiff]
 repeat' first
  | (refine TC ?_; try simp only [Qf,XQ,Ql,zz,Nat.reduceEqDiff])
  | (refine S6 (fun hl => ?_) (fun hl => ?_))
  | (refine Iv (fun hb => ?_) (fun hb => ?_) <;> simp only [hb,zz,Nat.reduceEqDiff])
  | refine fin _ ?_
 all_goals (clear fin; rw [Bool.eq_iff_iff]; unfold Tc; (repeat' split) <;> (try simp_all) <;> (try omega))
theorem BP {c : Qp} {r : Int} (h1 : r < len c.routs) (k : Int) (σ : St) : Ret W 135 [Qt c,.int .i64 r,.int .i64 k] σ (.bool (decide (r ≥ 0) && SX c r k)) := by
 refine QE fun R hR => ?_
 rw [GL]
 delta Bk bF pF gF nI
 simp only [Qf,zz,Nat.reduceEqDiff]
 unfold SX at hR
 rw [← Bool.and_assoc] at hR
 have hix : r ≥ 0 → Q5 9 (QB Qo c.routs) (.int .i64 r) = some (.eptr (Qo (rAt c r)) 0) := fun h => Zd X3 ZE h h1
 refine XW (decide (k ≥ (rAt c r).fr)) (fun hx J hJ => ?_) ?_
 ·simp only [decide_eq_true_eq] at hx
  simp only [hix hx,Zx,Qy,zz,Nat.reduceEqDiff,Nat.reduceAdd]
  exact hJ _ rfl
 refine XW (decide (k < (rAt c r).to)) (fun hx J hJ => ?_) ?_
 ·simp only [Bool.and_eq_true,decide_eq_true_eq] at hx
  simp only [hix hx.1,Zx,Qy,zz,Nat.reduceEqDiff,Nat.reduceAdd]
  exact hJ _ rfl
 exact Q2 hR
end Go.Proofs.YtgghfcchanilpaaGreatDoor
namespace Go.Proofs.YtgghfcchanilpaaGreatDoor
open Go Go.Abs
def Sq (c : Qp) (rows idents : Int) (i : Xz) (l r : Int) : Bool :=
 if l = 74 then decide (VL c r i.s.b ≥ 0) && SX c (VL c r i.s.b) i.k else ZL c rows idents i l r
theorem c134 {c : Qp} (hc : VX c) (hf : Fit c) {n : Nat} (hi : n < c.routs.2.length) (a b : Int) (i : Xz) (l : Int) {r : Int} (h0 : 0 ≤ r) (h1 : r ≤ n) (σ : St) :
  Ret W 134 [Qt c,.int .i64 r,QD i,.int .u8 l,.int .i64 a,.int .i64 b] σ (.bool (Sq c a b i l r)) := by
 refine QE fun R hR => ?_
 rw [F5]
 delta Br bF pF gF kF nI
 have hout := hf.out hi
 have hlen : (n : Int) < len c.routs := by unfold len; omega
 have fin : ∀ v : Bool,Sq c a b i l r = v → XG σ (.bool v) σ fun v σ => R (.ret v) σ := fun v hv => by
  rw [hv] at hR
  exact Q2 hR
 clear hR
 have hix : Q5 9 (QB Qo c.routs) (.int .i64 r) = some (.eptr (Qo (rAt c r)) 0) := Zd X3 ZE h0 (by omega)
 simp only [Qf,XQ,Ql,hix,Zx,Qy,zz,Nat.reduceEqDiff,Nat.reduceAdd]
 refine Qr (fun x τ => x 13 = .int .i64 i.k ∧ τ = σ ∧ Sq c a b i l r = (i.k == 0)) (fun x τ hx => ?_) ?_
 ·obtain ⟨h9,rfl,hw⟩ := hx
  simp only [h9,zz,Nat.reduceEqDiff]
  exact fin _ hw
 repeat' first
  | contradiction
  | refine S6 (fun hl => ?_) (fun hl => ?_)
  | (refine (c75 _ _ _).Q0 ?_; refine fin _ ?_; clear fin hix; subst hl; rfl)
 ·refine XW (decide (i.k ≤ 1000)) (fun _ J hJ => hJ _ rfl) ?_
  refine fin _ ?_
  clear fin hix
  subst hl
  rfl
 ·refine XW (decide (i.k ≤ 3)) (fun _ J hJ => hJ _ rfl) ?_
  refine fin _ ?_
  clear fin hix
  subst hl
  rfl
 ·refine XW (decide (i.k < len c.routs)) (fun _ J hJ => hJ _ rfl) ?_
  refine XW ((rAt c i.k).outer == r) (fun hx J hJ => ?_) ?_
  ·simp only [Bool.and_eq_true,decide_eq_true_eq] at hx
   have hix2 : Q5 9 (QB Qo c.routs) (.int .i64 i.k) = some (.eptr (Qo (rAt c i.k)) 0) := Zd X3 ZE (by omega) hx.2
   simp only [hix2,Zx,Qy,zz,Nat.reduceEqDiff,Nat.reduceAdd]
   exact hJ _ rfl
  refine fin _ ?_
  clear fin hix
  subst hl
  rfl
 ·refine XW (decide (i.k < len (rAt c r).ranges)) (fun _ J hJ => ?_) ?_
  ·try simp only [hix,Zx,Qy,Ql,zz,Nat.reduceEqDiff,Nat.reduceAdd]
   exact hJ _ rfl
  refine fin _ ?_
  clear fin hix
  subst hl
  rfl
 ·refine (BP (by omega) _ _).Q0 ?_
  refine fin _ ?_
  clear fin hix
  subst hl
  rw [decide_eq_true h0,Bool.true_and]
  rfl
 ·refine (BI hc hout hlen (by omega) h1 _).Q0 ?_
  have hfb : VL c r i.s.b < len c.routs := by
   unfold VL
   split
   ·omega
   ·have := YI hout i.s.b.toNat r (by omega) h1
    omega
  refine (BP hfb _ _).Q0 ?_
  refine fin _ ?_
  clear fin hix
  subst hl
  rfl
 ·refine ⟨rfl,rfl,?_⟩
  clear fin hix
  simp only [Sq,ZL,Et, *,if_false,or_self,inS]
  rw [Bool.eq_iff_iff]
  simp only [Bool.and_eq_true,decide_eq_true_eq,beq_iff_eq]
  omega
end Go.Proofs.YtgghfcchanilpaaGreatDoor
namespace Go.Proofs.YtgghfcchanilpaaGreatDoor
open Go Go.Abs
theorem Is : ∀ n : Fin 40,(lf ((n.val : Nat) : Int) 4 = 99 ↔ (n.val = 11 ∨ n.val = 12 ∨ n.val = 19)) ∧ (lf ((n.val : Nat) : Int) 4 = 112 ↔ n.val = 23) ∧ (lf ((n.val : Nat) : Int) 4 = 74 → lf ((n.val : Nat) : Int) 0 = 114) := by decide +kernel
theorem Hd {op : Int} (h : Zo op = true) : (lf op 4 = 99 ↔ (op = 11 ∨ op = 12 ∨ op = 19)) ∧ (lf op 4 = 112 ↔ op = 23) ∧ (lf op 4 = 74 → lf op 0 = 114) := by
 have h' := T5.1 h
 obtain ⟨n,rfl⟩ := Int.eq_ofNat_of_zero_le h'.1
 have := Is ⟨n,by omega⟩
 simp only at this
 obtain ⟨h1,h2,h3⟩ := this
 refine ⟨h1.trans ?_,h2.trans ?_,h3⟩ <;> omega
theorem Ge {c : Qp} {n : Nat} (hout : VF c n) (hlen : (n : Int) < len c.routs) (a b : Int) (i : Xz) {r : Int} (h0 : 0 ≤ r) (h1 : r ≤ n) (hk : Zo i.op = true) (hm : Us c i r = false) : Sq c a b i (lf i.op 4) r = ZL c a b i (lf i.op 4) r := by
 unfold Sq
 split
 ·rename_i hl
  have hs : Xi c i.s 114 r = true := by
   rw [← (Hd hk).2.2 hl]
   simp only [Us,Bool.or_eq_false_iff,Bool.not_eq_false'] at hm
   exact hm.1.1
  have h2 : (XL c r i.s.b).2 = true := by
   simp only [Xi] at hs
   split at hs
   ·simp at hs
   ·split at hs
    ·simp at hs
    ·split at hs
     ·simp only [Bool.and_eq_true] at hs
      exact hs.1.2
     ·cases hs
  obtain ⟨hr2,hr1⟩ := Li (n := i.s.b) hout hlen h0 h1
  rw [h2] at hr2
  have hf : decide (0 ≤ VL c r i.s.b) = true := (Bool.and_eq_true_iff.1 hr2.symm).1
  simp only [decide_eq_true_eq] at hf
  have hnn : 0 ≤ i.s.b := by
   rcases Int.lt_or_le i.s.b 0 with h | h
   ·exfalso
    have : VL c r i.s.b = -1 := by unfold VL; rw [if_pos (Or.inl h)]
    omega
   ·exact h
  have ho : (VI c r i.s.b).1 = VL c r i.s.b := by
   rw [Kq hout hlen h0 h1 hnn] at hf ⊢
   unfold VI
   rw [if_neg (by omega),if_neg (by omega)]
  simp only [ZL,hl,ho,decide_eq_true (show VL c r i.s.b ≥ 0 from hf),Bool.true_and]
  rfl
 ·rfl
theorem HF {op : Int} (h : Zo op = true) : ∃ x l,ZN op = x :: l := by
 have := Lw h
 cases hf : ZN op with
 | nil => rw [hf] at this; cases this
 | cons x l => exact ⟨x,l,rfl⟩
theorem c70 {c : Qp} (hc : VX c) (hf : Fit c) {n : Nat} (hi : n < c.routs.2.length) (a b : Int) (i : Xz) (hok : i.ok = true) (σ : St) :
  Ret W 70 [Qt c,.int .i64 n,QD i,.int .i64 a,.int .i64 b] σ (.int .i64 (VR c a b i n)) := by
 refine QE fun R hR => ?_
 rw [DI]
 delta Aj bF pF gF kF nI
 have fin : ∀ v : Int,VR c a b i n = v → XG σ (.int .i64 v) σ fun v σ => R (.ret v) σ := fun v hv => by
  rw [hv] at hR
  exact Q2 hR
 clear hR
 have hout := hf.out hi
 have hlen : (n : Int) < len c.routs := by unfold len; omega
 simp only [Qf,XQ,zz,Nat.reduceEqDiff]
 refine (c18 _ _).Q0 ?_
 cases hk : Zo i.op with
 | false =>
  have : ZN i.op = [] := by simp only [ZN,hk,Bool.false_eq_true,if_false]
  simp only [this,zz,Nat.reduceEqDiff]
  refine Qu (fun _ => ?_) (fun h => by cases h)
  refine fin _ ?_
  simp only [VR,hk,Bool.not_false,if_true]
 | true =>
 have hne : QR none .eql (.str (ZN i.op)) (.str []) = some (.bool false) := by
  obtain ⟨x,l,h⟩ := HF hk
  rw [h]
  rfl
 have hbs : ∀ o ∈ [i.s,i.t,i.d],o.b < 9223372036854775808 := by
  intro o ho
  simp only [Xz.ok,Za.ok,VU,Bool.and_eq_true,decide_eq_true_eq] at hok
  simp at ho
  rcases ho with rfl | rfl | rfl <;> omega
 have s0 : Xt (.str (ZN i.op)) (.int .i64 0) = some (.int .u8 (lf i.op 0)) := Sn (k := 0) hk (by omega)
 have s1 : Xt (.str (ZN i.op)) (.int .i64 1) = some (.int .u8 (lf i.op 1)) := Sn (k := 1) hk (by omega)
 have s2 : Xt (.str (ZN i.op)) (.int .i64 2) = some (.int .u8 (lf i.op 2)) := Sn (k := 2) hk (by omega)
 have s3 : Xt (.str (ZN i.op)) (.int .i64 3) = some (.int .u8 (lf i.op 3)) := Sn (k := 3) hk (by omega)
 have s4 : Xt (.str (ZN i.op)) (.int .i64 4) = some (.int .u8 (lf i.op 4)) := Sn (k := 4) hk (by omega)
 simp only [hne,s0,s1,s2,s3,s4,SZ,XQ,zz,Nat.reduceEqDiff]
 refine (A9 hc hf hi (by omega) (by omega) i.s (hbs _ (by simp)) _ _).Q0 ?_
 simp only [zz,Nat.reduceEqDiff]
 refine orG (!Xi c i.t (lf i.op 1) n) (fun _ J hJ => ?_) ?_
 ·refine (A9 hc hf hi (by omega) (by omega) i.t (hbs _ (by simp)) _ _).Q0 ?_
  simp only [zz,Nat.reduceEqDiff]
  exact hJ _ rfl
 refine orG (!Xi c i.d (lf i.op 2) n) (fun _ J hJ => ?_) ?_
 ·refine (A9 hc hf hi (by omega) (by omega) i.d (hbs _ (by simp)) _ _).Q0 ?_
  simp only [zz,Nat.reduceEqDiff]
  exact hJ _ rfl
 refine Qu (fun hb => ?_) (fun hb => ?_)
 ·refine fin _ ?_
  have : Us c i n = true := hb
  simp only [VR,hk,this,Bool.not_true,Bool.false_eq_true,if_false,if_true]
 have hmf : Us c i n = false := hb
 have hnum := Ge hout hlen a b i (by omega) (by omega) hk hmf
 refine (c133 c i _ _).Q0 ?_
 simp only [zz,Nat.reduceEqDiff]
 refine orG (!ZL c a b i (lf i.op 4) n) (fun _ J hJ => ?_) ?_
 ·refine (c134 hc hf hi a b i _ (by omega) (by omega) _).Q0 ?_
  rw [hnum]
  simp only [zz,Nat.reduceEqDiff]
  exact hJ _ rfl
 refine Qu (fun hb => ?_) (fun hb => ?_)
 ·refine fin _ ?_
  have : NT c a b i n = true := hb
  simp only [VR,hk,hmf,this,Bool.not_true,Bool.false_eq_true,if_false,if_true]
 have hnb : NT c a b i n = false := hb
 have hte : VR c a b i n = ZA c i n := by
  simp only [VR,hk,hmf,hnb,Bool.not_true,Bool.false_eq_true,if_false]
 rw [hte] at fin
 have h2 : ZL c a b i (lf i.op 4) n = true := by
  simp only [Bool.or_eq_false_iff,Bool.not_eq_false'] at hb
  exact hb.2
 obtain ⟨l1,l2,-⟩ := Hd hk
 clear hb hnb hte hnum hmf hne
 refine Qr (fun x τ => x 11 = .str (ZN i.op) ∧ x 5 = Qt c ∧ x 7 = QD i ∧ τ = σ ∧ (lf i.op 4 = 99 → SQ c i n = false)) (fun x τ hx => ?_) ?_
 case refine_2 =>
  refine S6 (fun hl => ?_) (fun hl => ?_)
  ·have hop := l1.1 hl
   rw [hl] at h2
   have h3 : inS i.k (len c.jumps) = true := h2
   simp only [inS,Bool.and_eq_true,decide_eq_true_eq] at h3
   have hix : Q5 1 (QB QP c.jumps) (.int .i64 i.k) = some (.eptr (QP (atI (.nil,[]) c.jumps i.k)) 0) := Zd Xo (.nil,[]) h3.1 h3.2
   have hts : ZA c i n = if SQ c i n then 11 else 0 := by
    simp only [ZA]
    rw [if_pos hop]
   have htl : (atI (.nil,[]) c.jumps i.k).2.length ≤ 1048576 := by
    unfold atI
    rw [List.getD_eq_getElem?_getD]
    cases hq : c.jumps.2[i.k.toNat]? with
    | none => simp
    | some m => exact hc.jump m (List.mem_of_getElem? hq)
   unfold SQ at hts ⊢
   generalize atI (.nil,[]) c.jumps i.k = t at hix hts htl
   have hlt : ∀ σ : St,Qj .sl (QP t) σ = some (.int .i64 (len t)) := fun σ => Ql _ _ _
   simp only [hix,Xo.part,zz,Nat.reduceEqDiff]
   refine Qr (fun x τ => x 11 = .str (ZN i.op) ∧ x 5 = Qt c ∧ x 7 = QD i ∧ x 12 = QP t ∧ τ = σ ∧ t.2.any (Na (rAt c n)) = false) (fun x τ hx => ?_) ?_
   ·obtain ⟨q1,q2,q3,q4,rfl,hany⟩ := hx
    rw [hany,Bool.or_false] at hts
    simp only [q1,q2,q3,q4,hlt,zz,Nat.reduceEqDiff]
    refine Qu (fun hb => ?_) (fun hb => ?_)
    ·refine fin _ ?_
     rw [hts,if_pos hb]
    ·refine ⟨trivial,trivial,trivial,trivial,fun _ => ?_⟩
     rw [hany,hb]
     rfl
   refine Z9 t.2 (Na (rAt c n)) (fun j => Qz [(1,.int .i64 n),(11,.str (ZN i.op)),(12,QP t),(13,.int .i64 j),(5,Qt c),(7,QD i)]) _ rfl (fun hb Φ => ?_) (fun Φ j k hg hmem hj hit next => ?_)
   ·simp only [hlt,QG,Nat.lt_irrefl,decide_false,zz,Nat.reduceEqDiff]
    exact ⟨trivial,trivial,trivial,trivial,trivial,hb⟩
   have hi' : Q5 1 (QP t) (.int .i64 j) = some (.eptr (pvI k) 0) := QV encI hg
   simp only [hlt,Xk hj,hj,decide_true,hi',encI.part,Qf,zz,Nat.reduceEqDiff]
   refine (BP (by omega) _ _).Q0 ?_
   have ho : (decide ((n : Int) ≥ 0) && SX c n k) = !Na (rAt c n) k := by
    rw [decide_eq_true (show (n : Int) ≥ 0 by omega),Bool.true_and]
    simp only [SX,Na]
    rw [Bool.eq_iff_iff]
    simp only [Bool.and_eq_true,Bool.not_eq_true',Bool.or_eq_false_iff,decide_eq_true_eq,decide_eq_false_iff_not]
    omega
   rw [ho]
   simp only [Bool.not_not,zz,Nat.reduceEqDiff]
   refine Qu (fun hb => ?_) (fun hb => ?_)
   ·refine fin _ ?_
    rw [hts,hit hb,Bool.or_true,if_pos rfl]
   ·rw [Qi _ (by omega) (by omega)]
    simp only [zz,Nat.reduceEqDiff]
    exact next hb
  ·exact ⟨rfl,rfl,rfl,rfl,fun h => absurd h hl⟩
 obtain ⟨q1,q2,q3,rfl,hjb⟩ := hx
 simp only [q1,q2,q3,s4,Qf,XQ,zz,Nat.reduceEqDiff]
 refine Qr (fun x τ' => τ' = τ ∧ ZA c i n = 0) (fun x τ' hx => ?_) ?_
 ·obtain ⟨rfl,hz⟩ := hx
  exact fin _ hz
 refine S6 (fun hl => ?_) (fun hl => ?_)
 ·have hop := l2.1 hl
  rw [hl] at h2
  have h3 : inS i.k (len c.parts) = true := h2
  simp only [inS,Bool.and_eq_true,decide_eq_true_eq] at h3
  have hix : Q5 1 (QB QP c.parts) (.int .i64 i.k) = some (.eptr (QP (atI (.nil,[]) c.parts i.k)) 0) := Zd Xo (.nil,[]) h3.1 h3.2
  have hts : ZA c i n = if (atI (.nil,[]) c.parts i.k).2.any L8 then 11 else 0 := by
   simp only [ZA]
   rw [if_neg (by omega),if_pos hop]
  have htl : (atI (.nil,[]) c.parts i.k).2.length ≤ 1048576 := by
   unfold atI
   rw [List.getD_eq_getElem?_getD]
   cases hq : c.parts.2[i.k.toNat]? with
   | none => simp
   | some m => exact hc.part m (List.mem_of_getElem? hq)
  generalize atI (.nil,[]) c.parts i.k = t at hix hts htl
  have hlt : ∀ σ : St,Qj .sl (QP t) σ = some (.int .i64 (len t)) := fun σ => Ql _ _ _
  simp only [hix,Xo.part,zz,Nat.reduceEqDiff]
  refine Z9 t.2 L8 (fun j => Qz [(14,QP t),(15,.int .i64 j)]) _ rfl (fun hb Φ => ?_) (fun Φ j k hg hmem hj hit next => ?_)
  ·simp only [hlt,QG,Nat.lt_irrefl,decide_false,zz,Nat.reduceEqDiff]
   rw [hb,if_neg (by simp)] at hts
   exact ⟨trivial,hts⟩
  have hi' : Q5 1 (QP t) (.int .i64 j) = some (.eptr (pvI k) 0) := QV encI hg
  have hpv : pvI k = .int .i64 k := rfl
  simp only [hlt,Xk hj,hj,decide_true,hi',encI.part,hpv,zz,Nat.reduceEqDiff]
  refine orG (decide (k ≥ 64)) (fun _ J hJ => ?_) ?_
  ·try simp only [hi',encI.part,zz,Nat.reduceEqDiff]
   exact hJ _ rfl
  refine Qu (fun hb => ?_) (fun hb => ?_)
  ·refine fin _ ?_
   rw [hts,hit hb,if_pos rfl]
  ·rw [Qi _ (by omega) (by omega)]
   simp only [zz,Nat.reduceEqDiff]
   exact next hb
 ·refine ⟨rfl,?_⟩
  simp only [ZA]
  by_cases hop : i.op = 11 ∨ i.op = 12 ∨ i.op = 19
  ·rw [if_pos hop,hjb (l1.2 hop),if_neg (by simp)]
  ·rw [if_neg hop,if_neg (fun h => hl (l2.2 h))]
end Go.Proofs.YtgghfcchanilpaaGreatDoor
