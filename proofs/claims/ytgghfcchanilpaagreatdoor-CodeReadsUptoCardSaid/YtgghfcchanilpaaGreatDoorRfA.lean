import Derived.Test.YtgghfcchanilpaaGreatDoorSpRj
set_option linter.unusedVariables false
set_option linter.unusedSimpArgs false
namespace Go.Proofs.YtgghfcchanilpaaGreatDoor
open Go Go.Abs
def Yx (s : Str) (o : Nat) (e : Int) : Blk := .arr 0 3 [.agg [.str s,.int .i64 (o : Int),.int .i64 e]]
structure Rf (p : Nat) (s : Str) (σ : St) (o : Nat) (e : Int) : Prop where
 at_ : σ[p]? = some (Yx s o e)
 le : o ≤ s.length
 err : e ≠ 0 → o = s.length
def Qk (p : Nat) (s : Str) (σ : St) (o : Nat) (e : Int) : St := σ.set p (Yx s o e)
def Run {α : Type} (pa : Pa α) (s : Str) (o : Nat) (e : Int) (o' : Nat) (e' : Int) (a : α) : Prop :=
 (e = 0 ∧ e' = 0 ∧ o ≤ o' ∧ o' ≤ s.length ∧ pa (s.drop o) = .ok (a,s.drop o')) ∨ (e' ≠ 0 ∧ o' = s.length ∧ (e = 0 ∧ pa (s.drop o) = .error e' ∨ e = e'))
section
variable {p : Nat} {s : Str} {σ : St} {o : Nat} {e : Int}
theorem Rf.lt (h : Rf p s σ o e) : p < σ.length := (List.getElem?_eq_some_iff.1 h.at_).1
theorem Bp (h : σ[p]? = some (Yx s o e)) : p < σ.length := (List.getElem?_eq_some_iff.1 h).1
theorem Pt (h : σ[p]? = some (Yx s o e)) : Qk p s σ o e = σ := by
 unfold Qk
 apply List.ext_getElem?
 intro i
 rw [List.getElem?_set]
 split
 ·rename_i hi
  subst hi
  rw [if_pos (Bp h),h]
 ·rfl
theorem Sa (h : p < σ.length) (o : Nat) (e : Int) : (Qk p s σ o e)[p]? = some (Yx s o e) := by simp [Qk,h]
theorem Yp {o o' : Nat} {e e' : Int} : Qk p s (Qk p s σ o e) o' e' = Qk p s σ o' e' := by simp [Qk,List.set_set]
theorem Zt (o : Nat) (e : Int) : (Qk p s σ o e).length = σ.length := by simp [Qk]
theorem Zq {i : Nat} (h : i ≠ p) (o : Nat) (e : Int) : (Qk p s σ o e)[i]? = σ[i]? := List.getElem?_set_ne (Ne.symm h)
theorem P9 (h : σ[p]? = some (Yx s o e)) : Q4 false 1 (.ptr p 0 0 0) σ = some (.str s) := by simp [Q4,h,Yx,Q6,PV.cells?]
theorem Od (h : σ[p]? = some (Yx s o e)) : Q4 false 1 (.ptr p 0 0 1) σ = some (.int .i64 (o : Int)) := by simp [Q4,h,Yx,Q6,PV.cells?]
theorem YH (h : σ[p]? = some (Yx s o e)) : Q4 false 1 (.ptr p 0 0 2) σ = some (.int .i64 e) := by simp [Q4,h,Yx,Q6,PV.cells?]
theorem I4 (h : σ[p]? = some (Yx s o e)) (o' : Nat) : QQ 1 (.ptr p 0 0 1) (.int .i64 (o' : Int)) σ = some (Qk p s σ o' e) := by simp [QQ,h,Yx,Qv,PV.cells?,Z5,Qk]
theorem A1 (h : σ[p]? = some (Yx s o e)) (e' : Int) : QQ 1 (.ptr p 0 0 2) (.int .i64 e') σ = some (Qk p s σ o e') := by simp [QQ,h,Yx,Qv,PV.cells?,Z5,Qk]
theorem Rf.run {α : Type} {pa : Pa α} {o' : Nat} {e' : Int} {a : α} (h : Rf p s σ o e) (r : Run pa s o e o' e' a) : Rf p s (Qk p s σ o' e') o' e' where
 at_ := Sa h.lt _ _
 le := by
  rcases r with ⟨-,-,-,h1,-⟩ | ⟨-,h1,-⟩ <;> omega
 err := fun hne => by
  rcases r with ⟨-,h1,-⟩ | ⟨-,h1,-⟩
  ·exact absurd h1 hne
  ·exact h1
theorem Run.bind {α β : Type} {pa : Pa α} {f : α → Pa β} {o1 o2 : Nat} {e1 e2 : Int} {a : α} {b : β} (h : Run pa s o e o1 e1 a) (k : Run (f a) s o1 e1 o2 e2 b) : Run (QJ pa f) s o e o2 e2 b := by
 rcases h with ⟨rfl,rfl,h1,h2,h3⟩ | ⟨h1,rfl,h3⟩
 ·rcases k with ⟨-,rfl,k1,k2,k3⟩ | ⟨k1,rfl,k3⟩
  ·exact .inl ⟨rfl,rfl,by omega,k2,by rw [Qe h3]; exact k3⟩
  ·refine .inr ⟨k1,rfl,?_⟩
   rcases k3 with ⟨-,k3⟩ | rfl
   ·exact .inl ⟨rfl,by rw [Qe h3]; exact k3⟩
   ·exact absurd rfl k1
 ·rcases k with ⟨rfl,-⟩ | ⟨k1,rfl,k3⟩
  ·exact absurd rfl h1
  ·refine .inr ⟨k1,rfl,?_⟩
   rcases k3 with ⟨rfl,-⟩ | rfl
   ·exact absurd rfl h1
   ·rcases h3 with ⟨rfl,h3⟩ | rfl
    ·exact .inl ⟨rfl,QN h3⟩
    ·exact .inr rfl
theorem Run.ret {α : Type} (h : Rf p s σ o e) (a : α) : Run (Vd a) s o e o e a := by
 by_cases he : e = 0
 ·exact .inl ⟨he,he,Nat.le_refl _,h.le,rfl⟩
 ·exact .inr ⟨he,h.err he,.inr rfl⟩
end
def VT (f : FuncId) (args : List PV) (p : Nat) {α : Type} (pa : Pa α) (enc : α → PV) : Prop := ∀ (s : Str) (σ : St) (o : Nat) (e : Int) (R : Res → St → Prop),Rf p s σ o e → s.length ≤ 1048576 →
 (∀ a o' e',Run pa s o e o' e' a → R (.ret (enc a)) (Qk p s σ o' e')) → W f args σ R
theorem Vz {f : FuncId} {args : List PV} {p : Nat} {α : Type} {pa : Pa α} {enc : α → PV} (h : ∀ (s : Str) (σ : St) (o : Nat) (e : Int) (R : Res → St → Prop),Rf p s σ o e → s.length ≤ 1048576 →
  (∀ a o' e',Run pa s o e o' e' a → R (.ret (enc a)) (Qk p s σ o' e')) → Qn (Qq W) Tryz.prog QO f args σ R) : VT f args p pa enc :=
 fun s σ o e R h0 h1 h2 => Xe (h s σ o e R h0 h1 h2)
theorem VT.Q0 {f : FuncId} {args : List PV} {p : Nat} {α : Type} {pa : Pa α} {enc : α → PV} (h : VT f args p pa enc) {s : Str} {σ : St} {o : Nat} {e : Int} {K X : PV → St → Prop} (hr : Rf p s σ o e) (hl : s.length ≤ 1048576)
  (k : ∀ a o' e',Run pa s o e o' e' a → Rf p s (Qk p s σ o' e') o' e' → K (enc a) (Qk p s σ o' e')) : Q0 W f args σ K X :=
 h s σ o e _ hr hl (fun a o' e' h1 => k a o' e' h1 (hr.run h1))
theorem c85 {p : Nat} {s : Str} {σ : St} {o : Nat} {e : Int} (k : Int) (h : σ[p]? = some (Yx s o e)) {K X : PV → St → Prop} (hK : K (.tuple []) (Qk p s σ s.length (if e = 0 then k else e))) : Q0 W 85 [.ptr p 0 0 0,.int .i64 k] σ K X := by
 refine Xe (f := 85) ?_
 rw [Ds]
 delta xn bF lF sF kF nI
 refine Qr (fun x τ => x 0 = .ptr p 0 0 0 ∧ τ = Qk p s σ o (if e = 0 then k else e)) (fun x τ hx => ?_) ?_
 ·obtain ⟨q0,rfl⟩ := hx
  have hat := Sa (s := s) (Bp h) o (if e = 0 then k else e)
  simp only [q0,Xu,Vw,Nat.zero_add,P9 hat,I4 hat,Yp,zz,Nat.reduceEqDiff]
  exact Q2 hK
 ·simp only [Xu,Vw,Nat.zero_add,YH h,A1 h,zz,Nat.reduceEqDiff]
  refine Qu (fun hb => ?_) (fun hb => ?_)
  ·have he : e = 0 := by simpa using hb
   rw [if_pos he]
   exact ⟨by trivial,rfl⟩
  ·have he : ¬ e = 0 := by simpa using hb
   rw [if_neg he]
   exact ⟨by trivial,(Pt h).symm⟩
theorem Fl {s : Str} {o : Nat} {c : UInt8} (h : s[o]? = some c) : Xt (.str s) (.int .i64 (o : Int)) = some (.int .u8 (c.toNat : Int)) := Im _ h
set_option maxRecDepth 100000 in
theorem c193 {p : Nat} : VT 193 [.ptr p 0 0 0] p Xq (PV.int .i64) := Vz fun s σ o e R hrd hl hok => by
 rw [EX]
 delta BB bF lF sF gF kF nI
 simp only [zz,Nat.reduceEqDiff]
 refine Qr (fun x τ => ∃ (u o' : Nat),x 3 = .int .u64 (u : Int) ∧ τ = Qk p s σ o' 0 ∧ e = 0 ∧ o ≤ o' ∧ o' ≤ s.length ∧ u < 18446744073709551616 ∧ S2 10 0 0 (s.drop o) = .ok (u,s.drop o')) (fun x τ hx => ?_) ?_
 ·obtain ⟨u,o',q3,rfl,he0,h1,h2,hu,he⟩ := hx
  obtain ⟨w,e1,e2⟩ := GI hu
  simp only [q3,e1,e2,Bh hu,zz,Nat.reduceEqDiff]
  have hpn : Xq (s.drop o) = .ok (zag u,s.drop o') := by
   unfold Xq
   rw [he]
  have hR := hok (zag u) o' 0 (.inl ⟨he0,rfl,h1,h2,hpn⟩)
  refine Qu (fun hb => ?_) (fun hb => ?_)
  ·have h2 : u % 2 = 1 := by
    have : ((u % 2 : Nat) : Int) = 1 := by simpa using hb
    omega
   have hz : zag u = -((u / 2 : Nat) : Int) - 1 := by
    unfold zag
    rw [if_pos h2]
   simp only [IX (v := u / 2) (by omega),zz,Nat.reduceEqDiff]
   rw [← hz]
   exact Q2 hR
  ·have h2 : ¬ u % 2 = 1 := by
    have : ¬ ((u % 2 : Nat) : Int) = 1 := by simpa using hb
    omega
   have hz : zag u = ((u / 2 : Nat) : Int) := by
    unfold zag
    rw [if_neg h2]
   rw [← hz]
   exact Q2 hR
 refine QT 9 (fun k x τ => ∃ (u o1 : Nat),x = Qz [(0,.ptr p 0 0 0),(3,.int .u64 (u : Int)),(4,.int .i64 k)] ∧ τ = Qk p s σ o1 e ∧ o ≤ o1 ∧ o1 ≤ s.length ∧ (e ≠ 0 → o1 = s.length) ∧ u < 128 ^ k ∧ S2 10 0 0 (s.drop o) = S2 (10 - k) k u (s.drop o1)) ?_ ⟨0,o,rfl,(Pt hrd.at_).symm,Nat.le_refl _,hrd.le,hrd.err,by simp,rfl⟩
 rintro Φ k x τ hk9 ⟨u,o1,rfl,rfl,ho,hob,herr,hu,hle⟩ next
 have hat := Sa (s := s) hrd.lt o1 e
 have hf : 10 - k = (9 - k) + 1 := by omega
 rw [hf] at hle
 have hpk := Lk hk9
 have hbad : ∀ k : Int,k ≠ 0 → (e = 0 → S2 10 0 0 (s.drop o) = .error k) → R (.ret (.int .i64 0)) (Qk p s σ s.length (if e = 0 then k else e)) := fun k hk h => by
  refine hok 0 _ _ (.inr ⟨?_,rfl,?_⟩)
  ·split
   ·exact hk
   ·assumption
  ·by_cases he : e = 0
   ·rw [if_pos he]
    exact .inl ⟨he,by unfold Xq; rw [h he]⟩
   ·rw [if_neg he]
    exact .inr rfl
 simp only [Xu,Vw,Nat.zero_add,P9 hat,Od hat,zz,Nat.reduceEqDiff]
 refine Qu (fun hb => ?_) (fun hb => ?_)
 ·have hge : (o1 : Int) ≥ s.length := of_decide_eq_true hb
  have hd : s.drop o1 = [] := List.drop_eq_nil_of_le (by omega)
  rw [hd] at hle
  refine c85 16 hat ?_
  rw [Yp]
  exact Q2 (hbad 16 (by decide) fun _ => hle)
 have hlt : o1 < s.length := by
  have : ¬ (o1 : Int) ≥ s.length := of_decide_eq_false hb
  omega
 have he0 : e = 0 := by
  by_cases he : e = 0
  ·exact he
  ·have := herr he
   omega
 subst he0
 have hg : s[o1]? = some s[o1] := by simp [hlt]
 generalize s[o1] = c at hg
 rw [L4 hg,Lb] at hle
 have hc := c.toNat_lt
 have hst := I4 hat (o1 + 1)
 rw [Yp] at hst
 have hat2 := Sa (s := s) hrd.lt (o1 + 1) 0
 have hoo : QR none .add (.int .i64 (o1 : Int)) (.int .i64 1) = some (.int .i64 ((o1 + 1 : Nat) : Int)) := by
  rw [Qi _ (by omega) (by omega)]
  rfl
 simp only [Fl hg,hoo,hst,zz,Nat.reduceEqDiff]
 have bad : ((k = 9 ∧ c.toNat > 1) ∨ (k > 0 ∧ c.toNat = 0)) → Q0 W 85 [.ptr p 0 0 0,.int .i64 2] (Qk p s σ (o1 + 1) 0) (fun v51 σ52 => XG σ (.int .i64 0) σ52 fun v σ => R (.ret v) σ) (fun e53 σ54 => R (.pan e53) σ54) := fun h => by
  rw [if_pos h] at hle
  refine c85 2 hat2 ?_
  rw [Yp]
  exact Q2 (hbad 2 (by decide) fun _ => hle)
 have good : ¬ ((k = 9 ∧ c.toNat > 1) ∨ (k > 0 ∧ c.toNat = 0)) →
   Qg False (QR none .and (.int .u8 (c.toNat : Int)) (.int .u8 127)) fun v55 =>
   Qg False (XY .u64 v55) fun v56 =>
   Qg False (QR none .mul (.int .i64 7) (.int .i64 (k : Int))) fun v57 =>
   Qg False (QR none .shl v56 v57) fun v58 =>
   Qg False (QR none .or (.int .u64 (u : Int)) v58) fun v59 =>
   Q3 (.bool (decide ((c.toNat : Int) < 128))) (
   ∃ (u_1 o' : Nat),v59 = .int .u64 (u_1 : Int) ∧ Qk p s σ (o1 + 1) 0 = Qk p s σ o' 0 ∧ True ∧ o ≤ o' ∧ o' ≤ s.length ∧ u_1 < 18446744073709551616 ∧ S2 10 0 0 (s.drop o) = .ok (u_1,s.drop o')) (
   Qg False (QR none .add (.int .i64 (k : Int)) (.int .i64 1)) fun v62 =>
   Φ (Qz [(0,.ptr p 0 0 0),(3,v59),(4,v62)]) (Qk p s σ (o1 + 1) 0)) := fun hgood => by
  rw [if_neg hgood] at hle
  have hsum : u + c.toNat % 128 * 128 ^ k < 18446744073709551616 := by
   rcases Nat.lt_or_ge k 9 with h | h
   ·have h8 : 128 ^ k ≤ 128 ^ 8 := Nat.pow_le_pow_right (by omega) (by omega)
    have h88 : (128 : Nat) ^ 8 = 72057594037927936 := by decide
    have : c.toNat % 128 ≤ 127 := by omega
    have h3 : c.toNat % 128 * 128 ^ k ≤ 127 * 128 ^ k := Nat.mul_le_mul_right _ this
    omega
   ·obtain rfl : k = 9 := by omega
    have h99 : (128 : Nat) ^ 9 = 9223372036854775808 := by decide
    have : c.toNat % 128 ≤ 1 := by omega
    have h3 : c.toNat % 128 * 128 ^ 9 ≤ 1 * 128 ^ 9 := Nat.mul_le_mul_right _ this
    omega
  have hmul : QR none .mul (.int .i64 7) (.int .i64 (k : Int)) = some (.int .i64 (7 * (k : Int))) := by
   show some (PV.int .i64 (IntKind.i64.wrap (7 * (k : Int)))) = _
   congr 2
   simp [IntKind.wrap,IntKind.bits,IntKind.signed]
   omega
  simp only [qS,Eb (show c.toNat % 128 < 256 by omega),hmul,xm hk9 (show c.toNat % 128 * 128 ^ k < 18446744073709551616 by omega),uv hu hsum,zz,Nat.reduceEqDiff]
  rcases Nat.lt_or_ge c.toNat 128 with h128 | h128
  ·have e7 : decide ((c.toNat : Int) < 128) = true := decide_eq_true (by omega)
   rw [if_pos h128] at hle
   rw [e7]
   have hm : c.toNat % 128 = c.toNat := Nat.mod_eq_of_lt h128
   rw [hm] at hsum ⊢
   exact ⟨_,o1 + 1,by trivial,rfl,by trivial,by omega,by omega,hsum,hle⟩
  ·have e7 : decide ((c.toNat : Int) < 128) = false := decide_eq_false (by omega)
   rw [if_neg (by omega)] at hle
   have hm : c.toNat % 128 = c.toNat - 128 := by omega
   have hk : k < 9 := by
    rcases Nat.lt_or_ge k 9 with h | h
    ·exact h
    ·exact absurd (.inl ⟨by omega,by omega⟩) hgood
   rw [e7,Qi _ (by omega) (by omega)]
   simp only [zz,Nat.reduceEqDiff]
   rw [hm] at hsum ⊢
   refine next _ _ hk ⟨u + (c.toNat - 128) * 128 ^ k,o1 + 1,rfl,rfl,by omega,by omega,fun h => absurd rfl h,?_,?_⟩
   ·rw [Nat.pow_succ]
    have : (c.toNat - 128) * 128 ^ k ≤ 127 * 128 ^ k := Nat.mul_le_mul_right _ (by omega)
    omega
   ·rw [hle]
    have : 10 - (k + 1) = 9 - k := by omega
    rw [this]
 have hB : ((k : Int) == 9 && decide ((c.toNat : Int) > 1)) = decide (k = 9 ∧ c.toNat > 1) := by
  rw [Bool.eq_iff_iff]
  simp only [Bool.and_eq_true,beq_iff_eq,decide_eq_true_eq]
  omega
 refine XW (decide ((c.toNat : Int) > 1)) (fun _ J hJ => hJ _ rfl) ?_
 rw [hB]
 by_cases h1 : k = 9 ∧ c.toNat > 1
 ·simp only [decide_eq_true h1,zz,Nat.reduceEqDiff]
  exact bad (.inl h1)
 ·simp only [decide_eq_false h1,zz,Nat.reduceEqDiff]
  by_cases hk0 : (k : Int) > 0
  ·simp only [decide_eq_true hk0,zz,Nat.reduceEqDiff]
   by_cases hc0 : (c.toNat : Int) = 0
   ·have hbq : ((c.toNat : Int) == 0) = true := by simpa using hc0
    simp only [hbq,zz,Nat.reduceEqDiff]
    exact bad (.inr ⟨by omega,by omega⟩)
   ·have hbq : ((c.toNat : Int) == 0) = false := by simpa using hc0
    simp only [hbq,zz,Nat.reduceEqDiff]
    exact good (by omega)
  ·simp only [decide_eq_false hk0,zz,Nat.reduceEqDiff]
   exact good (by omega)
theorem VC {p : Nat} : VT 190 [.ptr p 0 0 0] p Xq (PV.int .i64) := Vz fun s σ o e R hrd hl hok => by
 rw [Fw]
 delta Bl
 exact c193.Q0 hrd hl (fun a o' e' h1 _ => Q2 (hok _ _ _ h1))
theorem vV {p : Nat} : VT 195 [.ptr p 0 0 0] p SO PV.bool := Vz fun s σ o e R hrd hl hok => by
 rw [F8]
 delta B1 bF gF kF nI
 refine c193.Q0 hrd hl (fun a o1 e1 h1 hr => ?_)
 have hbool : ∀ a : Int,(a == 1) = decide (a = 1) := fun a => by
  by_cases h : a = 1 <;> simp [h]
 refine Qr (fun x τ => ∃ (e2 : Int) (o2 : Nat),x 3 = .int .i64 a ∧ τ = Qk p s σ o2 e2 ∧ Run SO s o e o2 e2 (a == 1)) (fun x τ hx => ?_) ?_
 ·obtain ⟨e2,o2,q3,rfl,hrun⟩ := hx
  simp only [q3,zz,Nat.reduceEqDiff]
  exact Q2 (hok _ _ _ hrun)
 have good : ¬ (a ≠ 0 ∧ a ≠ 1) → Run SO s o e o1 e1 (a == 1) := fun hn => by
  refine h1.bind ?_
  by_cases he : e1 = 0
  ·refine .inl ⟨he,he,Nat.le_refl _,hr.le,?_⟩
   dsimp only
   rw [if_neg hn]
  ·exact .inr ⟨he,hr.err he,.inr rfl⟩
 have bad : (a ≠ 0 ∧ a ≠ 1) → Run SO s o e s.length (if e1 = 0 then 2 else e1) (a == 1) := fun hn => by
  refine h1.bind ?_
  by_cases he : e1 = 0
  ·rw [if_pos he]
   refine .inr ⟨by decide,rfl,.inl ⟨he,?_⟩⟩
   dsimp only
   rw [if_pos hn]
  ·rw [if_neg he]
   exact .inr ⟨he,rfl,.inr rfl⟩
 simp only [zz,Nat.reduceEqDiff]
 refine XW (a != 1) (fun _ J hJ => hJ _ rfl) ?_
 refine Qu (fun hb => ?_) (fun hb => ?_)
 ·have hn : a ≠ 0 ∧ a ≠ 1 := by simpa using hb
  refine c85 2 hr.at_ ?_
  rw [Yp]
  exact ⟨_,_,by trivial,rfl,bad hn⟩
 ·have hn : ¬ (a ≠ 0 ∧ a ≠ 1) := by
   simp only [Bool.and_eq_false_iff,bne_eq_false_iff_eq] at hb
   omega
  exact ⟨_,_,by trivial,rfl,good hn⟩
theorem Mn {p : Nat} {s : Str} {σ : St} {o : Nat} {e : Int} {K X : PV → St → Prop} (hrd : Rf p s σ o e) (hl : s.length ≤ 1048576)
  (k : ∀ (n : Nat) o' e',Run Oc s o e o' e' n → (e' ≠ 0 → n = 0) → o' + n ≤ s.length → Rf p s (Qk p s σ o' e') o' e' → K (.int .i64 (n : Int)) (Qk p s σ o' e')) : Q0 W 187 [.ptr p 0 0 0] σ K X := by
 refine Xe (f := 187) ?_
 rw [EW]
 delta Bc bF lF gF kF nI
 refine c193.Q0 hrd hl (fun a o1 e1 h1 hr => ?_)
 have hR : ∀ (n : Nat) o' e',Run Oc s o e o' e' n → (e' ≠ 0 → n = 0) → o' + n ≤ s.length → K (.int .i64 (n : Int)) (Qk p s σ o' e') := fun n o' e' h1 h2 h3 => k n o' e' h1 h2 h3 (hrd.run h1)
 have hle : ∀ a : Int,Oc = QJ Xq fun n s => if n < 0 ∨ n > (s.length : Int) then .error 2 else .ok (n.toNat,s) := fun _ => rfl
 have bad : ∀ m : Int,m ≠ 0 → (e1 = 0 → (if a < 0 ∨ a > ((s.drop o1).length : Int) then (.error 2 : Except Int (Nat × Str)) else .ok (a.toNat,s.drop o1)) = .error m) → Run Oc s o e s.length (if e1 = 0 then m else e1) 0 := fun m hm h => by
  refine h1.bind ?_
  by_cases he : e1 = 0
  ·rw [if_pos he]
   exact .inr ⟨hm,rfl,.inl ⟨he,h he⟩⟩
  ·rw [if_neg he]
   exact .inr ⟨he,rfl,.inr rfl⟩
 refine Qr (fun x τ => ∃ (e2 : Int) (o2 n : Nat),x 0 = .ptr p 0 0 0 ∧ (e2 = 0 → x 3 = .int .i64 (n : Int)) ∧ (e2 ≠ 0 → n = 0) ∧ o2 + n ≤ s.length ∧ τ = Qk p s σ o2 e2 ∧ Run Oc s o e o2 e2 n) (fun x τ hx => ?_) ?_
 ·obtain ⟨e2,o2,n,q0,q3,q4,hon,rfl,hrun⟩ := hx
  have hat := Sa (s := s) hrd.lt o2 e2
  simp only [q0,Xu,Vw,Nat.zero_add,YH hat,zz,Nat.reduceEqDiff]
  refine Qu (fun hb => ?_) (fun hb => ?_)
  ·have he : e2 ≠ 0 := by simpa using hb
   obtain rfl := q4 he
   exact Q2 (hR 0 o2 e2 hrun (fun _ => rfl) hon)
  ·have he : e2 = 0 := by simpa using hb
   rw [q3 he]
   exact Q2 (hR n o2 e2 hrun q4 hon)
 have hsub : QR none .sub (.int .i64 (s.length : Int)) (.int .i64 (o1 : Int)) = some (.int .i64 ((s.length : Int) - o1)) := by
  have := hr.le
  exact Yh _ (by omega) (by omega)
 have hdl : ((s.drop o1).length : Int) = (s.length : Int) - o1 := by
  have := hr.le
  rw [List.length_drop]
  omega
 rw [hdl] at bad
 simp only [Xu,Vw,Nat.zero_add,P9 hr.at_,Od hr.at_,YH hr.at_,hsub,zz,Nat.reduceEqDiff]
 by_cases he : e1 = 0
 ·have hb : (e1 == 0) = true := by simpa using he
  simp only [hb,zz,Nat.reduceEqDiff]
  by_cases ha : a < 0
  ·simp only [decide_eq_true ha,zz,Nat.reduceEqDiff]
   refine c85 2 hr.at_ ?_
   rw [Yp]
   exact ⟨_,_,0,by trivial,fun h => (by rw [if_pos he] at h; cases h),fun _ => rfl,by omega,rfl,bad 2 (by decide) fun _ => by rw [if_pos (.inl ha)]⟩
  ·simp only [decide_eq_false ha,P9 hr.at_,Od hr.at_,hsub,zz,Nat.reduceEqDiff]
   by_cases hg : a > (s.length : Int) - o1
   ·simp only [decide_eq_true hg,zz,Nat.reduceEqDiff]
    refine c85 2 hr.at_ ?_
    rw [Yp]
    exact ⟨_,_,0,by trivial,fun h => (by rw [if_pos he] at h; cases h),fun _ => rfl,by omega,rfl,bad 2 (by decide) fun _ => by rw [if_pos (.inr hg)]⟩
   ·simp only [decide_eq_false hg,zz,Nat.reduceEqDiff]
    have hn : ((a.toNat : Nat) : Int) = a := by omega
    refine ⟨e1,o1,a.toNat,by trivial,fun _ => by rw [hn],fun h => absurd he h,by omega,rfl,h1.bind (.inl ⟨he,he,Nat.le_refl _,hr.le,?_⟩)⟩
    dsimp only
    rw [hdl,if_neg (by omega)]
 ·have hb : (e1 == 0) = false := by simpa using he
  simp only [hb,zz,Nat.reduceEqDiff]
  have := bad 2 (by decide) fun h => absurd h he
  rw [if_neg he] at this
  have ho := hr.err he
  rw [← ho] at this
  exact ⟨e1,o1,0,by trivial,fun h => absurd h he,fun _ => rfl,by omega,rfl,this⟩
theorem c194 {p : Nat} : VT 194 [.ptr p 0 0 0] p S0 PV.str := Vz fun s σ o e R hrd hl hok => by
 rw [FX]
 delta Cv bF lF sF
 refine Mn hrd hl (fun n o1 e1 h1 hn0 hon hr => ?_)
 have hadd : QR none .add (.int .i64 (o1 : Int)) (.int .i64 (n : Int)) = some (.int .i64 ((o1 + n : Nat) : Int)) := by
  rw [Qi _ (by omega) (by omega)]
  rfl
 have hsub : Xg (.str s) (some (.int .i64 (o1 : Int))) (some (.int .i64 ((o1 + n : Nat) : Int))) = some (.str ((s.take (o1 + n)).drop o1)) := by
  simp only [Xg,bound,Int.natCast_nonneg,if_true,Int.toNat_natCast]
  rw [if_pos ⟨by omega,hon⟩]
 have hst := I4 hr.at_ (o1 + n)
 rw [Yp] at hst
 simp only [Xu,Vw,Nat.zero_add,P9 hr.at_,Od hr.at_,hadd,hsub,hst,zz,Nat.reduceEqDiff]
 refine Q2 (hok _ _ _ (h1.bind ?_))
 by_cases he : e1 = 0
 ·refine .inl ⟨he,he,by omega,hon,?_⟩
  dsimp only
  rw [List.drop_take,List.drop_drop,Nat.add_sub_cancel_left]
 ·rw [hn0 he,Nat.add_zero]
  exact .inr ⟨he,hr.err he,.inr rfl⟩
theorem VT.Xc {f : FuncId} {args : List PV} {p : Nat} {α : Type} {pa : Pa α} {enc : α → PV} (h : VT f args p pa enc) {s : Str} {σ : St} {o1 : Nat} {e1 : Int} {K X : PV → St → Prop} (hr : Rf p s (Qk p s σ o1 e1) o1 e1) (hl : s.length ≤ 1048576)
  (k : ∀ a o' e',Run pa s o1 e1 o' e' a → Rf p s (Qk p s σ o' e') o' e' → K (enc a) (Qk p s σ o' e')) : Go.Abs.Q0 W f args (Qk p s σ o1 e1) K X :=
 h.Q0 hr hl (fun a o' e' h1 h2 => by
  rw [Yp] at h2 ⊢
  exact k a o' e' h1 h2)
theorem A4 {p : Nat} : VT 192 [.ptr p 0 0 0] p OB XX := Vz fun s σ o e R hrd hl hok => by
 rw [Fe]
 delta Cq nI wvR
 refine VC.Q0 hrd hl (fun a o1 e1 h1 hr1 => ?_)
 refine VC.Xc hr1 hl (fun b o2 e2 h2 hr2 => ?_)
 refine VC.Xc hr2 hl (fun c o3 e3 h3 hr3 => ?_)
 have hb : QF [(.int .i64 0),(.int .i64 0),(.int .i64 0)] [(0,1,.int .i64 a),(1,1,.int .i64 b),(2,1,.int .i64 c)] = some [.int .i64 a,.int .i64 b,.int .i64 c] := rfl
 have hp : Qv 3 (.agg [(.int .i64 0),(.int .i64 0),(.int .i64 0)]) 0 (.agg [.int .i64 a,.int .i64 b,.int .i64 c]) = some (.agg [.int .i64 a,.int .i64 b,.int .i64 c]) := rfl
 have hq : Q6 true 3 (.agg [.int .i64 a,.int .i64 b,.int .i64 c]) 0 = some (.agg [.int .i64 a,.int .i64 b,.int .i64 c]) := rfl
 simp only [hb,hp,hq,zz,Nat.reduceEqDiff]
 exact Q2 (hok ⟨a,b,c⟩ _ _ (h1.bind (h2.bind (h3.bind (Run.ret hr3 _)))))
end Go.Proofs.YtgghfcchanilpaaGreatDoor
