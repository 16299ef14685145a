import Derived.Test.YtgghfcchanilpaaGreatDoorRfF
import Derived.Test.YtgghfcchanilpaaGreatDoorSpZd
set_option linter.unusedVariables false
set_option linter.unusedSimpArgs false
namespace Go.Proofs.YtgghfcchanilpaaGreatDoor
open Go Go.Abs
theorem IU {σ τ : St} (h : σ <+: τ) {cs : List PV} {e : Int} (hf : Flat (.agg cs)) {K : PV → St → Prop} (k : K (.tuple [.agg cs,.int .i64 e]) σ) : XG σ (.tuple [.agg cs,.int .i64 e]) τ K :=
 Z2 (fun c => σ.length ≤ c) ⟨fun b hb => hb,h.length_le,fun b hb _ => hb,fun b k hk => .inr ⟨by have := (List.getElem?_eq_some_iff.1 hk).1; omega,k,XI h hk,.inr ⟨rfl,hk⟩⟩⟩ (.base _ (.tuple _ fun i x hx => by
  match i,hx with
  | 0,hx => cases hx; exact hf.free _
  | 1,hx => cases hx; exact .int _ _)) k
theorem Pg (a : Oz) (b : Kv) : Y8 (VQ a b) = .agg (Y3 a ++ TZ b) := rfl
theorem C7 {q : Nat} {τ : St} {cs : List PV} (h : τ[q]? = some (qB cs)) (hl : cs.length = 10) : Q4 true 10 (.ptr q 0 0 0) τ = some (.agg cs) := by simp [Q4,h,qB,Q6,hl]
theorem BV {σ τ : St} {p q : Nat} {body : Str} {o : Nat} {e : Int} {k : Blk} (h : σ <+: τ) (hp : σ.length ≤ p) (hq : σ.length ≤ q) : σ <+: Qk p body (τ.set q k) o e := by
 unfold Qk
 exact O9 (O9 h hq _) hp _
set_option maxRecDepth 100000 in
theorem c33 (s : Str) (hs : s.length ≤ 9223372036854775807) (σ : St) : Ret W 33 [.str s] σ (Hk (YZ s)) := by
 refine QE fun R hR => ?_
 rw [Di]
 delta AZ bF pF lF gF kF nI nL wvR
 have hE : ∀ e,YZ s = .error e → R (.ret (.tuple [.agg ZG,.int .i64 e])) σ := fun e he => by
  rw [he] at hR
  exact hR
 have hnil : QF [(.list .nil []),(.list .nil []),(.list .nil []),(.list .nil []),(.list .nil []),(.list .nil []),(.list .nil []),(.list .nil []),(.list .nil []),(.list .nil [])] [] = some ZG := rfl
 have hput : Qv 10 (.agg [(.list .nil []),(.list .nil []),(.list .nil []),(.list .nil []),(.list .nil []),(.list .nil []),(.list .nil []),(.list .nil []),(.list .nil []),(.list .nil [])]) 0 (.agg ZG) = some (.agg ZG) := rfl
 have hpart : Q6 true 10 (.agg ZG) 0 = some (.agg ZG) := rfl
 simp only [zz,Nat.reduceEqDiff]
 refine Qu (fun hb => ?_) (fun hb => ?_)
 ·have h1 : s.length > 1048576 := by
   have : (s.length : Int) > 1048576 := by simpa using hb
   omega
  simp only [hnil,hput,hpart,zz,Nat.reduceEqDiff]
  exact Q2 (hE 3 (by unfold YZ; rw [if_pos h1]))
 have h1 : ¬ s.length > 1048576 := by
  have : ¬ (s.length : Int) > 1048576 := by simpa using hb
  omega
 refine Qu (fun hb => ?_) (fun hb => ?_)
 ·have h2 : s.length < 8 := by
   have : (s.length : Int) < 8 := by simpa using hb
   omega
  simp only [hnil,hput,hpart,zz,Nat.reduceEqDiff]
  exact Q2 (hE 16 (by unfold YZ; rw [if_neg h1,if_pos h2]))
 have h2 : ¬ s.length < 8 := by
  have : ¬ (s.length : Int) < 8 := by simpa using hb
  omega
 have e4' : Xg (.str s) none (some (.int .i64 4)) = some (.str (s.take 4)) := TS (s := s) (n := 4) (by omega)
 simp only [e4',Nh,zz,Nat.reduceEqDiff]
 refine Qu (fun hb => ?_) (fun hb => ?_)
 ·have h3 : s.take 4 ≠ PN := by simpa [PN] using hb
  simp only [hnil,hput,hpart,zz,Nat.reduceEqDiff]
  exact Q2 (hE 13 (by unfold YZ; rw [if_neg h1,if_neg h2,if_pos h3]))
 have h3 : ¬ s.take 4 ≠ PN := by simpa [PN] using hb
 have hbl : (s.take (s.length - 4)).length = s.length - 4 := by simp
 simp only [Ka (n := s.length) (by omega) (by omega),TS (s := s) (n := s.length - 4) (by omega),zz,Nat.reduceEqDiff]
 refine (c31 (by omega) _).Q0 ?_
 have hrE : YZ s = if Yb (Uj (s.take (s.length - 4))) ≠ s.drop (s.length - 4) then .error 15
   else match TB ((s.take (s.length - 4)).drop 4) with
    | .error e => .error e
    | .ok (c,rest) => if rest.length > 0 then .error 2 else if (Zp (XF c) 470 49).2 ≠ 0 then .error (Zp (XF c) 470 49).2 else .ok c := by
  unfold YZ
  rw [if_neg h1,if_neg h2,if_neg h3]
  rfl
 obtain ⟨e0,⟨w1,e1,f1⟩,⟨w2,e2,f2⟩,⟨w3,e3,f3⟩⟩ := P3 (Uj (s.take (s.length - 4)))
 have hv : ∀ τ,Zf (.list .full (u8s (Yb (Uj (s.take (s.length - 4)))))) τ = some (.str (Yb (Uj (s.take (s.length - 4))))) := fun τ => VM.str (.inl rfl)
 have hv' := hv
 unfold Yb at hv'
 simp only [Ka (n := s.length) (by omega) (by omega),TS (s := s) (n := s.length - 4) (by omega),JS (s := s) (n := s.length - 4) (by omega),e0,e1,f1,e2,f2,e3,f3,Ff,hv',Nh,zz,Nat.reduceEqDiff]
 refine Qu (fun hb => ?_) (fun hb => ?_)
 ·have h4 : Yb (Uj (s.take (s.length - 4))) ≠ s.drop (s.length - 4) := fun h => by
   rw [← h] at hb
   simp [Yb] at hb
  simp only [hnil,hput,hpart,zz,Nat.reduceEqDiff]
  exact Q2 (hE 15 (by rw [hrE,if_pos h4]))
 have h4 : ¬ Yb (Uj (s.take (s.length - 4))) ≠ s.drop (s.length - 4) := fun h => by
  have h5 : s.drop (s.length - 4) = Yb (Uj (s.take (s.length - 4))) := by simpa [Yb] using hb
  exact h h5.symm
 rw [if_neg h4] at hrE
 clear hb e0 e1 f1 e2 f2 e3 f3 hv hv' h4
 generalize s.take (s.length - 4) = body at hbl hrE
 have hb4 : 4 ≤ body.length := by omega
 have hbd : QF [(.str []),(.int .i64 0),(.int .i64 0)] [(0,1,.str body),(1,1,.int .i64 4)] = some [.str body,.int .i64 4,.int .i64 0] := rfl
 have hbx : opC.vBoxAny (.agg [.str body,.int .i64 4,.int .i64 0]) = some (3,.agg [.str body,.int .i64 4,.int .i64 0]) := rfl
 simp only [hbd,hbx,zz,Nat.reduceEqDiff]
 rw [if_pos (by omega)]
 simp only [Vo,List.length_append,List.length_singleton]
 have hp0 : σ <+: σ ++ [Blk.arr 0 3 [.agg [.str body,.int .i64 4,.int .i64 0]]] ++ [.arr 0 10 [.agg [(.list .nil []),(.list .nil []),(.list .nil []),(.list .nil []),(.list .nil []),(.list .nil []),(.list .nil []),(.list .nil []),(.list .nil []),(.list .nil [])]]] := (List.prefix_append _ _).trans (List.prefix_append _ _)
 have hq0 : (σ ++ [Blk.arr 0 3 [.agg [.str body,.int .i64 4,.int .i64 0]]] ++ [Blk.arr 0 10 [.agg [(.list .nil []),(.list .nil []),(.list .nil []),(.list .nil []),(.list .nil []),(.list .nil []),(.list .nil []),(.list .nil []),(.list .nil []),(.list .nil [])]]])[σ.length + 1]? = some (qB ZG) := by simp [List.getElem?_append,qB]
 have hr0 : Rf σ.length body (σ ++ [Blk.arr 0 3 [.agg [.str body,.int .i64 4,.int .i64 0]]] ++ [Blk.arr 0 10 [.agg [(.list .nil []),(.list .nil []),(.list .nil []),(.list .nil []),(.list .nil []),(.list .nil []),(.list .nil []),(.list .nil []),(.list .nil []),(.list .nil [])]]]) 4 0 := ⟨by simp [List.getElem?_append,Yx],hb4,fun h => absurd rfl h⟩
 generalize σ ++ [Blk.arr 0 3 [.agg [.str body,.int .i64 4,.int .i64 0]]] ++ [Blk.arr 0 10 [.agg [(.list .nil []),(.list .nil []),(.list .nil []),(.list .nil []),(.list .nil []),(.list .nil []),(.list .nil []),(.list .nil []),(.list .nil []),(.list .nil [])]]] = τ0 at hp0 hq0 hr0
 have hpq : σ.length ≠ σ.length + 1 := by omega
 have hlt := hr0.lt
 have hqlt := (List.getElem?_eq_some_iff.1 hq0).1
 refine c83 hr0 (by omega) hpq hq0 (fun a o1 e1 ZU => ?_)
 have hat1 : (Qk σ.length body (τ0.set (σ.length + 1) (qB (Y3 a ++ [Qd,Qd,Qd,Qd,Qd,Qd]))) o1 e1)[σ.length]? = some (Yx body o1 e1) := Sa (by simpa using hlt) _ _
 have hq1 : (Qk σ.length body (τ0.set (σ.length + 1) (qB (Y3 a ++ [Qd,Qd,Qd,Qd,Qd,Qd]))) o1 e1)[σ.length + 1]? = some (qB (Y3 a ++ [Qd,Qd,Qd,Qd,Qd,Qd])) := by
  rw [Zq (Ne.symm hpq)]
  simp [hqlt]
 refine c84 ((hr0.run ZU).to hat1) (by omega) hpq hq1 (fun b o2 e2 run2 => ?_)
 have hS : Qk σ.length body ((Qk σ.length body (τ0.set (σ.length + 1) (qB (Y3 a ++ [Qd,Qd,Qd,Qd,Qd,Qd]))) o1 e1).set (σ.length + 1) (qB (Y3 a ++ TZ b))) o2 e2 = Qk σ.length body (τ0.set (σ.length + 1) (qB (Y3 a ++ TZ b))) o2 e2 := by
  rw [BR hpq,List.set_set]
 rw [hS]
 clear hS hat1 hq1
 have run : Run TB body 4 0 o2 e2 (VQ a b) := by
  rw [Fm]
  exact ZU.bind (run2.bind (Run.ret (hr0.run ZU |>.run run2) _))
 clear ZU run2
 have hat : ∀ o e,(Qk σ.length body (τ0.set (σ.length + 1) (qB (Y3 a ++ TZ b))) o e)[σ.length]? = some (Yx body o e) := fun o e => Sa (by simpa using hlt) _ _
 have hqq : ∀ o e,(Qk σ.length body (τ0.set (σ.length + 1) (qB (Y3 a ++ TZ b))) o e)[σ.length + 1]? = some (qB (Y3 a ++ TZ b)) := fun o e => by
  rw [Zq (Ne.symm hpq)]
  simp [hqlt]
 have hpre : ∀ o e,σ <+: Qk σ.length body (τ0.set (σ.length + 1) (qB (Y3 a ++ TZ b))) o e := fun o e => BV hp0 (Nat.le_refl _) (by omega)
 have hld : ∀ o e,Q4 true 10 (.ptr (σ.length + 1) 0 0 0) (Qk σ.length body (τ0.set (σ.length + 1) (qB (Y3 a ++ TZ b))) o e) = some (Y8 (VQ a b)) := fun o e => by
  rw [Pg]
  exact C7 (hqq o e) rfl
 refine Qr (fun x τ => ∃ (o3 : Nat) (e3 : Int),x 6 = .ptr σ.length 0 0 0 ∧ x 7 = .ptr (σ.length + 1) 0 0 0 ∧ x 2 = .agg ZG ∧ τ = Qk σ.length body (τ0.set (σ.length + 1) (qB (Y3 a ++ TZ b))) o3 e3 ∧ (e3 ≠ 0 → YZ s = .error e3) ∧
  (e3 = 0 → TB (body.drop 4) = .ok (VQ a b,[]) ∧ YZ s = if (Zp (XF (VQ a b)) 470 49).2 ≠ 0 then .error (Zp (XF (VQ a b)) 470 49).2 else .ok (VQ a b))) (fun x τ hx => ?_) ?_
 ·obtain ⟨o3,e3,q6,q7,q2,rfl,hne,heq⟩ := hx
  simp only [q6,q7,q2,Xu,YH (hat o3 e3),zz,Nat.reduceEqDiff]
  refine Qu (fun hb => ?_) (fun hb => ?_)
  ·have he : e3 ≠ 0 := by simpa using hb
   simp only [hnil,hput,hpart,zz,Nat.reduceEqDiff]
   exact IU (hpre _ _) Tt (hE _ (hne he))
  have he : e3 = 0 := by simpa using hb
  obtain ⟨hok,hrd⟩ := heq he
  have hcp := (OG _ _ _ hok (by simp; omega)).2
  have hpv := LY (VQ a b)
  simp only [hld,zz,Nat.reduceEqDiff]
  rw [hpv]
  refine (c25 hcp.A5 (Fy hcp) _).Q0 ?_
  generalize Zp (XF (VQ a b)) 470 49 = ck at hrd
  have hk1 : Qv 2 (.agg [(.int .i64 0),(.int .i64 0)]) 0 (Qw ck) = some (Qw ck) := rfl
  have hk2 : Q6 false 1 (Qw ck) 1 = some (.int .i64 ck.2) := rfl
  have hk3 : QR none .neq (.int .i64 ck.2) (.int .i64 0) = some (.bool (ck.2 != 0)) := rfl
  simp only [hk1,hk2,hk3,zz,Nat.reduceEqDiff]
  refine Qu (fun hb => ?_) (fun hb => ?_)
  ·have h6 : ck.2 ≠ 0 := by simpa using hb
   rw [if_pos h6] at hrd
   simp only [hnil,hput,hpart,hk2,zz,Nat.reduceEqDiff]
   exact ⟨IU (hpre _ _) Tt (hE _ hrd),IU (hpre _ _) Tt (hE _ hrd)⟩
  ·have h6 : ¬ ck.2 ≠ 0 := by simpa using hb
   rw [if_neg h6] at hrd
   rw [hrd] at hR
   have hp2 : Qv 10 (.agg ZG) 0 (Y8 (VQ a b)) = some (Y8 (VQ a b)) := by
    rw [Pg]
    exact VG rfl rfl
   have hp3 : Q6 true 10 (Y8 (VQ a b)) 0 = some (Y8 (VQ a b)) := by
    rw [Pg]
    rfl
   simp only [hld,hp2,hp3,zz,Nat.reduceEqDiff]
   have hfl := NU (VQ a b)
   exact IU (hpre _ _) hfl hR
 have hsub := (hat o2 e2)
 simp only [Xu,YH hsub,Od hsub,P9 hsub,zz,Nat.reduceEqDiff]
 rcases run with ⟨-,he,hle,hlen,hok⟩ | ⟨he,rfl,herr⟩
 ·subst he
  have hb0 : ((0 : Int) == 0) = true := rfl
  rw [hok] at hrE
  dsimp only at hrE
  rw [List.length_drop] at hrE
  simp only [hb0,P9 hsub,Od hsub,zz,Nat.reduceEqDiff]
  by_cases hlt2 : o2 < body.length
  ·have hd : decide (o2 < body.length) = true := decide_eq_true hlt2
   rw [if_pos (by omega)] at hrE
   simp only [hd,zz,Nat.reduceEqDiff]
   refine c85 2 hsub ?_
   rw [Yp,if_pos rfl]
   exact ⟨_,_,by trivial,by trivial,by trivial,rfl,fun _ => hrE,fun h => by cases h⟩
  ·have hd : decide (o2 < body.length) = false := decide_eq_false hlt2
   rw [if_neg (by omega)] at hrE
   simp only [hd,zz,Nat.reduceEqDiff]
   refine ⟨_,_,by trivial,by trivial,by trivial,rfl,fun h => absurd rfl h,fun _ => ⟨?_,hrE⟩⟩
   rw [hok,List.drop_eq_nil_of_le (by omega)]
 ·have hb0 : (e2 == 0) = false := by simpa using he
  simp only [hb0,zz,Nat.reduceEqDiff]
  refine ⟨_,_,by trivial,by trivial,by trivial,rfl,fun _ => ?_,fun h => absurd h he⟩
  rcases herr with ⟨-,herr⟩ | h
  ·rw [hrE,herr]
  ·exact absurd h.symm he
end Go.Proofs.YtgghfcchanilpaaGreatDoor
