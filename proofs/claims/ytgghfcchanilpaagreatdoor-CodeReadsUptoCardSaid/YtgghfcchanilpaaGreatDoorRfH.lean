import Derived.Test.YtgghfcchanilpaaGreatDoorSpZd
import Derived.Test.YtgghfcchanilpaaGreatDoorSpWd
import Derived.Test.YtgghfcchanilpaaGreatDoorAbsExt
import Derived.Test.YtgghfcchanilpaaGreatDoorSpRi
import Derived.Test.YtgghfcchanilpaaGreatDoorRfG
set_option linter.unusedVariables false
set_option linter.unusedSimpArgs false
namespace Go.Proofs.YtgghfcchanilpaaGreatDoor
open Go Go.Abs
theorem qk {lk : LK} {l : List Int} {j : Nat} {n : Int} (h : l[j]? = some n) {q : IntKind} : Q5 1 (.list lk (l.map pvI)) (.int q j) = some (.eptr (.int .i64 n) 0) := encI.index h
theorem qb (n : Int) (σ : St) : Q4 false 1 (.eptr (.int .i64 n) 0) σ = some (.int .i64 n) := rfl
theorem c28 {k m : LK} {l : List Int} (hl : l.length ≤ 4194304) (σ : St) : Ret W 28 [.list k (l.map pvI),.list m (l.map pvI)] σ (.bool true) := by
 refine QE fun R hR => ?_
 rw [DX]
 delta Ah bF kF nI
 have hne : ∀ n : Int,QR none .neq (.int .i64 n) (.int .i64 n) = some (.bool false) := fun n => by simp [QR,Y2]
 simp only [List.length_map,hne,zz,Nat.reduceEqDiff]
 refine Qr (fun x τ => τ = σ) (fun x τ hx => ?_) ?_
 ·subst hx
  exact Q2 hR
 refine QT l.length (fun j x τ => x = Qz [(0,.list k (l.map pvI)),(1,.list m (l.map pvI)),(5,.int .i64 j)] ∧ τ = σ) ?_ ⟨rfl,rfl⟩
 rintro Φ j x τ hj ⟨rfl,rfl⟩ next
 by_cases hlt : j < l.length
 ·have hg : l[j]? = some l[j] := by simp [hlt]
  generalize l[j] = y at hg
  simp only [List.length_map,hlt,Vt hlt,decide_true,qk hg,qb,hne,zz,Nat.reduceEqDiff]
  rw [Qi _ (by omega) (by omega)]
  simp only [zz,Nat.reduceEqDiff]
  exact next _ _ hlt ⟨rfl,rfl⟩
 ·obtain rfl : j = l.length := by omega
  simp only [List.length_map,Z0,Nat.lt_irrefl,decide_false,zz,Nat.reduceEqDiff]
end Go.Proofs.YtgghfcchanilpaaGreatDoor
namespace Go.Proofs.YtgghfcchanilpaaGreatDoor
open Go Go.Abs
theorem PD (n : Int) : (n != n) = false := by simp
theorem Kk {α β : Type} {f : α → β} {l m : List α} (h : l.map f = m.map f) {j : Nat} {a : α} (ha : l[j]? = some a) : ∃ b,m[j]? = some b ∧ f b = f a := by
 have h2 := congrArg (fun x => x[j]?) h
 simp only [List.getElem?_map,ha] at h2
 cases hb : m[j]? with
 | none => rw [hb] at h2; cases h2
 | some b =>
  rw [hb] at h2
  exact ⟨b,rfl,(Option.some.inj h2).symm⟩
theorem Mm {α β : Type} {f : α → β} {p q : Sl α} (h : p.2.map f = q.2.map f) : len q = len p := by
 have := congrArg List.length h
 simp only [List.length_map] at this
 unfold len
 omega
theorem c87 {p q : Sl (Sl Int)} (h : p.2.map (·.2) = q.2.map (·.2)) (hl : p.2.length ≤ 1048576) (hm : ∀ m ∈ p.2,m.2.length ≤ 1048576) (σ : St) : Ret W 87 [QB QP p,QB QP q] σ (.bool true) := by
 refine QE fun R hR => ?_
 rw [C8]
 delta wm bF kF nI
 simp only [Ql,Mm h,PD,bne_self_eq_false,zz,Nat.reduceEqDiff]
 refine Qr (fun x τ => τ = σ) (fun x τ hx => ?_) ?_
 ·subst hx
  exact Q2 hR
 refine QT p.2.length (fun j x τ => x = Qz [(0,QB QP p),(1,QB QP q),(5,.int .i64 j)] ∧ τ = σ) ?_ ⟨rfl,rfl⟩
 rintro Φ j x τ hj ⟨rfl,rfl⟩ next
 by_cases hlt : j < p.2.length
 ·have hg : p.2[j]? = some p.2[j] := by simp [hlt]
  have hmem : p.2[j] ∈ p.2 := by simp
  generalize p.2[j] = a at hg hmem
  obtain ⟨b,hb,hab⟩ := Kk h hg
  simp only [Ql,Xk hlt,QV Xo hg,QV Xo hb,Xo.part,qb,zz,Nat.reduceEqDiff]
  have hc : Ret W 28 [QP a,QP b] τ (.bool true) := by
   have := c28 (k := a.1) (m := b.1) (l := a.2) (by have := hm a hmem; omega) τ
   unfold QP QB
   rw [hab]
   exact this
  refine hc.Q0 ?_
  simp only [zz,Nat.reduceEqDiff]
  rw [Qi _ (by omega) (by omega)]
  simp only [zz,Nat.reduceEqDiff]
  exact next _ _ hlt ⟨rfl,rfl⟩
 ·obtain rfl : j = p.2.length := by omega
  simp only [Ql,QG,zz,Nat.reduceEqDiff]
theorem I6 (a : Sl Xb) : Q6 false 1 (Xj a) 0 = some (QB Qm a) := rfl
theorem DQ (a : Xb) : Q6 true 5 (Qm a) 0 = some (Qm a) := rfl
theorem Du (a : Xb) : QR (some (.st [.int,.int,.int,.int,.bool])) .neq (Qm a) (Qm a) = some (.bool false) := by
 simp [QR,vEq,Vm,Vc,Qm]
theorem c86 {p q : Sl (Sl Xb)} (h : p.2.map (·.2) = q.2.map (·.2)) (hl : p.2.length ≤ 1048576) (hm : ∀ m ∈ p.2,m.2.length ≤ 1048576) (σ : St) : Ret W 86 [QB Xj p,QB Xj q] σ (.bool true) := by
 refine QE fun R hR => ?_
 rw [Df]
 delta qp bF kF nI
 simp only [Ql,Mm h,PD,bne_self_eq_false,zz,Nat.reduceEqDiff]
 refine Qr (fun x τ => τ = σ) (fun x τ hx => ?_) ?_
 ·subst hx
  exact Q2 hR
 refine QT p.2.length (fun j x τ => x = Qz [(0,QB Xj p),(1,QB Xj q),(5,.int .i64 j)] ∧ τ = σ) ?_ ⟨rfl,rfl⟩
 rintro Φ j x τ hj ⟨rfl,rfl⟩ next
 by_cases hlt : j < p.2.length
 ·have hg : p.2[j]? = some p.2[j] := by simp [hlt]
  have hmem : p.2[j] ∈ p.2 := by simp
  generalize p.2[j] = a at hg hmem
  obtain ⟨b,hb,hab⟩ := Kk h hg
  have hal := hm a hmem
  simp only [Ql,Xk hlt,zz,Nat.reduceEqDiff]
  refine Qr (fun x τ' => x = Qz [(0,QB Xj p),(1,QB Xj q),(5,.int .i64 j)] ∧ τ' = τ) (fun x τ' hx => ?_) ?_
  ·obtain ⟨rfl,rfl⟩ := hx
   simp only [zz,Nat.reduceEqDiff]
   rw [Qi _ (by omega) (by omega)]
   simp only [zz,Nat.reduceEqDiff]
   exact next _ _ hlt ⟨rfl,rfl⟩
  have hlab : len b = len a := by unfold len; rw [hab]
  simp only [Ql,QV Ze hg,QV Ze hb,Zx,I6,hlab,bne_self_eq_false,zz,Nat.reduceEqDiff]
  refine QT a.2.length (fun i x τ' => x = Qz [(0,QB Xj p),(1,QB Xj q),(5,.int .i64 j),(6,.int .i64 i)] ∧ τ' = τ) ?_ ⟨rfl,rfl⟩
  rintro Ψ i x τ' hi ⟨rfl,rfl⟩ next2
  by_cases hlt2 : i < a.2.length
  ·have hs : a.2[i]? = some a.2[i] := by simp [hlt2]
   have hs2 : b.2[i]? = some a.2[i] := by rw [hab]; exact hs
   generalize a.2[i] = s at hs hs2
   simp only [Ql,QV Ze hg,QV Ze hb,Zx,I6,Xk hlt2,QV Tz hs,QV Tz hs2,DQ,Du,zz,Nat.reduceEqDiff]
   rw [Qi _ (by omega) (by omega)]
   simp only [zz,Nat.reduceEqDiff]
   exact next2 _ _ hlt2 ⟨rfl,rfl⟩
  ·obtain rfl : i = a.2.length := by omega
   simp only [Ql,QV Ze hg,Zx,I6,QG,zz,Nat.reduceEqDiff]
   exact ⟨trivial,trivial⟩
 ·obtain rfl : j = p.2.length := by omega
  simp only [Ql,QG,zz,Nat.reduceEqDiff]
theorem both {A : Prop} (h : A) : A ∧ A := ⟨h,h⟩
theorem MF (r : Vv) : Q6 true 9 (Qo r) 0 = some (Qo r) ∧ Qv 9 (.agg [(.int .i64 0),(.int .i64 0),(.int .i64 0),(.int .i64 0),(.int .i64 0),(.int .i64 0),(.int .i64 0),(.int .i64 0),(.list .nil [])]) 0 (Qo r) = some (Qo r) ∧
  Q6 false 1 (Qo r) 0 = some (.int .i64 r.sig) ∧ Q6 false 1 (Qo r) 1 = some (.int .i64 r.frame) ∧ Q6 false 1 (Qo r) 2 = some (.int .i64 r.fr) ∧ Q6 false 1 (Qo r) 3 = some (.int .i64 r.to) ∧ Q6 false 1 (Qo r) 4 = some (.int .i64 r.outer) ∧
  Q6 false 1 (Qo r) 5 = some (.int .i64 r.within) ∧ Q6 false 1 (Qo r) 6 = some (.int .i64 r.level) ∧ Q6 false 1 (Qo r) 7 = some (.int .i64 r.needs) ∧ Q6 false 1 (Qo r) 8 = some (QB X7 r.ranges) := ⟨rfl,rfl,rfl,rfl,rfl,rfl,rfl,rfl,rfl,rfl,rfl⟩
theorem Gu (a : Yq) : Q6 true 3 (X7 a) 0 = some (X7 a) := rfl
theorem GF (a : Yq) : QR (some (.st [.int,.int,.int])) .neq (X7 a) (X7 a) = some (.bool false) := by
 simp [QR,vEq,Vm,Vc,X7]
set_option maxRecDepth 100000 in
theorem c88 {p q : Sl Vv} (h : p.2.map N8 = q.2.map N8) (hl : p.2.length ≤ 1048576) (hm : ∀ m ∈ p.2,m.ranges.2.length ≤ 1048576) (σ : St) : Ret W 88 [QB Qo p,QB Qo q] σ (.bool true) := by
 refine QE fun R hR => ?_
 rw [Cj]
 delta wa bF pF gF kF nI nL
 simp only [Ql,Mm h,PD,bne_self_eq_false,zz,Nat.reduceEqDiff]
 refine Qr (fun x τ => τ = σ) (fun x τ hx => ?_) ?_
 ·subst hx
  exact Q2 hR
 refine QT p.2.length (fun j x τ => x = Qz [(0,QB Qo p),(1,QB Qo q),(5,.int .i64 j)] ∧ τ = σ) ?_ ⟨rfl,rfl⟩
 rintro Φ j x τ hj ⟨rfl,rfl⟩ next
 by_cases hlt : j < p.2.length
 ·have hg : p.2[j]? = some p.2[j] := by simp [hlt]
  have hmem : p.2[j] ∈ p.2 := by simp
  generalize p.2[j] = a at hg hmem
  obtain ⟨b,hb,hab⟩ := Kk h hg
  have hal := hm a hmem
  simp only [Ql,Xk hlt,zz,Nat.reduceEqDiff]
  refine Qr (fun x τ' => x = Qz [(0,QB Qo p),(1,QB Qo q),(5,.int .i64 j)] ∧ τ' = τ) (fun x τ' hx => ?_) ?_
  ·obtain ⟨rfl,rfl⟩ := hx
   simp only [zz,Nat.reduceEqDiff]
   rw [Qi _ (by omega) (by omega)]
   simp only [zz,Nat.reduceEqDiff]
   exact next _ _ hlt ⟨rfl,rfl⟩
  refine both ?_
  have g1 : b.sig = a.sig := congrArg YA.sig hab
  have g2 : b.frame = a.frame := congrArg YA.frame hab
  have g3 : b.fr = a.fr := congrArg YA.fr hab
  have g4 : b.to = a.to := congrArg YA.to hab
  have g5 : b.outer = a.outer := congrArg YA.outer hab
  have g6 : b.within = a.within := congrArg YA.within hab
  have g7 : b.level = a.level := congrArg YA.level hab
  have g8 : b.needs = a.needs := congrArg YA.needs hab
  have g9 : b.ranges.2 = a.ranges.2 := congrArg YA.ranges hab
  have hlab : len b.ranges = len a.ranges := by unfold len; rw [g9]
  simp only [Ql,QV X3 hg,QV X3 hb,MF,g1,g2,g3,g4,g5,g6,g7,g8,hlab,bne_self_eq_false,zz,Nat.reduceEqDiff]
  refine QT a.ranges.2.length (fun i x τ' => x = Qz [(0,QB Qo p),(1,QB Qo q),(5,.int .i64 j),(8,.int .i64 i),(6,Qo a),(7,Qo b)] ∧ τ' = τ) ?_ ⟨rfl,rfl⟩
  rintro Ψ i x τ' hi ⟨rfl,rfl⟩ next2
  by_cases hlt2 : i < a.ranges.2.length
  ·have hs : a.ranges.2[i]? = some a.ranges.2[i] := by simp [hlt2]
   have hs2 : b.ranges.2[i]? = some a.ranges.2[i] := by rw [g9]; exact hs
   generalize a.ranges.2[i] = s at hs hs2
   simp only [Ql,MF,Xk hlt2,QV PG hs,QV PG hs2,Gu,GF,zz,Nat.reduceEqDiff]
   rw [Qi _ (by omega) (by omega)]
   simp only [zz,Nat.reduceEqDiff]
   exact next2 _ _ hlt2 ⟨rfl,rfl⟩
  ·obtain rfl : i = a.ranges.2.length := by omega
   simp only [Ql,MF,QG,zz,Nat.reduceEqDiff]
   exact ⟨trivial,trivial⟩
 ·obtain rfl : j = p.2.length := by omega
  simp only [Ql,QG,zz,Nat.reduceEqDiff]
end Go.Proofs.YtgghfcchanilpaaGreatDoor
namespace Go.Proofs.YtgghfcchanilpaaGreatDoor
open Go Go.Abs
theorem Eg (a : Xz) : QR (some (.st [.int,.int,.int,.int,.int,.int,.int,.int,.int,.int,.int,.int])) .eql (QD a) (QD a) = some (.bool true) := by
 simp [QR,vEq,Vm,Vc,QD]
theorem Ho (a : YW) : QR (some (.st [.str,.bool,.int])) .eql (QY a) (QY a) = some (.bool true) := by
 simp [QR,vEq,Vm,Vc,QY]
theorem Dd (a : Str) : QR none .eql (.str a) (.str a) = some (.bool true) := by
 simp [QR,P1]
set_option maxRecDepth 100000 in
theorem c34 {a b : Qp} (hL : KU a = KU b) (hc : VX a) (σ : St) : Ret W 34 [Qt a,Qt b] σ (.bool true) := by
 refine QE fun R hR => ?_
 rw [Dk]
 delta ud bF pF gF kF nI
 have h0 : a.maps.2.map (·.2) = b.maps.2.map (·.2) := congrArg ZD.maps hL
 have h1 : a.unions.2.map (·.2) = b.unions.2.map (·.2) := congrArg ZD.unions hL
 have h2 : a.sigs.2 = b.sigs.2 := congrArg ZD.sigs hL
 have h3 : a.routs.2.map N8 = b.routs.2.map N8 := congrArg ZD.routs hL
 have h4 : a.insts.2 = b.insts.2 := congrArg ZD.insts hL
 have h5 : a.jumps.2.map (·.2) = b.jumps.2.map (·.2) := congrArg ZD.jumps hL
 have h6 : a.parts.2.map (·.2) = b.parts.2.map (·.2) := congrArg ZD.parts hL
 have h7 : a.texts.2 = b.texts.2 := congrArg ZD.texts hL
 have h8 : a.trans.2 = b.trans.2 := congrArg ZD.trans hL
 have h9 : a.lines.2 = b.lines.2 := congrArg ZD.lines hL
 have n2 : len b.sigs = len a.sigs := by unfold len; rw [h2]
 have n4 : len b.insts = len a.insts := by unfold len; rw [h4]
 have n7 : len b.texts = len a.texts := by unfold len; rw [h7]
 have n8 : len b.trans = len a.trans := by unfold len; rw [h8]
 have n9 : len b.lines = len a.lines := by unfold len; rw [h9]
 clear hL
 simp only [Qf,zz,Nat.reduceEqDiff]
 refine (c86 h0 hc.maps hc.slots _).Q0 ?_
 simp only [Qf,zz,Nat.reduceEqDiff]
 refine (c87 h1 hc.unions hc.union _).Q0 ?_
 simp only [Qf,zz,Nat.reduceEqDiff]
 refine (c88 h3 hc.routs hc.ranges _).Q0 ?_
 simp only [Qf,zz,Nat.reduceEqDiff]
 refine (c87 h5 hc.jumps hc.jump _).Q0 ?_
 simp only [Qf,zz,Nat.reduceEqDiff]
 refine (c87 h6 hc.parts hc.part _).Q0 ?_
 simp only [Qf,Ql,n2,n4,n7,n8,n9,PD,bne_self_eq_false,zz,Nat.reduceEqDiff]
 refine Qr (fun x τ => x 5 = .bool true ∧ x 2 = Qt a ∧ x 3 = Qt b ∧ τ = σ) (fun x τ hx => ?_) ?_
 rotate_left
 ·have hl := hc.sigs
  refine QT a.sigs.2.length (fun j x τ => x = Qz [(5,.bool true),(6,.int .i64 j),(2,Qt a),(3,Qt b)] ∧ τ = σ) ?_ ⟨rfl,rfl⟩
  rintro Φ j x τ hj ⟨rfl,rfl⟩ next
  by_cases hlt : j < a.sigs.2.length
  ·have hg : a.sigs.2[j]? = some a.sigs.2[j] := by simp [hlt]
   have hg2 : b.sigs.2[j]? = some a.sigs.2[j] := by rw [← h2]; exact hg
   generalize a.sigs.2[j] = s at hg hg2
   simp only [Qf,Ql,Xk hlt,QV ZB hg,QV ZB hg2,ZB.part,FO,beq_self_eq_true,zz,Nat.reduceEqDiff]
   rw [Qi _ (by omega) (by omega)]
   simp only [zz,Nat.reduceEqDiff]
   exact next _ _ hlt ⟨rfl,rfl⟩
  ·obtain rfl : j = a.sigs.2.length := by omega
   simp only [Qf,Ql,QG,zz,Nat.reduceEqDiff]
   exact ⟨trivial,trivial,trivial,trivial⟩
 obtain ⟨q5,q2,q3,hτ⟩ := hx
 rw [hτ]
 simp only [q5,q2,q3,zz,Nat.reduceEqDiff]
 refine Qr (fun x τ => x 5 = .bool true ∧ x 2 = Qt a ∧ x 3 = Qt b ∧ τ = σ) (fun x τ hx => ?_) ?_
 rotate_left
 ·have hl := hc.insts
  refine QT a.insts.2.length (fun j x τ => x = Qz [(5,.bool true),(7,.int .i64 j),(2,Qt a),(3,Qt b)] ∧ τ = σ) ?_ ⟨rfl,rfl⟩
  rintro Φ j x τ hj ⟨rfl,rfl⟩ next
  by_cases hlt : j < a.insts.2.length
  ·have hg : a.insts.2[j]? = some a.insts.2[j] := by simp [hlt]
   have hg2 : b.insts.2[j]? = some a.insts.2[j] := by rw [← h4]; exact hg
   generalize a.insts.2[j] = s at hg hg2
   simp only [Qf,Ql,Xk hlt,QV TK hg,QV TK hg2,TK.part,Eg,beq_self_eq_true,zz,Nat.reduceEqDiff]
   rw [Qi _ (by omega) (by omega)]
   simp only [zz,Nat.reduceEqDiff]
   exact next _ _ hlt ⟨rfl,rfl⟩
  ·obtain rfl : j = a.insts.2.length := by omega
   simp only [Qf,Ql,QG,zz,Nat.reduceEqDiff]
   exact ⟨trivial,trivial,trivial,trivial⟩
 obtain ⟨q5,q2,q3,hτ⟩ := hx
 rw [hτ]
 simp only [q5,q2,q3,zz,Nat.reduceEqDiff]
 refine Qr (fun x τ => x 5 = .bool true ∧ x 2 = Qt a ∧ x 3 = Qt b ∧ τ = σ) (fun x τ hx => ?_) ?_
 rotate_left
 ·have hl := hc.texts
  refine QT a.texts.2.length (fun j x τ => x = Qz [(5,.bool true),(8,.int .i64 j),(2,Qt a),(3,Qt b)] ∧ τ = σ) ?_ ⟨rfl,rfl⟩
  rintro Φ j x τ hj ⟨rfl,rfl⟩ next
  by_cases hlt : j < a.texts.2.length
  ·have hg : a.texts.2[j]? = some a.texts.2[j] := by simp [hlt]
   have hg2 : b.texts.2[j]? = some a.texts.2[j] := by rw [← h7]; exact hg
   generalize a.texts.2[j] = s at hg hg2
   simp only [Qf,Ql,Xk hlt,QV encStr hg,QV encStr hg2,encStr.part,Dd,beq_self_eq_true,zz,Nat.reduceEqDiff]
   rw [Qi _ (by omega) (by omega)]
   simp only [zz,Nat.reduceEqDiff]
   exact next _ _ hlt ⟨rfl,rfl⟩
  ·obtain rfl : j = a.texts.2.length := by omega
   simp only [Qf,Ql,QG,zz,Nat.reduceEqDiff]
   exact ⟨trivial,trivial,trivial,trivial⟩
 obtain ⟨q5,q2,q3,hτ⟩ := hx
 rw [hτ]
 simp only [q5,q2,q3,zz,Nat.reduceEqDiff]
 refine Qr (fun x τ => x 5 = .bool true ∧ x 2 = Qt a ∧ x 3 = Qt b ∧ τ = σ) (fun x τ hx => ?_) ?_
 rotate_left
 ·have hl := hc.trans
  refine QT a.trans.2.length (fun j x τ => x = Qz [(5,.bool true),(9,.int .i64 j),(2,Qt a),(3,Qt b)] ∧ τ = σ) ?_ ⟨rfl,rfl⟩
  rintro Φ j x τ hj ⟨rfl,rfl⟩ next
  by_cases hlt : j < a.trans.2.length
  ·have hg : a.trans.2[j]? = some a.trans.2[j] := by simp [hlt]
   have hg2 : b.trans.2[j]? = some a.trans.2[j] := by rw [← h8]; exact hg
   generalize a.trans.2[j] = s at hg hg2
   simp only [Qf,Ql,Xk hlt,QV T4 hg,QV T4 hg2,T4.part,Ho,beq_self_eq_true,zz,Nat.reduceEqDiff]
   rw [Qi _ (by omega) (by omega)]
   simp only [zz,Nat.reduceEqDiff]
   exact next _ _ hlt ⟨rfl,rfl⟩
  ·obtain rfl : j = a.trans.2.length := by omega
   simp only [Qf,Ql,QG,zz,Nat.reduceEqDiff]
   exact ⟨trivial,trivial,trivial,trivial⟩
 obtain ⟨q5,q2,q3,hτ⟩ := hx
 rw [hτ]
 simp only [q5,q2,q3,zz,Nat.reduceEqDiff]
 refine Qr (fun x τ => x 5 = .bool true ∧ τ = σ) (fun x τ hx => ?_) ?_
 rotate_left
 ·have hl := hc.lines
  refine QT a.lines.2.length (fun j x τ => x = Qz [(5,.bool true),(10,.int .i64 j),(2,Qt a),(3,Qt b)] ∧ τ = σ) ?_ ⟨rfl,rfl⟩
  rintro Φ j x τ hj ⟨rfl,rfl⟩ next
  by_cases hlt : j < a.lines.2.length
  ·have hg : a.lines.2[j]? = some a.lines.2[j] := by simp [hlt]
   have hg2 : b.lines.2[j]? = some a.lines.2[j] := by rw [← h9]; exact hg
   generalize a.lines.2[j] = s at hg hg2
   simp only [Qf,Ql,Xk hlt,QV ZB hg,QV ZB hg2,ZB.part,FO,beq_self_eq_true,zz,Nat.reduceEqDiff]
   rw [Qi _ (by omega) (by omega)]
   simp only [zz,Nat.reduceEqDiff]
   exact next _ _ hlt ⟨rfl,rfl⟩
  ·obtain rfl : j = a.lines.2.length := by omega
   simp only [Qf,Ql,QG,zz,Nat.reduceEqDiff]
   exact ⟨trivial,trivial⟩
 obtain ⟨q5,rfl⟩ := hx
 rw [q5]
 exact Q2 hR
end Go.Proofs.YtgghfcchanilpaaGreatDoor
namespace Go.Proofs.YtgghfcchanilpaaGreatDoor
open Go Go.Abs
theorem E4 {s : Str} (hs : s.length ≤ 1048576) : ∃ (c : ZD) (e : Int),Hk (YZ s) = .tuple [Qt (XF c),.int .i64 e] ∧ VX (XF c) := by
 cases h : YZ s with
 | error e => exact ⟨⟨[],[],[],[],[],[],[],[],[],[]⟩,e,rfl,⟨by simp [XF,Y1],by simp [XF,Y1],by simp [XF,Y1],by simp [XF,Y1],by simp [XF,Y1],by simp [XF,Y1],by simp [XF,Y1],by simp [XF,Y1],by simp [XF,Y1],by simp [XF,Y1],by simp [XF,Y1],by simp [XF,Y1],by simp [XF,Y1],by simp [XF,Y1],by simp [XF,Y1],by simp [XF,Y1],by simp [XF,Y1]⟩⟩
 | ok c =>
  refine ⟨c,0,?_,?_⟩
  ·show PV.tuple [Y8 c,_] = _
   rw [LY]
  ·unfold YZ at h
   split at h
   ·cases h
   split at h
   ·cases h
   split at h
   ·cases h
   split at h
   ·cases h
   split at h
   ·cases h
   ·rename_i d rest he
    split at h
    ·cases h
    split at h
    ·cases h
    ·cases h
     exact (OG _ _ _ he (by simp; omega)).2.A5
set_option maxRecDepth 100000 in
theorem c9 (s : Str) (b : Bool) : Ret W 9 [.str s,.bool b] [] (.bool true) := by
 refine QE fun R hR => ?_
 rw [BQ]
 delta fn9 bF gF kF nI nL
 refine c12.Q0 ?_
 simp only [zz,Nat.reduceEqDiff]
 refine Qu (fun hb => ?_) (fun hb => ?_)
 ·refine c12.Q0 ?_
  exact Q2 hR
 have h1 : s.length ≤ 20000 := by
  have : ¬ (s.length : Int) > 20000 := by simpa using hb
  omega
 refine Qr (fun x τ => ∃ t : Str,x 0 = .str t ∧ t.length ≤ 20004 ∧ τ = []) (fun x τ hx => ?_) ?_
 case refine_2 =>
  cases b with
  | false => exact ⟨s,by trivial,by omega,by trivial⟩
  | true =>
   simp only [zz,Nat.reduceEqDiff]
   refine (c31 (by omega) _).Q0 ?_
   obtain ⟨e0,⟨w1,e1,f1⟩,⟨w2,e2,f2⟩,⟨w3,e3,f3⟩⟩ := P3 (Uj s)
   have hv : ∀ τ,Zf (.list .full (u8s (Yb (Uj s)))) τ = some (.str (Yb (Uj s))) := fun τ => VM.str (.inl rfl)
   have hv' := hv
   unfold Yb at hv'
   have hf4 : (Yb (Uj s)).length = 4 := rfl
   have hadd : QR none .add (.str s) (.str (Yb (Uj s))) = some (.str (s ++ Yb (Uj s))) := Xr _ (by omega)
   unfold Yb at hadd
   simp only [e0,e1,f1,e2,f2,e3,f3,Ff,hv',hadd,zz,Nat.reduceEqDiff]
   exact ⟨_,by trivial,by simp; omega,by trivial⟩
 obtain ⟨t,q0,ht,rfl⟩ := hx
 obtain ⟨c,e,hres,hok⟩ := E4 (s := t) (by omega)
 have hp : Qv 10 (.agg ZG) 0 (Qt (XF c)) = some (Qt (XF c)) := VG rfl rfl
 have hq : ∀ e : Int,QR none .eql (.int .i64 e) (.int .i64 e) = some (.bool true) := fun e => by simp [QR,Y2]
 simp only [q0,zz,Nat.reduceEqDiff]
 refine (c32 t (by omega) _).Q0 ?_
 rw [hres]
 simp only [hp,zz,Nat.reduceEqDiff]
 refine (c33 t (by omega) _).Q0 ?_
 rw [hres]
 simp only [hp,hq,Qf,beq_self_eq_true,zz,Nat.reduceEqDiff]
 refine (c34 rfl hok _).Q0 ?_
 exact Q2 hR
end Go.Proofs.YtgghfcchanilpaaGreatDoor
