import Derived.Test.YtgghfcchanilpaaGreatDoorSpZa
import Derived.Test.YtgghfcchanilpaaGreatDoorSpD
set_option linter.unusedVariables false
set_option linter.unusedSimpArgs false
namespace Go.Proofs.YtgghfcchanilpaaGreatDoor
open Go Go.Abs
def YC (e : Nat → Int) : Nat → Int × Int
 | 0 => (0,0)
 | n + 1 => if (YC e n).2 ≠ 0 then YC e n else if e n ≠ 0 then (n,e n) else (0,0)
theorem U0 {e : Nat → Int} : ∀ {n : Nat},(∀ k,k < n → e k = 0) → YC e n = (0,0)
 | 0,_ => rfl
 | n + 1,h => by
  have h1 : YC e n = (0,0) := U0 fun k hk => h k (by omega)
  simp [YC,h1,h n (by omega)]
theorem P5 {e : Nat → Int} {j : Nat} (hp : ∀ k,k < j → e k = 0) (he : e j ≠ 0) : ∀ {n : Nat},j < n → YC e n = ((j : Int),e j)
 | 0,h => by omega
 | n + 1,h => by
  rcases Nat.lt_succ_iff_lt_or_eq.1 h with h | rfl
  ·have := P5 (e := e) (j := j) hp he (n := n) h
   simp [YC,this,he]
  ·have h1 : YC e j = (0,0) := U0 hp
   simp [YC,h1,he]
theorem ZX {c : Qp} (h : Fit c) {i : Nat} (hi : i < c.routs.2.length) : (rAt c i).fr = YQ c i ∧ (rAt c i).fr < (rAt c i).to ∧ (i + 1 = c.routs.2.length → (rAt c i).to = len c.insts) := by
 have h0 := h.routs i hi
 have hb : Vx c i = false := by
  cases hb : Vx c i with
  | false => rfl
  | true =>
   simp only [Xy,hb,if_true] at h0
   split at h0
   ·omega
   ·split at h0 <;> omega
 simp only [Vx,Bool.or_eq_false_iff,Bool.not_eq_false',Bool.and_eq_false_iff,decide_eq_false_iff_not,beq_iff_eq,beq_eq_false_iff_ne] at hb
 obtain ⟨⟨h1,h2⟩,h3⟩ := hb
 refine ⟨h1,by omega,fun hl => ?_⟩
 rcases h3 with h3 | h3
 ·exfalso
  apply h3
  unfold len
  omega
 ·exact h3
theorem TD {c : Qp} (h : Fit c) : ∀ {i : Nat},i < c.routs.2.length → 0 ≤ (rAt c i).fr ∧ ∀ j,j < i → (rAt c j).to ≤ (rAt c i).fr
 | 0,hi => by
  have h1 := (ZX h hi).1
  have h0 : YQ c 0 = 0 := rfl
  exact ⟨by omega,fun j hj => by omega⟩
 | i + 1,hi => by
  have h1 := (ZX h hi).1
  have h2 := TD h (i := i) (by omega)
  have h3 := (ZX h (i := i) (by omega)).2.1
  have h4 : YQ c (i + 1) = (rAt c i).to := by
   unfold YQ
   rw [if_pos (by omega)]
   rfl
  rw [h4] at h1
  refine ⟨by omega,fun j hj => ?_⟩
  rcases Nat.lt_succ_iff_lt_or_eq.1 hj with hj | rfl
  ·have := h2.2 j hj
   omega
  ·omega
theorem H2 {c : Qp} {i : Nat} (hi : i < c.routs.2.length) : c.routs.2[i]? = some (rAt c i) := by
 simp [rAt,atI,List.getD_eq_getElem?_getD,hi]
theorem H7 {c : Qp} (h : Fit c) {i : Nat} (hi : i < c.routs.2.length) {k : Int} (h1 : (rAt c i).fr ≤ k) (h2 : k < (rAt c i).to) : idxOf (inR k) c.routs.2 0 = i := by
 have := idxOf_hit (p := inR k) (n := 0) (H2 hi) (by simp [inR]; omega) (by
  rw [List.all_eq_true]
  intro r hr
  obtain ⟨j,hj⟩ := List.mem_iff_getElem?.1 hr
  rw [List.getElem?_take] at hj
  split at hj
  ·rename_i hji
   rw [H2 (by omega)] at hj
   cases hj
   have := (TD h hi).2 j hji
   simp [inR]
   omega
  ·cases hj)
 simpa using this
theorem SM {c : Qp} (h : Fit c) : ∀ (n : Nat),n < c.routs.2.length → ∀ k : Int,0 ≤ k → k < (rAt c n).to → ∃ i,i ≤ n ∧ (rAt c i).fr ≤ k ∧ k < (rAt c i).to
 | 0,hn,k,h0,h1 => by
  have h2 := (ZX h hn).1
  have h3 : YQ c 0 = 0 := rfl
  exact ⟨0,by omega,by omega,h1⟩
 | n + 1,hn,k,h0,h1 => by
  by_cases hk : (rAt c (n + 1 : Nat)).fr ≤ k
  ·exact ⟨n + 1,by omega,hk,h1⟩
  ·have h2 := (ZX h hn).1
   have h4 : YQ c (n + 1) = (rAt c n).to := by
    unfold YQ
    rw [if_pos (by omega)]
    rfl
   obtain ⟨i,hi,q⟩ := SM h n (by omega) k h0 (by omega)
   exact ⟨i,by omega,q⟩
theorem JC {c : Qp} (h : Fit c) (hr : c.routs.2.length ≠ 0) {k : Int} (h0 : 0 ≤ k) (h1 : k < len c.insts) : ∃ i,i < c.routs.2.length ∧ (rAt c i).fr ≤ k ∧ k < (rAt c i).to ∧ idxOf (inR k) c.routs.2 0 = i := by
 have hl := (ZX h (i := c.routs.2.length - 1) (by omega)).2.2 (by omega)
 obtain ⟨i,hi,h2,h3⟩ := SM h (c.routs.2.length - 1) (by omega) k h0 (by omega)
 exact ⟨i,by omega,h2,h3,H7 h (by omega) h2 h3⟩
structure Lz (c : Qp) : Prop where
 lev : ∀ r ∈ c.routs.2,r.level < 9223372036854775808
 inst : ∀ i ∈ c.insts.2,i.ok = true
theorem Lz.level {c : Qp} (h : Lz c) (k : Int) : (rAt c k).level < 9223372036854775808 := by
 unfold rAt atI
 rw [List.getD_eq_getElem?_getD]
 cases hq : c.routs.2[k.toNat]? with
 | none => simp [ZE]
 | some m => exact h.lev m (List.mem_of_getElem? hq)
theorem IV {c : Qp} {k : Nat} (hk : k < c.insts.2.length) : c.insts.2[k]? = some (iAt c k) := by
 simp [iAt,atI,List.getD_eq_getElem?_getD,hk]
theorem Lz.insts {c : Qp} (h : Lz c) {k : Nat} (hk : k < c.insts.2.length) : (iAt c k).ok = true := h.inst _ (List.mem_of_getElem? (IV hk))
def ZQ (c : Qp) (k : Nat) : Int := [if OU c then 3 else 0,if Yt c then 13 else 0,YJ c,YN c,ZH c].getD k 0
def atE (c : Qp) (a b : Int) (k : Nat) : Int := VR c a b (iAt c k) (idxOf (inR k) c.routs.2 0)
def Zp (c : Qp) (a b : Int) : Int × Int := if ZK (ZQ c) 5 ≠ 0 then (0,ZK (ZQ c) 5) else YC (atE c a b) c.insts.2.length
theorem IW {c : Qp} (h : YJ c = 0) : YE c = false := by
 cases hs : YE c with
 | false => rfl
 | true =>
  simp only [YJ,hs,if_true] at h
  split at h <;> omega
theorem FF {c : Qp} (h : YN c = 0) : Fit c ∧ c.routs.2.length ≠ 0 := by
 unfold YN at h
 split at h
 ·omega
 ·rename_i h0
  refine ⟨⟨fun i hi => NY h i hi⟩,fun hn => h0 ?_⟩
  unfold len
  omega
theorem ZY : (∀ a b c d : Int,Qv 2 (.agg [.int .i64 a,.int .i64 b]) 0 (.agg [.int .i64 c,.int .i64 d]) = some (.agg [.int .i64 c,.int .i64 d])) ∧
  (∀ a : Int,QF [.int .i64 0,.int .i64 0] [(1,1,.int .i64 a)] = some [.int .i64 0,.int .i64 a]) ∧ (∀ a b : Int,QF [.int .i64 0,.int .i64 0] [(0,1,.int .i64 a),(1,1,.int .i64 b)] = some [.int .i64 a,.int .i64 b]) ∧
  QF [.int .i64 0,.int .i64 0] [] = some [.int .i64 0,.int .i64 0] := ⟨fun _ _ _ _ => rfl,fun _ => rfl,fun _ _ => rfl,rfl⟩
theorem Og (v : Int) : QR none .neq (.int .i64 v) (.int .i64 0) = some (.bool (v != 0)) := rfl
theorem c56' (σ : St) : Ret W 56 [] σ (.list .part (List.replicate UG .any)) := QE fun R hR => hR
theorem c57' (σ : St) : Ret W 57 [] σ (.list .part (List.replicate YD .any)) := QE fun R hR => hR
theorem c68' (σ : St) : Ret W 68 [] σ (.list .part (List.replicate UG .any)) := QE fun R hR => hR
theorem c69' (σ : St) : Ret W 69 [] σ (.list .part (List.replicate YD .any)) := QE fun R hR => hR
theorem He (c : Qp) (a b : Int) : QF [(.list .nil []),(.list .nil []),(.list .nil []),(.list .nil []),(.list .nil []),(.list .nil []),(.list .nil []),(.list .nil []),(.list .nil []),(.list .nil []),(.int .i64 0),(.int .i64 0)] [(0,10,Qt c),(10,1,.int .i64 a),(11,1,.int .i64 b)] = some (Td c ++ [.int .i64 a,.int .i64 b]) := rfl
theorem Cd (c : Qp) (a b : Int) : Qv 12 (.agg [(.list .nil []),(.list .nil []),(.list .nil []),(.list .nil []),(.list .nil []),(.list .nil []),(.list .nil []),(.list .nil []),(.list .nil []),(.list .nil []),(.int .i64 0),(.int .i64 0)]) 0 (.agg (Td c ++ [.int .i64 a,.int .i64 b])) = some (X2 c a b) := rfl
def fnP (c : Qp) (a b : Int) (g : Nat) : PV := .func g 1 [X2 c a b]
theorem AQ (c : Qp) (a b : Int) : Zr (fnP c a b) false 1 := ⟨fun _ => ⟨_,rfl,rfl⟩,fun _ => rfl⟩
theorem E7 (c : Qp) (a b : Int) : QI 1 (List.replicate 5 .nilfunc) [(0,(.func 58 1 [X2 c a b])),(1,(.func 59 1 [X2 c a b])),(2,(.func 60 1 [X2 c a b])),(3,(.func 61 1 [X2 c a b])),(4,(.func 62 1 [X2 c a b]))] = some ([58,59,60,61,62].map (fnP c a b)) := rfl
theorem Hy {c : Qp} (hc : VX c) (hn : Lz c) (a b : Int) (σ : St) : ∀ (j g : Nat),[58,59,60,61,62][j]? = some g → (∀ k,k < j → ZQ c k = 0) → Yj g = true ∧ Ret W g [X2 c a b] σ (.int .i64 (ZQ c j))
 | 0,g,hg,_ => by
  obtain rfl : 58 = g := by simpa using hg
  exact ⟨by kernel_rfl,c58 hc _ _ σ⟩
 | 1,g,hg,_ => by
  obtain rfl : 59 = g := by simpa using hg
  exact ⟨by kernel_rfl,c59 hc _ _ σ⟩
 | 2,g,hg,_ => by
  obtain rfl : 60 = g := by simpa using hg
  exact ⟨by kernel_rfl,c60 hc _ _ σ⟩
 | 3,g,hg,h => by
  obtain rfl : 61 = g := by simpa using hg
  exact ⟨by kernel_rfl,c61 hc (IW (h 2 (by omega))) _ _ hn.level σ⟩
 | 4,g,hg,_ => by
  obtain rfl : 62 = g := by simpa using hg
  exact ⟨by kernel_rfl,c62 hc _ _ σ⟩
 | j + 5,g,hg,_ => by simp at hg
theorem c24 {c : Qp} (hc : VX c) (hn : Lz c) (σ : St) : Ret W 24 [Qt c] σ (Qw (Zp c 470 49)) := by
 refine QE fun R hR => ?_
 rw [Co]
 delta AK bF pF kF nI nL wvR
 have hil := hc.insts
 have fin : ∀ p : Int × Int,Zp c 470 49 = p → XG σ (Qw p) σ fun v σ => R (.ret v) σ := fun p hp => by
  rw [hp] at hR
  exact Q2 hR
 clear hR
 simp only [Qf,zz,Nat.reduceEqDiff]
 refine (c56' _).Q0 ?_
 simp only [List.length_replicate,zz,Nat.reduceEqDiff]
 refine (c57' _).Q0 ?_
 have e1 : ((UG : Nat) : Int) = 470 := rfl
 have e2 : ((YD : Nat) : Int) = 49 := rfl
 simp only [List.length_replicate,e1,e2,He,Cd,QU,E7,zz,Nat.reduceEqDiff]
 have h5 : [58,59,60,61,62].length = 5 := rfl
 have hcall := Hy hc hn 470 49 σ
 generalize [58,59,60,61,62] = l at hcall h5
 simp only [List.length_map,h5,zz,Nat.reduceEqDiff]
 refine YT 5 (ZQ c) (fun j => Qz [(25,.list .full (l.map (fnP c 470 49))),(26,.int .i64 5),(27,.int .i64 j),(1,Qt c),(2,.agg [.int .i64 0,.int .i64 0]),(3,X2 c 470 49)]) σ rfl (fun hall Φ => ?_) (fun Φ j hj hpre hhit next => ?_)
 case refine_2 =>
  have hg : l[j]? = some l[j] := by simp [h5,hj]
  generalize l[j] = g at hg
  obtain ⟨hb,hcl⟩ := hcall j g hg hpre
  have e3 : decide ((j : Int) < 5) = true := decide_eq_true (by omega)
  have hfn : fnP c 470 49 g = .func g 1 [X2 c 470 49] := rfl
  have harg : YP 1 [] [X2 c 470 49] = [X2 c 470 49] := rfl
  have hpt : Q6 false 1 (.func g 1 [X2 c 470 49]) 0 = some (.func g 1 [X2 c 470 49]) := rfl
  simp only [e3,(AQ c 470 49).index hg,hfn,hpt,YO hb,harg,zz,Nat.reduceEqDiff]
  refine hcl.Q0 ?_
  simp only [Og,zz,Nat.reduceEqDiff]
  refine Qu (fun hbad => ?_) (fun hbad => ?_)
  ·have hne : ZQ c j ≠ 0 := by simpa using hbad
   simp only [ZY,zz,Nat.reduceEqDiff]
   refine fin (0,ZQ c j) ?_
   have h1 := hhit hne
   unfold Zp
   rw [h1,if_pos hne]
  ·have hz : ZQ c j = 0 := by simpa using hbad
   rw [Qi _ (by omega) (by omega)]
   simp only [zz,Nat.reduceEqDiff]
   exact next hz
 have e3 : decide (((5 : Nat) : Int) < 5) = false := rfl
 have hz := XZ hall
 have hcs : Zp c 470 49 = YC (atE c 470 49) c.insts.2.length := by
  unfold Zp
  rw [hz,if_neg (by omega)]
 obtain ⟨hf,hr0⟩ := FF (hall 3 (by omega))
 simp only [e3,Qf,Ql,zz,Nat.reduceEqDiff]
 refine YT c.insts.2.length (atE c 470 49) (fun j => Qz [(40,.int .i64 (len c.insts)),(41,.int .i64 j),(2,.agg [.int .i64 0,.int .i64 0]),(3,X2 c 470 49)]) σ rfl (fun hall2 Ψ => ?_) (fun Ψ k hk hpre hhit next => ?_)
 ·simp only [QG,Nat.lt_irrefl,decide_false,ZY,zz,Nat.reduceEqDiff]
  refine fin (0,0) ?_
  rw [hcs,U0 hall2]
 obtain ⟨r,hr,-,-,hix⟩ := JC hf hr0 (k := k) (by omega) (by unfold len; omega)
 simp only [Xk hk,hk,decide_true,QU,zz,Nat.reduceEqDiff]
 refine (c63 hc hf 470 49 hk (hn.insts hk) (by omega) (by rw [hix]; unfold len; omega) _).Q0 ?_
 have hat : VR c 470 49 (iAt c k) (idxOf (inR k) c.routs.2 0) = atE c 470 49 k := rfl
 rw [hat]
 simp only [Og,zz,Nat.reduceEqDiff]
 refine Qu (fun hbad => ?_) (fun hbad => ?_)
 ·have hne : atE c 470 49 k ≠ 0 := by simpa using hbad
  simp only [ZY,zz,Nat.reduceEqDiff]
  refine fin (k,atE c 470 49 k) ?_
  rw [hcs,P5 hpre hne hk]
 ·have hz' : atE c 470 49 k = 0 := by simpa using hbad
  rw [Qi _ (by omega) (by omega)]
  simp only [zz,Nat.reduceEqDiff]
  exact next hz'
end Go.Proofs.YtgghfcchanilpaaGreatDoor
namespace Go.Proofs.YtgghfcchanilpaaGreatDoor
open Go Go.Abs
theorem US {c : Qp} {a b : Int} {j : Nat} (hj : j < 5) (hp : ∀ k,k < j → ZQ c k = 0) (he : ZQ c j ≠ 0) : Zp c a b = (0,ZQ c j) := by
 unfold Zp
 rw [OC hp he hj,if_pos he]
theorem EY {c : Qp} {a b : Int} (hp : ∀ k,k < 5 → ZQ c k = 0) : Zp c a b = YC (atE c a b) c.insts.2.length := by
 unfold Zp
 rw [XZ hp,if_neg (by omega)]
theorem U3 {c : Qp} : ∀ {n : Nat},(∀ k,k < n → ZQ c k = 0) → ZQ c n = 0 → ∀ k,k < n + 1 → ZQ c k = 0 := fun h h1 k hk => by
 rcases Nat.lt_succ_iff_lt_or_eq.1 hk with hk | rfl
 ·exact h k hk
 ·exact h1
theorem c25 {c : Qp} (hc : VX c) (hn : Lz c) (σ : St) : Ret W 25 [Qt c] σ (Qw (Zp c 470 49)) := by
 refine QE fun R hR => ?_
 rw [DK]
 delta qC bF pF kF nI wvR
 have hil := hc.insts
 have hrl := hc.routs
 have fin : ∀ p : Int × Int,Zp c 470 49 = p → XG σ (Qw p) σ fun v σ => R (.ret v) σ := fun p hp => by
  rw [hp] at hR
  exact Q2 hR
 clear hR
 have h0 : ZQ c 0 = if OU c then 3 else 0 := rfl
 have h1 : ZQ c 1 = if Yt c then 13 else 0 := rfl
 have h2 : ZQ c 2 = YJ c := rfl
 have h3 : ZQ c 3 = YN c := rfl
 have h4 : ZQ c 4 = ZH c := rfl
 simp only [Qf,zz,Nat.reduceEqDiff]
 refine (c64 hc _).Q0 ?_
 simp only [Bool.not_not,zz,Nat.reduceEqDiff]
 refine Qu (fun hb => ?_) (fun hb => ?_)
 ·rw [hb,if_pos rfl] at h0
  simp only [ZY,zz,Nat.reduceEqDiff]
  refine fin (0,3) ?_
  rw [US (j := 0) (by omega) (fun k hk => by omega) (by omega),h0]
 rw [hb,if_neg (by simp)] at h0
 have p1 : ∀ k,k < 1 → ZQ c k = 0 := U3 (fun k hk => by omega) h0
 refine (c65 hc _).Q0 ?_
 simp only [Og,zz,Nat.reduceEqDiff]
 refine Qu (fun hb1 => ?_) (fun hb1 => ?_)
 ·have hne : VO c ≠ 0 := by simpa using hb1
  simp only [ZY,zz,Nat.reduceEqDiff]
  refine fin (0,VO c) ?_
  unfold VO at hne ⊢
  cases hs : Yt c with
  | true =>
   rw [hs,if_pos rfl] at h1
   rw [if_pos rfl,US (j := 1) (by omega) p1 (by omega),h1]
  | false =>
   rw [hs,if_neg (by simp)] at h1
   rw [hs,if_neg (by simp)] at hne
   rw [if_neg (by simp),US (j := 2) (by omega) (U3 p1 h1) (by rw [h2]; exact hne),h2]
 have hz : VO c = 0 := by simpa using hb1
 have hs12 : ZQ c 1 = 0 ∧ ZQ c 2 = 0 := by
  unfold VO at hz
  cases hs : Yt c with
  | true => rw [hs,if_pos rfl] at hz; omega
  | false =>
   rw [hs,if_neg (by simp)] at h1 hz
   exact ⟨h1,by rw [h2]; exact hz⟩
 have p3 : ∀ k,k < 3 → ZQ c k = 0 := U3 (U3 p1 hs12.1) hs12.2
 have hsig := IW (by rw [← h2]; exact hs12.2)
 clear hb hb1 hz hs12 p1 h0 h1 h2
 refine Qr (fun x τ => x 1 = Qt c ∧ x 2 = .agg [.int .i64 0,.int .i64 0] ∧ τ = σ ∧ ∀ k,k < c.routs.2.length → Xy c k = 0) (fun x τ hx => ?_) ?_
 case refine_2 =>
  refine YT c.routs.2.length (Xy c) (fun j => Qz [(4,.int .i64 j),(1,Qt c),(2,.agg [.int .i64 0,.int .i64 0])]) σ rfl (fun hall Φ => ?_) (fun Φ j hj hpre hhit next => ?_)
  ·simp only [Qf,Ql,QG,Nat.lt_irrefl,decide_false,zz,Nat.reduceEqDiff]
   exact ⟨trivial,trivial,trivial,hall⟩
  simp only [Qf,Ql,Xk hj,hj,decide_true,zz,Nat.reduceEqDiff]
  refine (c66 hc hsig hj (fun k hk => U4 (hpre k hk)) _).Q0 ?_
  simp only [Og,zz,Nat.reduceEqDiff]
  refine Qu (fun hbad => ?_) (fun hbad => ?_)
  ·have hne : Xy c j ≠ 0 := by simpa using hbad
   simp only [ZY,zz,Nat.reduceEqDiff]
   refine fin (0,Xy c j) ?_
   have h5 : YN c = Xy c j := by
    unfold YN
    rw [if_neg (by unfold len; omega)]
    exact hhit hne
   rw [US (j := 3) (by omega) p3 (by rw [h3,h5]; exact hne),h3,h5]
  ·have hz : Xy c j = 0 := by simpa using hbad
   rw [Qi _ (by omega) (by omega)]
   simp only [zz,Nat.reduceEqDiff]
   exact next hz
 obtain ⟨q1,q2,rfl,hall⟩ := hx
 simp only [q1,q2,Qf,Ql,zz,Nat.reduceEqDiff]
 clear q1 q2 x
 refine Qu (fun hb => ?_) (fun hb => ?_)
 ·have hl0 : len c.routs = 0 := by simpa using hb
  have h5 : YN c = 12 := by
   unfold YN
   rw [if_pos hl0]
  simp only [ZY,zz,Nat.reduceEqDiff]
  refine fin (0,12) ?_
  rw [US (j := 3) (by omega) p3 (by rw [h3,h5]; omega),h3,h5]
 have hl0 : ¬ len c.routs = 0 := by simpa using hb
 have h5 : YN c = 0 := by
  unfold YN
  rw [if_neg hl0]
  exact XZ hall
 have p4 : ∀ k,k < 4 → ZQ c k = 0 := U3 p3 (h3.trans h5)
 obtain ⟨hf,hr0⟩ := FF h5
 clear hb
 refine (c67 hc _).Q0 ?_
 simp only [Og,zz,Nat.reduceEqDiff]
 refine Qu (fun hbad => ?_) (fun hbad => ?_)
 ·have hne : ZH c ≠ 0 := by simpa using hbad
  simp only [ZY,zz,Nat.reduceEqDiff]
  refine fin (0,ZH c) ?_
  rw [US (j := 4) (by omega) p4 (by rw [h4]; exact hne),h4]
 have hz : ZH c = 0 := by simpa using hbad
 have hcs := EY (a := 470) (b := 49) (U3 p4 (h4.trans hz))
 rw [hcs] at fin
 clear hcs hbad hz p3 p4 h3 h4 h5 hall
 refine (c68' _).Q0 ?_
 simp only [List.length_replicate,zz,Nat.reduceEqDiff]
 refine (c69' _).Q0 ?_
 have e1 : ((UG : Nat) : Int) = 470 := rfl
 have e2 : ((YD : Nat) : Int) = 49 := rfl
 simp only [List.length_replicate,e1,e2,zz,Nat.reduceEqDiff]
 refine Qr (fun x τ' => x 2 = .agg [.int .i64 0,.int .i64 0] ∧ τ' = τ ∧ ∀ k,k < c.insts.2.length → atE c 470 49 k = 0) (fun x τ' hx => ?_) ?_
 ·obtain ⟨q2,rfl,hall⟩ := hx
  simp only [q2,ZY,zz,Nat.reduceEqDiff]
  refine fin (0,0) ?_
  rw [U0 hall]
 refine QT c.routs.2.length (fun r x τ' => x = Qz [(7,.int .i64 470),(8,.int .i64 49),(9,.int .i64 r),(1,Qt c),(2,.agg [.int .i64 0,.int .i64 0])] ∧ τ' = τ ∧ ∀ k : Nat,(k : Int) < YQ c r → atE c 470 49 k = 0) ?_ ⟨rfl,rfl,fun k hk => by simp [YQ] at hk; omega⟩
 rintro Φ r x τ' hr ⟨rfl,rfl,hp⟩ next
 by_cases hlt : r < c.routs.2.length
 case neg =>
  obtain rfl : r = c.routs.2.length := by omega
  simp only [Qf,Ql,QG,Nat.lt_irrefl,decide_false,zz,Nat.reduceEqDiff]
  refine ⟨trivial,trivial,fun k hk => hp k ?_⟩
  have ho := (ZX hf (i := c.routs.2.length - 1) (by omega)).2.2 (by omega)
  have : YQ c c.routs.2.length = (rAt c (c.routs.2.length - 1 : Nat)).to := by
   unfold YQ
   rw [if_pos (by omega)]
  rw [this,ho]
  unfold len
  omega
 obtain ⟨o1,o2,o3⟩ := ZX hf hlt
 have hfr := (TD hf hlt).1
 have hto : (rAt c r).to ≤ len c.insts := by
  have hl := (ZX hf (i := c.routs.2.length - 1) (by omega)).2.2 (by omega)
  rcases Nat.lt_or_ge r (c.routs.2.length - 1) with h | h
  ·have := (TD hf (i := c.routs.2.length - 1) (by omega)).2 r h
   have := (ZX hf (i := c.routs.2.length - 1) (by omega)).2.1
   omega
  ·obtain rfl : r = c.routs.2.length - 1 := by omega
   omega
 have hlen : len c.insts = (c.insts.2.length : Int) := rfl
 have hixr : Q5 9 (QB Qo c.routs) (.int .i64 r) = some (.eptr (Qo (rAt c r)) 0) := Zd X3 ZE (by omega) (by unfold len; omega)
 rw [← o1] at hp
 simp only [Qf,Ql,Xk hlt,hlt,decide_true,hixr,Zx,Qy,zz,Nat.reduceEqDiff,Nat.reduceAdd]
 refine Qr (fun x τ => x = Qz [(7,.int .i64 470),(8,.int .i64 49),(9,.int .i64 r),(1,Qt c),(2,.agg [.int .i64 0,.int .i64 0])] ∧ τ = τ' ∧ ∀ k : Nat,(k : Int) < (rAt c r).to → atE c 470 49 k = 0) (fun x τ hx => ?_) ?_
 ·obtain ⟨rfl,rfl,hall⟩ := hx
  simp only [zz,Nat.reduceEqDiff]
  rw [Qi _ (by omega) (by omega)]
  simp only [zz,Nat.reduceEqDiff]
  refine next _ _ hlt ⟨by simp,rfl,fun k hk => hall k ?_⟩
  have : YQ c (r + 1) = (rAt c r).to := by
   unfold YQ
   rw [if_pos (by omega)]
   rfl
  omega
 refine QT ((rAt c r).to - (rAt c r).fr).toNat (fun j x τ => x = Qz [(7,.int .i64 470),(8,.int .i64 49),(9,.int .i64 r),(10,.int .i64 ((rAt c r).fr + j)),(1,Qt c),(2,.agg [.int .i64 0,.int .i64 0])] ∧ τ = τ' ∧ ∀ k : Nat,(k : Int) < (rAt c r).fr + j → atE c 470 49 k = 0) ?_ ⟨by simp,rfl,fun k hk => hp k (by omega)⟩
 rintro Ψ j x τ hj ⟨rfl,rfl,hq⟩ next2
 simp only [Qf,hixr,Zx,Qy,zz,Nat.reduceEqDiff,Nat.reduceAdd]
 refine Qu (fun hb => ?_) (fun hb => ?_)
 ·have hb' : (rAt c r).fr + j < (rAt c r).to := of_decide_eq_true hb
  obtain ⟨k,hk⟩ := Int.eq_ofNat_of_zero_le (show 0 ≤ (rAt c r).fr + j by omega)
  have hkl : k < c.insts.2.length := by omega
  have hixi : Q5 12 (QB QD c.insts) (.int .i64 ((rAt c r).fr + j)) = some (.eptr (QD (iAt c k)) 0) := by
   rw [hk]
   exact QV TK (IV hkl)
  simp only [hixi,TK.part,zz,Nat.reduceEqDiff]
  refine (c70 hc hf hlt 470 49 (iAt c k) (hn.insts hkl) _).Q0 ?_
  have hat : VR c 470 49 (iAt c k) r = atE c 470 49 k := by
   unfold atE
   rw [H7 hf hlt (k := (k : Int)) (by omega) (by omega)]
  rw [hat,hk]
  simp only [Og,zz,Nat.reduceEqDiff]
  refine Qu (fun hbad => ?_) (fun hbad => ?_)
  ·have hne : atE c 470 49 k ≠ 0 := by simpa using hbad
   simp only [ZY,zz,Nat.reduceEqDiff]
   refine fin (k,atE c 470 49 k) ?_
   rw [P5 (fun m hm => hq m (by omega)) hne hkl]
  ·have hz' : atE c 470 49 k = 0 := by simpa using hbad
   rw [Qi _ (by omega) (by omega)]
   simp only [zz,Nat.reduceEqDiff]
   refine next2 _ _ (by omega) ⟨?_,rfl,fun m hm => ?_⟩
   ·have : (k : Int) + 1 = (rAt c r).fr + (j + 1 : Nat) := by omega
    rw [this]
   ·rcases Int.lt_or_eq_of_le (show (m : Int) ≤ k by omega) with h | h
    ·exact hq m (by omega)
    ·obtain rfl : m = k := by omega
     exact hz'
 ·have hb' : ¬ (rAt c r).fr + j < (rAt c r).to := of_decide_eq_false hb
  exact ⟨trivial,trivial,fun k hk => hq k (by omega)⟩
end Go.Proofs.YtgghfcchanilpaaGreatDoor
namespace Go.Proofs.YtgghfcchanilpaaGreatDoor
open Go Go.Abs
open Go.Lib (decDigits itoa)
theorem Le : ∀ (l l' : List Int),l.length = l'.length → Vm (List.replicate l.length .int) (l.map (PV.int .i64)) (l'.map (PV.int .i64)) = some (decide (l = l'))
 | [],[],_ => rfl
 | [],_ :: _,h => by cases h
 | _ :: _,[],h => by cases h
 | a :: l,b :: l',h => by
  have ih := Le l l' (by simpa using h)
  simp only [List.length_cons,List.replicate_succ,List.map_cons,Vm,Vc,if_true,Ab]
  by_cases hab : a = b
  ·subst hab
   simp only [decide_true,ih,List.cons.injEq,true_and]
  ·simp [hab]
end Go.Proofs.YtgghfcchanilpaaGreatDoor
namespace Go.Proofs.YtgghfcchanilpaaGreatDoor
open Go Go.Abs
theorem FO (p : Int × Int) : QR (some (.st [.int,.int])) .eql (Qw p) (Qw p) = some (.bool true) := by
 show (match Vm (List.replicate 2 .int) ([p.1,p.2].map (PV.int .i64)) ([p.1,p.2].map (PV.int .i64)) with | some b => some (PV.bool b) | none => none) = _
 rw [show (2 : Nat) = [p.1,p.2].length from rfl,Le _ _ rfl]
 simp
end Go.Proofs.YtgghfcchanilpaaGreatDoor
