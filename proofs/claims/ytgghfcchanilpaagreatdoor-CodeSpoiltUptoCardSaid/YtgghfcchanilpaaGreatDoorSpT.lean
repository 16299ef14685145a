import Derived.Test.YtgghfcchanilpaaGreatDoorPlG
set_option linter.unusedVariables false
set_option linter.unusedSimpArgs false
namespace Go.Proofs.YtgghfcchanilpaaGreatDoor
open Go Go.Abs
theorem c228 {c : CodeS} {i : Nat} (ho : OutOk c i) (hi : (i : Int) < len c.routs) (a b : Int) {r n : Int} (h0 : 0 ≤ r) (h1 : r ≤ i) (hn : n < 9223372036854775808) (σ : St) : Ret W 228 [pvChk c a b,.int .i64 r,.int .i64 n] σ (pvPair (reachS c r n)) := by
 refine ret_of fun R hR => ?_
 rw [fn228_eq]
 delta fn228 bF pF gF kF nI nL
 simp only [chk_parts,zz,Nat.reduceEqDiff]
 unfold reachS at hR
 by_cases hb : n < 0
 ·rw [if_pos hb] at hR
  refine CutW_by (fun x τ => x 1 = .int .i64 r ∧ x 2 = .int .i64 n ∧ τ = σ) (fun x τ hx => ?_) ?_
  ·obtain ⟨h1,h2,rfl⟩ := hx
   have : (n == 0) = false := by simp; omega
   simp only [h1,h2,this,zz,Nat.reduceEqDiff]
   exact weakW_keep hR
  refine Lfp_up 0 (fun j x τ => x = lookP [(1,.int .i64 r),(2,.int .i64 n),(3,pvChk c a b)] ∧ τ = σ) ?_ ⟨rfl,rfl⟩
  rintro Φ j x τ hj ⟨rfl,rfl⟩ next
  have e : decide (n > 0) = false := decide_eq_false (by omega)
  simp only [e,zz,Nat.reduceEqDiff]
  exact ⟨trivial,trivial,trivial⟩
 rw [if_neg hb] at hR
 obtain ⟨m,rfl⟩ := Int.eq_ofNat_of_zero_le (Int.not_lt.1 hb)
 rw [Int.toNat_natCast] at hR
 generalize hF : reachN c m r = F at hR
 refine CutW_by (fun x τ => x 1 = .int .i64 F.1 ∧ x 2 = .int .i64 0 ∧ F.2 = true ∧ τ = σ) (fun x τ hx => ?_) ?_
 ·obtain ⟨h1,h2,h3,rfl⟩ := hx
  unfold pvPair at hR
  rw [h3] at hR
  simp only [h1,h2,zz,Nat.reduceEqDiff]
  exact weakW_keep hR
 refine Lfp_down (fun m x τ => ∃ r : Int,0 ≤ r ∧ r ≤ i ∧ m < 9223372036854775808 ∧ x = lookP [(1,.int .i64 r),(2,.int .i64 m),(3,pvChk c a b)] ∧ τ = σ ∧ reachN c m r = F) ?_ m ⟨r,h0,h1,by omega,rfl,rfl,hF⟩
 rintro Φ m x τ ⟨r,h0,h1,hm,rfl,rfl,hF⟩ next _
 simp only [chk_parts,zz,Nat.reduceEqDiff]
 cases m with
 | zero =>
  simp only [reachN] at hF
  have e : decide (((0 : Nat) : Int) > 0) = false := rfl
  subst hF
  simp only [e,zz,Nat.reduceEqDiff]
  exact ⟨trivial,rfl,trivial,trivial⟩
 | succ m =>
  have e : decide (((m + 1 : Nat) : Int) > 0) = true := decide_eq_true (by omega)
  have hk := ho r.toNat (by omega)
  rw [Int.toNat_of_nonneg h0] at hk
  have hix : vIndex 9 (pvSl pvRout c.routs) (.int .i64 r) = some (.eptr (pvRout (rAt c r)) 0) := idxI encRout zRout h0 (by omega)
  simp only [reachN] at hF
  simp only [e,hix,encRout.part,put_rout,rout_parts,zz,Nat.reduceEqDiff,Nat.reduceAdd]
  refine orG (decide ((rAt c r).level > ((m + 1 : Nat) : Int))) (fun _ J hJ => ?_) ?_
  ·exact hJ _ rfl
  refine orG (decide ((rAt c r).outer < 0)) (fun _ J hJ => ?_) ?_
  ·exact hJ _ rfl
  refine condB (fun hb => ?_) (fun hb => ?_)
  ·rw [if_pos hb] at hF
   subst hF
   exact weakW_keep hR
  ·rw [if_neg (by rw [hb]; simp)] at hF
   simp only [Bool.or_eq_false_iff,decide_eq_false_iff_not] at hb
   rw [vBin_sub _ (by omega) (by omega)]
   simp only [zz,Nat.reduceEqDiff]
   refine next _ _ m (by omega) ⟨(rAt c r).outer,by omega,by omega,by omega,?_,rfl,hF⟩
   congr 4
   simp
theorem oper_parts3 (o : OperS) : opC.vBoxAny (pvOper o) = some (3,pvOper o) ∧ vPart false 1 (pvOper o) 0 = some (.int .i64 o.k) ∧ vPart false 1 (pvOper o) 1 = some (.int .i64 o.a) ∧ vPart false 1 (pvOper o) 2 = some (.int .i64 o.b) := ⟨rfl,rfl,rfl,rfl⟩
theorem c118 {c : CodeS} (hf : Fit c) {i : Nat} (hi : i < c.routs.2.length) (a b : Int) {r : Int} (h0 : 0 ≤ r) (h1 : r ≤ i) (o : OperS) (ho : o.b < 9223372036854775808) (l : Int) (σ : St) : Ret W 118 [pvChk c a b,pvOper o,.int .u8 l,.int .i64 r] σ (.bool (operandS c o l r)) := by
 refine ret_of fun R hR => ?_
 rw [fn118_eq]
 delta fn118 bF pF gF nI
 have hout := hf.out hi
 have hlen : (i : Int) < len c.routs := by unfold len; omega
 have fin : ∀ b : Bool,operandS c o l r = b → weakW σ (.bool b) σ fun v σ => R (.ret v) σ := fun n hb => by
  rw [hb] at hR
  exact weakW_keep hR
 clear hR
 simp only [chk_parts,oper_parts3,zz,Nat.reduceEqDiff]
 refine condB (fun hk => ?_) (fun hk => ?_)
 ·simp only [beq_iff_eq] at hk
  refine orG (l == 111) (fun _ J hJ => hJ _ rfl) ?_
  refine andG (o.a == 0) (fun _ J hJ => hJ _ rfl) ?_
  refine andG (o.b == 0) (fun _ J hJ => hJ _ rfl) ?_
  refine fin _ ?_
  simp only [operandS,hk,if_true]
 simp only [beq_eq_false_iff_ne,ne_eq] at hk
 refine condB (fun hk1 => ?_) (fun hk1 => ?_)
 ·simp only [beq_iff_eq] at hk1
  refine (c228 hout hlen a b h0 h1 ho _).callB ?_
  simp only [pvPair,zz,Nat.reduceEqDiff]
  refine orG (l == 111) (fun _ J hJ => hJ _ rfl) ?_
  refine andG (reachS c r o.b).2 (fun _ J hJ => hJ _ rfl) ?_
  refine andG (inS o.a (len (mAt c (rAt c (reachS c r o.b).1).frame))) (fun hx J hJ => ?_) ?_
  ·simp only [Bool.and_eq_true] at hx
   obtain ⟨f0,f1⟩ := reach_in hout h0 h1 hx.2
   have hfr := hf.frame f0 (by omega)
   have hix : vIndex 9 (pvSl pvRout c.routs) (.int .i64 (reachS c r o.b).1) = some (.eptr (pvRout (rAt c (reachS c r o.b).1)) 0) := idxI encRout zRout f0 (by omega)
   have hix2 : vIndex 1 (pvSl pvMap c.maps) (.int .i64 (rAt c (reachS c r o.b).1).frame) = some (.eptr (pvMap (mAt c (rAt c (reachS c r o.b).1).frame)) 0) := idxI encMap (.nil,[]) hfr.1 hfr.2
   simp only [hix,hix2,fldE,rout_parts,map_part,sl_len,zz,Nat.reduceEqDiff,Nat.reduceAdd]
   refine (c42 _ _ _).callB ?_
   exact hJ _ rfl
  refine fin _ ?_
  simp only [operandS,hk,hk1,if_true,if_false]
  rfl
 simp only [beq_eq_false_iff_ne,ne_eq] at hk1
 refine condB (fun hk2 => ?_) (fun hk2 => ?_)
 ·simp only [beq_iff_eq] at hk2
  refine (c228 hout hlen a b h0 h1 ho _).callB ?_
  simp only [pvPair,zz,Nat.reduceEqDiff]
  refine andG (reachS c r o.b).2 (fun _ J hJ => hJ _ rfl) ?_
  refine andG (inS o.a (len (rAt c (reachS c r o.b).1).ranges)) (fun hx J hJ => ?_) ?_
  ·simp only [Bool.and_eq_true] at hx
   obtain ⟨f0,f1⟩ := reach_in hout h0 h1 hx.2
   have hix : vIndex 9 (pvSl pvRout c.routs) (.int .i64 (reachS c r o.b).1) = some (.eptr (pvRout (rAt c (reachS c r o.b).1)) 0) := idxI encRout zRout f0 (by omega)
   simp only [hix,fldE,rout_parts,sl_len,zz,Nat.reduceEqDiff,Nat.reduceAdd]
   refine (c42 _ _ _).callB ?_
   exact hJ _ rfl
  refine fin _ ?_
  simp only [operandS,hk,hk1,hk2,if_true,if_false]
  rfl
 simp only [beq_eq_false_iff_ne,ne_eq] at hk2
 refine fin _ ?_
 simp only [operandS,hk,hk1,hk2,if_false]
end Go.Proofs.YtgghfcchanilpaaGreatDoor
namespace Go.Proofs.YtgghfcchanilpaaGreatDoor
open Go Go.Abs
def inR (at_ : Int) (r : RoutS) : Bool := decide (at_ ≥ r.fr) && decide (at_ < r.to)
theorem c137 (r : RoutS) (at_ : Int) (σ : St) : Ret W 137 [pvRout r,.ptr σ.length 0 0 0] (σ ++ [.arr 0 1 [.int .i64 at_]]) (.bool (inR at_ r)) := by
 refine ret_of fun R hR => ?_
 rw [fn137_eq]
 delta fn137 bF pF gF
 have hl : vLoad false 1 (.ptr σ.length 0 0 0) (σ ++ [.arr 0 1 [.int .i64 at_]]) = some (.int .i64 at_) := by
  simp only [vLoad,new_get]
  rfl
 have hx : opC.vBoxAny (pvRout r) = some (9,pvRout r) := rfl
 simp only [hx,hl,rout_parts,zz,Nat.reduceEqDiff]
 unfold inR at hR
 refine andG (decide (at_ < r.to)) (fun _ J hJ => ?_) ?_
 ·exact hJ _ rfl
 exact weakW_keep hR
theorem c72 {c : CodeS} (hc : Okay c) (a b at_ : Int) (σ : St) : Ret W 72 [pvChk c a b,.int .i64 at_] σ (.int .i64 (idxOf (inR at_) c.routs.2 0)) := by
 refine ret_of fun R hR => ?_
 rw [fn72_eq]
 delta fn72 pF
 have hrl := hc.routs
 have hx : opC.vBoxAny (.int .i64 at_) = some (1,.int .i64 at_) := rfl
 have h01 : (0 : Nat) < 1 := by omega
 simp only [chk_parts,hx,newW_eq,h01,if_true,zz,Nat.reduceEqDiff]
 refine (c136 encRout (inR at_) (by kernel_rfl) (by omega) (fun r _ => c137 r at_ σ)).callB ?_
 exact weakW_clean (List.prefix_append _ _) (frz_same (.int _ _)) hR
def wideS (c : CodeS) (i : InstS) (l : Int) : Bool :=
 if l = 110 then true else if l = 104 then (i.n == 0) || (i.n == 1) else if l = 98 then decide (i.n ≥ 0) && decide (i.n ≤ 7)
 else if l = 77 ∧ ¬ i.s.k = 0 then decide (i.n ≥ 0) && decide (i.n < len c.maps) else i.n == 0
theorem inst_parts3 (i : InstS) : opC.vBoxAny (pvInst i) = some (12,pvInst i) ∧ vPart false 1 (pvInst i) 0 = some (.int .i64 i.op) ∧ vPart false 1 (pvInst i) 1 = some (.int .i64 i.s.k) ∧ vPart false 1 (pvInst i) 3 = some (.int .i64 i.s.b) ∧ vPart false 1 (pvInst i) 10 = some (.int .i64 i.n) ∧ vPart false 1 (pvInst i) 11 = some (.int .i64 i.k) := ⟨rfl,rfl,rfl,rfl,rfl,rfl⟩
theorem c119 (c : CodeS) (a b : Int) (i : InstS) (l r : Int) (σ : St) : Ret W 119 [pvChk c a b,pvInst i,.int .u8 l,.int .i64 r] σ (.bool (wideS c i l)) := by
 refine ret_of fun R hR => ?_
 rw [fn119_eq]
 delta fn119 bF pF gF kF nI
 have fin : ∀ b : Bool,wideS c i l = b → weakW σ (.bool b) σ fun v σ => R (.ret v) σ := fun n hb => by
  rw [hb] at hR
  exact weakW_keep hR
 clear hR
 simp only [chk_parts,inst_parts3,sl_len,zz,Nat.reduceEqDiff]
 refine CutW_by (fun x τ => x 5 = pvInst i ∧ τ = σ ∧ wideS c i l = (i.n == 0)) (fun x τ hx => ?_) ?_
 ·obtain ⟨h5,rfl,hw⟩ := hx
  simp only [h5,inst_parts3,zz,Nat.reduceEqDiff]
  exact fin _ hw
 refine condB (fun h1 => ?_) (fun h1 => ?_)
 ·simp only [beq_iff_eq] at h1
  refine fin _ ?_
  simp only [wideS,h1,if_true]
 simp only [beq_eq_false_iff_ne,ne_eq] at h1
 refine condB (fun h2 => ?_) (fun h2 => ?_)
 ·simp only [beq_iff_eq] at h2
  refine orG (i.n == 1) (fun _ J hJ => hJ _ rfl) ?_
  refine fin _ ?_
  simp only [wideS,h1,h2,if_true,if_false]
  rfl
 simp only [beq_eq_false_iff_ne,ne_eq] at h2
 refine condB (fun h3 => ?_) (fun h3 => ?_)
 ·simp only [beq_iff_eq] at h3
  refine andG (decide (i.n ≤ 7)) (fun _ J hJ => hJ _ rfl) ?_
  refine fin _ ?_
  simp only [wideS,h1,h2,h3,if_true,if_false]
  rfl
 simp only [beq_eq_false_iff_ne,ne_eq] at h3
 refine condB (fun h4 => ?_) (fun h4 => ?_)
 ·simp only [beq_iff_eq] at h4
  refine condB (fun h5 => ?_) (fun h5 => ?_)
  ·refine andG (decide (i.n < len c.maps)) (fun _ J hJ => hJ _ rfl) ?_
   refine fin _ ?_
   have h5' : ¬ i.s.k = 0 := by simpa using h5
   simp only [wideS,h4,h5',if_true,if_false,not_false_iff,and_self]
   rfl
  ·have h5' : i.s.k = 0 := by simpa using h5
   refine ⟨rfl,rfl,?_⟩
   simp only [wideS,h1,h2,h3,h5',if_false,not_true,and_false]
 ·simp only [beq_eq_false_iff_ne,ne_eq] at h4
  refine ⟨rfl,rfl,?_⟩
  simp only [wideS,h1,h2,h3,h4,if_false,false_and]
end Go.Proofs.YtgghfcchanilpaaGreatDoor
namespace Go.Proofs.YtgghfcchanilpaaGreatDoor
open Go Go.Abs
def mostS (c : CodeS) (rows idents : Int) (l : Int) : Int :=
 if l = 104 then 2 else if l = 100 then 3 else if l = 117 then 64 else if l = 111 ∨ l = 107 then 1000 else if l = 109 then len c.maps else if l = 116 then len c.texts
 else if l = 99 then len c.jumps else if l = 112 then len c.parts else if l = 120 then len c.trans else if l = 113 then rows else if l = 105 then idents else 1
def inRout (c : CodeS) (r k : Int) : Bool := decide ((rAt c r).fr ≤ k) && decide (k < (rAt c r).to)
def secondS (c : CodeS) (rows idents : Int) (i : InstS) (l r : Int) : Bool :=
 if l = 101 then decide (i.k ≥ -1000) && decide (i.k ≤ 1000) else if l = 68 then decide (i.k ≥ 1) && decide (i.k ≤ 3)
 else if l = 102 then (decide (i.k > 0) && decide (i.k < len c.routs)) && ((rAt c i.k).outer == r)
 else if l = 103 then decide (i.k > 0) && decide (i.k < len (rAt c r).ranges)
 else if l = 106 then inRout c r i.k else if l = 74 then inRout c (outerR c r i.s.b).1 i.k
 else inS i.k (mostS c rows idents l)
theorem condL {l x : Int} {A B : Prop} (h1 : l = x → A) (h2 : ¬ l = x → B) : condW (.bool (l == x)) A B :=
 condB (fun h => h1 (by simpa using h)) (fun h => h2 (by simpa using h))
theorem outerR_in {c : CodeS} {i : Nat} (ho : OutOk c i) {r n : Int} (h0 : 0 ≤ r) (h1 : r ≤ i) : 0 ≤ (outerR c r n).1 ∧ (outerR c r n).1 ≤ i := by
 unfold outerR
 have := furS_bound ho n.toNat r (by omega) h1
 split
 ·exact ⟨Int.le_refl _,by simp⟩
 ·split
  ·exact ⟨Int.le_refl _,by simp⟩
  ·simp only
   omega
theorem c120 {c : CodeS} (hf : Fit c) {n : Nat} (hi : n < c.routs.2.length) (a b : Int) (i : InstS) (hb : i.s.b < 9223372036854775808) (l : Int) {r : Int} (h0 : 0 ≤ r) (h1 : r ≤ n) (σ : St) :
  Ret W 120 [pvChk c a b,pvInst i,.int .u8 l,.int .i64 r] σ (.bool (secondS c a b i l r)) := by
 refine ret_of fun R hR => ?_
 rw [fn120_eq]
 delta fn120 bF pF gF kF nI
 have hout := hf.out hi
 have hlen : (n : Int) < len c.routs := by unfold len; omega
 have fin : ∀ v : Bool,secondS c a b i l r = v → weakW σ (.bool v) σ fun v σ => R (.ret v) σ := fun v hv => by
  rw [hv] at hR
  exact weakW_keep hR
 clear hR
 have hix : vIndex 9 (pvSl pvRout c.routs) (.int .i64 r) = some (.eptr (pvRout (rAt c r)) 0) := idxI encRout zRout h0 (by omega)
 simp only [chk_parts,inst_parts3,sl_len,hix,fldE,rout_parts,zz,Nat.reduceEqDiff,Nat.reduceAdd]
 refine CutW_by (fun x τ => x 9 = .int .i64 i.k ∧ τ = σ ∧ ∃ m,x 10 = .int .i64 m ∧ secondS c a b i l r = inS i.k m) (fun x τ hx => ?_) ?_
 ·obtain ⟨h9,rfl,m,h10,hw⟩ := hx
  simp only [h9,h10]
  refine (c42 _ _ _).callB ?_
  exact fin _ hw
 have fin2 : ∀ m : Int,secondS c a b i l r = inS i.k m → ∀ x : Nat → PV,x 9 = .int .i64 i.k → x 10 = .int .i64 m → x 9 = .int .i64 i.k ∧ σ = σ ∧ ∃ m,x 10 = .int .i64 m ∧ secondS c a b i l r = inS i.k m := fun m h x h9 h10 => ⟨h9,rfl,m,h10,h⟩
 repeat' first
  | contradiction
  | refine condL (fun hl => ?_) (fun hl => ?_)
 all_goals try (refine fin2 _ ?_ _ rfl rfl; clear fin fin2 hix; first | (subst hl; rfl) | (simp only [secondS,mostS, *,if_false,or_self]))
 ·refine andG (decide (i.k ≤ 1000)) (fun _ J hJ => hJ _ rfl) ?_
  refine fin _ ?_
  clear fin fin2 hix
  subst hl
  rfl
 ·refine andG (decide (i.k ≤ 3)) (fun _ J hJ => hJ _ rfl) ?_
  refine fin _ ?_
  clear fin fin2 hix
  subst hl
  rfl
 ·refine andG (decide (i.k < len c.routs)) (fun _ J hJ => hJ _ rfl) ?_
  refine andG ((rAt c i.k).outer == r) (fun hx J hJ => ?_) ?_
  ·simp only [Bool.and_eq_true,decide_eq_true_eq] at hx
   have hix2 : vIndex 9 (pvSl pvRout c.routs) (.int .i64 i.k) = some (.eptr (pvRout (rAt c i.k)) 0) := idxI encRout zRout (by omega) hx.2
   simp only [hix2,fldE,rout_parts,zz,Nat.reduceEqDiff,Nat.reduceAdd]
   exact hJ _ rfl
  refine fin _ ?_
  clear fin fin2 hix
  subst hl
  rfl
 ·refine andG (decide (i.k < len (rAt c r).ranges)) (fun _ J hJ => ?_) ?_
  ·try simp only [hix,fldE,rout_parts,sl_len,zz,Nat.reduceEqDiff,Nat.reduceAdd]
   exact hJ _ rfl
  refine fin _ ?_
  clear fin fin2 hix
  subst hl
  rfl
 ·refine andG (decide (i.k < (rAt c r).to)) (fun _ J hJ => ?_) ?_
  ·try simp only [hix,fldE,rout_parts,zz,Nat.reduceEqDiff,Nat.reduceAdd]
   exact hJ _ rfl
  refine fin _ ?_
  clear fin fin2 hix
  subst hl
  rfl
 ·refine (c227 hout hlen a b h0 h1 hb _).callB ?_
  obtain ⟨g0,g1⟩ := outerR_in (n := i.s.b) hout h0 h1
  have hix3 : vIndex 9 (pvSl pvRout c.routs) (.int .i64 (outerR c r i.s.b).1) = some (.eptr (pvRout (rAt c (outerR c r i.s.b).1)) 0) := idxI encRout zRout g0 (by omega)
  simp only [pvPair,hix3,fldE,rout_parts,zz,Nat.reduceEqDiff,Nat.reduceAdd]
  refine andG (decide (i.k < (rAt c (outerR c r i.s.b).1).to)) (fun _ J hJ => ?_) ?_
  ·exact hJ _ rfl
  refine fin _ ?_
  clear fin fin2 hix
  subst hl
  rfl
end Go.Proofs.YtgghfcchanilpaaGreatDoor
