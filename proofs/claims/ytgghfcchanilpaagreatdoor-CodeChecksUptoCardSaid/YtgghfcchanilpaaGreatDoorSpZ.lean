import Derived.Test.YtgghfcchanilpaaGreatDoorSpX
set_option linter.unusedVariables false
set_option linter.unusedSimpArgs false
namespace Go.Proofs.YtgghfcchanilpaaGreatDoor
open Go Go.Abs
theorem c133 (c : CodeS) (i : InstS) (l : Int) (σ : St) : Ret W 133 [pvCode c, pvInst i, .int .u8 l] σ (.bool (wideS c i l)) := by
 refine ret_of fun R hR => ?_
 rw [fn133_eq]
 unfold fn133
 have fin : ∀ b : Bool, wideS c i l = b → weakW σ (.bool b) σ fun v σ => R (.ret v) σ := fun n hb => by
  rw [hb] at hR
  exact weakW_keep hR
 clear hR
 simp only [code_parts, inst_parts3, sl_len, zz, Nat.reduceEqDiff]
 repeat' first
  | (refine CutW_of ?_; try simp only [code_parts, inst_parts3, sl_len, zz, Nat.reduceEqDiff])
  | (refine condL (fun hl => ?_) (fun hl => ?_))
  | (refine guardB (fun hb => ?_) (fun hb => ?_) <;> simp only [hb, zz, Nat.reduceEqDiff])
  | refine fin _ ?_
 all_goals (clear fin; rw [Bool.eq_iff_iff]; unfold wideS; (repeat' split) <;> (try simp_all) <;> (try omega))
theorem c135 {c : CodeS} {r : Int} (h1 : r < len c.routs) (k : Int) (σ : St) : Ret W 135 [pvCode c, .int .i64 r, .int .i64 k] σ (.bool (decide (r ≥ 0) && inRout c r k)) := by
 refine ret_of fun R hR => ?_
 rw [fn135_eq]
 unfold fn135
 simp only [code_parts, zz, Nat.reduceEqDiff]
 unfold inRout at hR
 rw [← Bool.and_assoc] at hR
 have hix : r ≥ 0 → vIndex 9 (pvSl pvRout c.routs) (.int .i64 r) = some (.eptr (pvRout (rAt c r)) 0) := fun h => idxI encRout zRout h h1
 refine andG (decide (k ≥ (rAt c r).fr)) (fun hx J hJ => ?_) ?_
 ·simp only [decide_eq_true_eq] at hx
  simp only [hix hx, fldE, rout_parts, zz, Nat.reduceEqDiff, Nat.reduceAdd]
  exact hJ _ rfl
 refine andG (decide (k < (rAt c r).to)) (fun hx J hJ => ?_) ?_
 ·simp only [Bool.and_eq_true, decide_eq_true_eq] at hx
  simp only [hix hx.1, fldE, rout_parts, zz, Nat.reduceEqDiff, Nat.reduceAdd]
  exact hJ _ rfl
 exact weakW_keep hR
end Go.Proofs.YtgghfcchanilpaaGreatDoor
namespace Go.Proofs.YtgghfcchanilpaaGreatDoor
open Go Go.Abs
def numberS (c : CodeS) (rows idents : Int) (i : InstS) (l r : Int) : Bool :=
 if l = 74 then decide (furR c r i.s.b ≥ 0) && inRout c (furR c r i.s.b) i.k else secondS c rows idents i l r
theorem c134 {c : CodeS} (hc : Okay c) (hf : Fit c) {n : Nat} (hi : n < c.routs.2.length) (a b : Int) (i : InstS) (l : Int) {r : Int} (h0 : 0 ≤ r) (h1 : r ≤ n) (σ : St) :
  Ret W 134 [pvCode c, .int .i64 r, pvInst i, .int .u8 l, .int .i64 a, .int .i64 b] σ (.bool (numberS c a b i l r)) := by
 refine ret_of fun R hR => ?_
 rw [fn134_eq]
 unfold fn134
 have hout := hf.out hi
 have hlen : (n : Int) < len c.routs := by unfold len; omega
 have fin : ∀ v : Bool, numberS c a b i l r = v → weakW σ (.bool v) σ fun v σ => R (.ret v) σ := fun v hv => by
  rw [hv] at hR
  exact weakW_keep hR
 clear hR
 have hix : vIndex 9 (pvSl pvRout c.routs) (.int .i64 r) = some (.eptr (pvRout (rAt c r)) 0) := idxI encRout zRout h0 (by omega)
 simp only [code_parts, inst_parts3, sl_len, hix, fldE, rout_parts, zz, Nat.reduceEqDiff, Nat.reduceAdd]
 refine CutW_by (fun x τ => x 13 = .int .i64 i.k ∧ τ = σ ∧ numberS c a b i l r = (i.k == 0)) (fun x τ hx => ?_) ?_
 ·obtain ⟨h9, rfl, hw⟩ := hx
  simp only [h9, zz, Nat.reduceEqDiff]
  exact fin _ hw
 repeat' first
  | contradiction
  | refine condL (fun hl => ?_) (fun hl => ?_)
  | (refine (c75 _ _ _).callB ?_; refine fin _ ?_; clear fin hix; subst hl; rfl)
 ·refine andG (decide (i.k ≤ 1000)) (fun _ J hJ => hJ _ rfl) ?_
  refine fin _ ?_
  clear fin hix
  subst hl
  rfl
 ·refine andG (decide (i.k ≤ 3)) (fun _ J hJ => hJ _ rfl) ?_
  refine fin _ ?_
  clear fin hix
  subst hl
  rfl
 ·refine andG (decide (i.k < len c.routs)) (fun _ J hJ => hJ _ rfl) ?_
  refine andG ((rAt c i.k).outer == r) (fun hx J hJ => ?_) ?_
  ·simp only [Bool.and_eq_true, decide_eq_true_eq] at hx
   have hix2 : vIndex 9 (pvSl pvRout c.routs) (.int .i64 i.k) = some (.eptr (pvRout (rAt c i.k)) 0) := idxI encRout zRout (by omega) hx.2
   simp only [hix2, fldE, rout_parts, zz, Nat.reduceEqDiff, Nat.reduceAdd]
   exact hJ _ rfl
  refine fin _ ?_
  clear fin hix
  subst hl
  rfl
 ·refine andG (decide (i.k < len (rAt c r).ranges)) (fun _ J hJ => ?_) ?_
  ·try simp only [hix, fldE, rout_parts, sl_len, zz, Nat.reduceEqDiff, Nat.reduceAdd]
   exact hJ _ rfl
  refine fin _ ?_
  clear fin hix
  subst hl
  rfl
 ·refine (c135 (by omega) _ _).callB ?_
  refine fin _ ?_
  clear fin hix
  subst hl
  rw [decide_eq_true h0, Bool.true_and]
  rfl
 ·refine (c125 hc hout hlen (by omega) h1 _).callB ?_
  have hfb : furR c r i.s.b < len c.routs := by
   unfold furR
   split
   ·omega
   ·have := furS_bound hout i.s.b.toNat r (by omega) h1
    omega
  refine (c135 hfb _ _).callB ?_
  refine fin _ ?_
  clear fin hix
  subst hl
  rfl
 ·refine ⟨rfl, rfl, ?_⟩
  clear fin hix
  simp only [numberS, secondS, mostS, *, if_false, or_self, inS]
  rw [Bool.eq_iff_iff]
  simp only [Bool.and_eq_true, decide_eq_true_eq, beq_iff_eq]
  omega
end Go.Proofs.YtgghfcchanilpaaGreatDoor
