import Derived.Test.YtgghfcchanilpaaGreatDoorSpT
set_option linter.unusedVariables false
set_option linter.unusedSimpArgs false
namespace Go.Proofs.YtgghfcchanilpaaGreatDoor
open Go Go.Abs
def outB (r : RoutS) (k : Int) : Bool := decide (k < r.fr) || decide (k ≥ r.to)
def partB (k : Int) : Bool := decide (k < -1) || decide (k ≥ 64)
theorem c229 (r : RoutS) (k : Int) (σ : St) : Ret W 229 [.int .i64 k, .ptr σ.length 0 0 0] (σ ++ [.arr 0 9 [pvRout r]]) (.bool (outB r k)) := by
 refine ret_of fun R hR => ?_
 rw [fn229_eq]
 unfold fn229
 have hl2 : vLoad false 1 (.ptr σ.length 0 0 2) (σ ++ [.arr 0 9 [pvRout r]]) = some (.int .i64 r.fr) := by
  simp only [vLoad, new_get]
  rfl
 have hl3 : vLoad false 1 (.ptr σ.length 0 0 3) (σ ++ [.arr 0 9 [pvRout r]]) = some (.int .i64 r.to) := by
  simp only [vLoad, new_get]
  rfl
 simp only [fld, hl2, hl3, zz, Nat.reduceEqDiff, Nat.reduceAdd]
 refine orG (decide (k ≥ r.to)) (fun _ J hJ => hJ _ rfl) ?_
 exact weakW_keep hR
theorem c230 (k : Int) (σ : St) : Ret W 230 [.int .i64 k] σ (.bool (partB k)) := by
 refine ret_of fun R hR => ?_
 rw [fn230_eq]
 unfold fn230
 simp only [zz, Nat.reduceEqDiff]
 refine orG (decide (k ≥ 64)) (fun _ J hJ => hJ _ rfl) ?_
 exact weakW_keep hR
theorem st_rout (σ : St) (r : RoutS) : vStore 9 (.ptr σ.length 0 0 0) (pvRout r) (σ ++ [.arr 0 9 [.agg [(.int .i64 0), (.int .i64 0), (.int .i64 0), (.int .i64 0), (.int .i64 0), (.int .i64 0), (.int .i64 0), (.int .i64 0), (.list .nil [])]]]) = some (σ ++ [.arr 0 9 [pvRout r]]) := by
 simp [vStore, put_rout]
def jumpB (c : CodeS) (i : InstS) (r : Int) : Bool := (len (atI (.nil, []) c.jumps i.k) == 0) || (atI (.nil, []) c.jumps i.k).2.any (outB (rAt c r))
def tableS (c : CodeS) (i : InstS) (r : Int) : Int :=
 if i.op = 11 ∨ i.op = 12 ∨ i.op = 19 then (if jumpB c i r then 11 else 0)
 else if i.op = 23 then (if (atI (.nil, []) c.parts i.k).2.any partB then 11 else 0) else 0
theorem c121 {c : CodeS} (hc : Okay c) (a b : Int) (i : InstS) {r : Int} (h0 : 0 ≤ r) (h1 : r < len c.routs) (hjk : i.op = 11 ∨ i.op = 12 ∨ i.op = 19 → 0 ≤ i.k ∧ i.k < len c.jumps) (hpk : i.op = 23 → 0 ≤ i.k ∧ i.k < len c.parts) (σ : St) :
  Ret W 121 [pvChk c a b, pvInst i, .int .i64 r] σ (.int .i64 (tableS c i r)) := by
 refine ret_of fun R hR => ?_
 rw [fn121_eq]
 unfold fn121
 have fin : ∀ (τ : St), σ <+: τ → ∀ v : Int, tableS c i r = v → weakW σ (.int .i64 v) τ fun v σ => R (.ret v) σ := fun τ hp v hv => by
  rw [hv] at hR
  exact weakW_clean hp (frz_same (.int _ _)) hR
 clear hR
 have hixr : vIndex 9 (pvSl pvRout c.routs) (.int .i64 r) = some (.eptr (pvRout (rAt c r)) 0) := idxI encRout zRout h0 h1
 have h09 : (0 : Nat) < 9 := by omega
 simp only [chk_parts, inst_parts3, zz, Nat.reduceEqDiff]
 refine CutW_by (fun x τ => tableS c i r = 0 ∧ σ <+: τ) (fun x τ hx => fin τ hx.2 0 hx.1) ?_
 refine condL (fun hl => ?_) (fun hl1 => ?_)
 ·refine condL (fun hl => ?_) (fun hn => absurd hl hn)
  have hk := hjk (by omega)
  have hix : vIndex 1 (pvSl pvInts c.jumps) (.int .i64 i.k) = some (.eptr (pvInts (atI (.nil, []) c.jumps i.k)) 0) := idxI encInts (.nil, []) hk.1 hk.2
  have hts : tableS c i r = if jumpB c i r then 11 else 0 := by
   simp only [tableS]
   rw [if_pos (by omega)]
  have htl : (atI (.nil, []) c.jumps i.k).2.length ≤ 1048576 := by
   unfold atI
   rw [List.getD_eq_getElem?_getD]
   cases hq : c.jumps.2[i.k.toNat]? with
   | none => simp
   | some m => exact hc.jump m (List.mem_of_getElem? hq)
  unfold jumpB at hts
  generalize atI (.nil, []) c.jumps i.k = t at hix hts htl
  have hlt : ∀ σ : St, vLen .sl (pvInts t) σ = some (.int .i64 (len t)) := fun σ => sl_len _ _ _
  simp only [hix, encInts.part, hixr, encRout.part, newW_eq, st_rout, h09, if_true, hlt, zz, Nat.reduceEqDiff]
  refine orG (t.2.any (outB (rAt c r))) (fun _ J hJ => ?_) ?_
  ·refine (c113 encI (outB (rAt c r)) (by kernel_rfl) (by omega) (fun m _ => c229 (rAt c r) m σ)).callB ?_
   exact hJ _ rfl
  refine condB (fun hb => ?_) (fun hb => ?_)
  ·rw [hb, if_pos rfl] at hts
   exact fin _ (List.prefix_append _ _) 11 hts
  ·rw [hb, if_neg (by simp)] at hts
   exact ⟨hts, List.prefix_append _ _⟩
 refine condL (fun hl => ?_) (fun hl2 => ?_)
 ·refine condL (fun hl => ?_) (fun hn => absurd hl hn)
  have hk := hjk (by omega)
  have hix : vIndex 1 (pvSl pvInts c.jumps) (.int .i64 i.k) = some (.eptr (pvInts (atI (.nil, []) c.jumps i.k)) 0) := idxI encInts (.nil, []) hk.1 hk.2
  have hts : tableS c i r = if jumpB c i r then 11 else 0 := by
   simp only [tableS]
   rw [if_pos (by omega)]
  have htl : (atI (.nil, []) c.jumps i.k).2.length ≤ 1048576 := by
   unfold atI
   rw [List.getD_eq_getElem?_getD]
   cases hq : c.jumps.2[i.k.toNat]? with
   | none => simp
   | some m => exact hc.jump m (List.mem_of_getElem? hq)
  unfold jumpB at hts
  generalize atI (.nil, []) c.jumps i.k = t at hix hts htl
  have hlt : ∀ σ : St, vLen .sl (pvInts t) σ = some (.int .i64 (len t)) := fun σ => sl_len _ _ _
  simp only [hix, encInts.part, hixr, encRout.part, newW_eq, st_rout, h09, if_true, hlt, zz, Nat.reduceEqDiff]
  refine orG (t.2.any (outB (rAt c r))) (fun _ J hJ => ?_) ?_
  ·refine (c113 encI (outB (rAt c r)) (by kernel_rfl) (by omega) (fun m _ => c229 (rAt c r) m σ)).callB ?_
   exact hJ _ rfl
  refine condB (fun hb => ?_) (fun hb => ?_)
  ·rw [hb, if_pos rfl] at hts
   exact fin _ (List.prefix_append _ _) 11 hts
  ·rw [hb, if_neg (by simp)] at hts
   exact ⟨hts, List.prefix_append _ _⟩
 refine condL (fun hl => ?_) (fun hl3 => ?_)
 ·have hk := hjk (by omega)
  have hix : vIndex 1 (pvSl pvInts c.jumps) (.int .i64 i.k) = some (.eptr (pvInts (atI (.nil, []) c.jumps i.k)) 0) := idxI encInts (.nil, []) hk.1 hk.2
  have hts : tableS c i r = if jumpB c i r then 11 else 0 := by
   simp only [tableS]
   rw [if_pos (by omega)]
  have htl : (atI (.nil, []) c.jumps i.k).2.length ≤ 1048576 := by
   unfold atI
   rw [List.getD_eq_getElem?_getD]
   cases hq : c.jumps.2[i.k.toNat]? with
   | none => simp
   | some m => exact hc.jump m (List.mem_of_getElem? hq)
  unfold jumpB at hts
  generalize atI (.nil, []) c.jumps i.k = t at hix hts htl
  have hlt : ∀ σ : St, vLen .sl (pvInts t) σ = some (.int .i64 (len t)) := fun σ => sl_len _ _ _
  simp only [hix, encInts.part, hixr, encRout.part, newW_eq, st_rout, h09, if_true, hlt, zz, Nat.reduceEqDiff]
  refine orG (t.2.any (outB (rAt c r))) (fun _ J hJ => ?_) ?_
  ·refine (c113 encI (outB (rAt c r)) (by kernel_rfl) (by omega) (fun m _ => c229 (rAt c r) m σ)).callB ?_
   exact hJ _ rfl
  refine condB (fun hb => ?_) (fun hb => ?_)
  ·rw [hb, if_pos rfl] at hts
   exact fin _ (List.prefix_append _ _) 11 hts
  ·rw [hb, if_neg (by simp)] at hts
   exact ⟨hts, List.prefix_append _ _⟩
 refine condL (fun hl => ?_) (fun hl4 => ?_)
 ·have hk := hpk hl
  have hix : vIndex 1 (pvSl pvInts c.parts) (.int .i64 i.k) = some (.eptr (pvInts (atI (.nil, []) c.parts i.k)) 0) := idxI encInts (.nil, []) hk.1 hk.2
  have hts : tableS c i r = if (atI (.nil, []) c.parts i.k).2.any partB then 11 else 0 := by
   simp only [tableS]
   rw [if_neg (by omega), if_pos hl]
  have htl : (atI (.nil, []) c.parts i.k).2.length ≤ 1048576 := by
   unfold atI
   rw [List.getD_eq_getElem?_getD]
   cases hq : c.parts.2[i.k.toNat]? with
   | none => simp
   | some m => exact hc.part m (List.mem_of_getElem? hq)
  generalize atI (.nil, []) c.parts i.k = t at hix hts htl
  simp only [hix, encInts.part, zz, Nat.reduceEqDiff]
  refine (c113 encI partB (by kernel_rfl) (by omega) (fun m _ => c230 m σ)).callB ?_
  refine condB (fun hb => ?_) (fun hb => ?_)
  ·rw [hb, if_pos rfl] at hts
   exact fin _ (List.prefix_refl _) 11 hts
  ·rw [hb, if_neg (by simp)] at hts
   exact ⟨hts, List.prefix_refl _⟩
 ·refine ⟨?_, List.prefix_refl _⟩
  simp only [tableS]
  rw [if_neg (by omega), if_neg hl4]
end Go.Proofs.YtgghfcchanilpaaGreatDoor
