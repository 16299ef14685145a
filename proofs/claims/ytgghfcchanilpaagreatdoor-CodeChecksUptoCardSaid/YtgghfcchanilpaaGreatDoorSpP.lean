import Derived.Test.YtgghfcchanilpaaGreatDoorSpO
set_option linter.unusedVariables false
set_option linter.unusedSimpArgs false
namespace Go.Proofs.YtgghfcchanilpaaGreatDoor
open Go Go.Abs
def longB (l : Sl (Sl Int)) : Bool := longL l || decide (len l > 16384)
theorem c122 {l : Sl (Sl Int)} (hl : l.2.length ≤ 1048576) (σ : St) : Ret W 122 [pvSl pvInts l] σ (.bool (longB l)) := by
 refine ret_of fun R hR => ?_
 rw [fn122_eq]
 unfold fn122
 simp only [zz, Nat.reduceEqDiff]
 refine CutW_by (fun x τ => x 0 = pvSl pvInts l ∧ τ = σ ∧ longL l = false) (fun x τ hx => ?_) ?_
 ·obtain ⟨h0, rfl, hb⟩ := hx
  unfold longB at hR
  rw [hb, Bool.false_or] at hR
  simp only [h0, sl_len, zz, Nat.reduceEqDiff]
  exact weakW_keep hR
 refine Lfp_any l.2 (fun t => decide (len t > 4000)) (fun j => lookP [(0, pvSl pvInts l), (3, .int .i64 j)]) _ rfl (fun hb Φ => ?_) (fun Φ j t hg hmem hj hit next => ?_)
 ·simp only [sl_len, not_lt_len, Nat.lt_irrefl, decide_false, zz, Nat.reduceEqDiff]
  exact ⟨trivial, trivial, hb⟩
 have ht : vLen .sl (pvInts t) σ = some (.int .i64 (len t)) := sl_len _ _ _
 simp only [sl_len, lt_len hj, hj, decide_true, sl_idx encInts hg, encInts.part, ht, zz, Nat.reduceEqDiff]
 refine condB (fun hb => ?_) (fun hb => ?_)
 ·have h1 : longL l = true := hit hb
  unfold longB at hR
  rw [h1, Bool.true_or] at hR
  exact weakW_keep hR
 ·rw [vBin_add _ (by omega) (by omega)]
  simp only [zz, Nat.reduceEqDiff]
  exact next hb
theorem over_eq (c : CodeS) : overB c = ((decide (len c.insts > 16384) || decide (len c.maps > 16384) || decide (len c.sigs > 16384) || decide (len c.routs > 16384) || decide (len c.texts > 16384) || decide (len c.trans > 16384) || decide (len c.lines > 16384) || longB c.unions || longB c.jumps || longB c.parts) ||
   (c.maps.2.any fun m => decide (len m > 1000)) || (c.routs.2.any fun r => decide (len r.ranges > 4000)) || (c.texts.2.any fun s => decide ((s.length : Int) > 65536))) := by
  simp only [overB, lensOver, innerOver, longB, List.any_cons, List.any_nil]
  generalize decide (len c.insts > 16384) = b1
  generalize decide (len c.maps > 16384) = b2
  generalize decide (len c.sigs > 16384) = b3
  generalize decide (len c.routs > 16384) = b4
  generalize decide (len c.texts > 16384) = b5
  generalize decide (len c.trans > 16384) = b6
  generalize decide (len c.lines > 16384) = b7
  generalize decide (len c.unions > 16384) = b8
  generalize decide (len c.jumps > 16384) = b9
  generalize decide (len c.parts > 16384) = b10
  generalize longL c.unions = d1
  generalize longL c.jumps = d2
  generalize longL c.parts = d3
  generalize (c.maps.2.any fun m => decide (len m > 1000)) = d4
  generalize (c.routs.2.any fun r => decide (len r.ranges > 4000)) = d5
  generalize (c.texts.2.any fun s => decide ((s.length : Int) > 65536)) = d6
  simp only [Bool.or_false]
  ac_rfl
theorem c64 {c : CodeS} (hc : Okay c) (σ : St) : Ret W 64 [pvCode c] σ (.bool (!overB c)) := by
 refine ret_of fun R hR => ?_
 rw [fn64_eq]
 unfold fn64
 have hm := hc.maps
 have hu := hc.unions
 have hr := hc.routs
 have ht := hc.texts
 have fin : ∀ b : Bool, overB c = !b → weakW σ (.bool b) σ fun v σ => R (.ret v) σ := fun n hb => by
  rw [hb, Bool.not_not] at hR
  exact weakW_keep hR
 clear hR
 have hov := over_eq c
 simp only [code_parts, sl_len, zz, Nat.reduceEqDiff]
 refine orG (decide (len c.maps > 16384)) (fun _ J hJ => hJ _ rfl) ?_
 refine orG (decide (len c.sigs > 16384)) (fun _ J hJ => hJ _ rfl) ?_
 refine orG (decide (len c.routs > 16384)) (fun _ J hJ => hJ _ rfl) ?_
 refine orG (decide (len c.texts > 16384)) (fun _ J hJ => hJ _ rfl) ?_
 refine orG (decide (len c.trans > 16384)) (fun _ J hJ => hJ _ rfl) ?_
 refine orG (decide (len c.lines > 16384)) (fun _ J hJ => hJ _ rfl) ?_
 refine orG (longB c.unions) (fun _ J hJ => ?_) ?_
 ·refine (c122 hc.unions _).callB ?_
  exact hJ _ rfl
 refine orG (longB c.jumps) (fun _ J hJ => ?_) ?_
 ·refine (c122 hc.jumps _).callB ?_
  exact hJ _ rfl
 refine orG (longB c.parts) (fun _ J hJ => ?_) ?_
 ·refine (c122 hc.parts _).callB ?_
  exact hJ _ rfl
 refine condB (fun hb => ?_) (fun hb => ?_)
 ·refine fin _ ?_
  rw [hov, hb]
  rfl
 rw [hb, Bool.false_or] at hov
 clear hb
 refine CutW_by (fun x τ => x 1 = pvCode c ∧ τ = σ ∧ (c.maps.2.any fun m => decide (len m > 1000)) = false) (fun x τ hx => ?_) ?_
 case refine_2 =>
  refine Lfp_any c.maps.2 (fun m => decide (len m > 1000)) (fun j => lookP [(3, .int .i64 j), (1, pvCode c)]) _ rfl (fun hb Φ => ?_) (fun Φ j m hg hmem hj hit next => ?_)
  ·simp only [code_parts, sl_len, not_lt_len, Nat.lt_irrefl, decide_false, zz, Nat.reduceEqDiff]
   exact ⟨trivial, trivial, hb⟩
  simp only [code_parts, sl_len, lt_len hj, hj, decide_true, sl_idx encMap hg, fldE, map_part, zz, Nat.reduceEqDiff, Nat.reduceAdd]
  refine condB (fun hb => ?_) (fun hb => ?_)
  ·refine fin _ ?_
   rw [hov, hit hb]
   rfl
  ·rw [vBin_add _ (by omega) (by omega)]
   simp only [zz, Nat.reduceEqDiff]
   exact next hb
 obtain ⟨h1, rfl, hb1⟩ := hx
 rw [hb1, Bool.false_or] at hov
 simp only [h1]
 clear h1 x
 refine CutW_by (fun x τ' => x 1 = pvCode c ∧ τ' = τ ∧ (c.routs.2.any fun r => decide (len r.ranges > 4000)) = false) (fun x τ' hx => ?_) ?_
 case refine_2 =>
  refine Lfp_any c.routs.2 (fun r => decide (len r.ranges > 4000)) (fun j => lookP [(4, .int .i64 j), (1, pvCode c)]) _ rfl (fun hb Φ => ?_) (fun Φ j r hg hmem hj hit next => ?_)
  ·simp only [code_parts, sl_len, not_lt_len, Nat.lt_irrefl, decide_false, zz, Nat.reduceEqDiff]
   exact ⟨trivial, trivial, hb⟩
  simp only [code_parts, sl_len, lt_len hj, hj, decide_true, sl_idx encRout hg, fldE, rout_parts, zz, Nat.reduceEqDiff, Nat.reduceAdd]
  refine condB (fun hb => ?_) (fun hb => ?_)
  ·refine fin _ ?_
   rw [hov, hit hb]
   rfl
  ·rw [vBin_add _ (by omega) (by omega)]
   simp only [zz, Nat.reduceEqDiff]
   exact next hb
 obtain ⟨h1, rfl, hb2⟩ := hx
 rw [hb2, Bool.false_or] at hov
 simp only [h1]
 clear h1 x
 refine CutW_by (fun x τ => τ = τ' ∧ (c.texts.2.any fun s => decide ((s.length : Int) > 65536)) = false) (fun x τ hx => ?_) ?_
 case refine_2 =>
  refine Lfp_any c.texts.2 (fun s => decide ((s.length : Int) > 65536)) (fun j => lookP [(5, .int .i64 j), (1, pvCode c)]) _ rfl (fun hb Φ => ?_) (fun Φ j s hg hmem hj hit next => ?_)
  ·simp only [code_parts, sl_len, not_lt_len, Nat.lt_irrefl, decide_false, zz, Nat.reduceEqDiff]
   exact ⟨trivial, hb⟩
  simp only [code_parts, sl_len, lt_len hj, hj, decide_true, sl_idx encStr hg, encStr.part, zz, Nat.reduceEqDiff, Nat.reduceAdd]
  refine condB (fun hb => ?_) (fun hb => ?_)
  ·refine fin _ ?_
   rw [hov, hit hb]
   rfl
  ·rw [vBin_add _ (by omega) (by omega)]
   simp only [zz, Nat.reduceEqDiff]
   exact next hb
 obtain ⟨rfl, hb3⟩ := hx
 refine fin _ ?_
 rw [hov, hb3]
 rfl
end Go.Proofs.YtgghfcchanilpaaGreatDoor
