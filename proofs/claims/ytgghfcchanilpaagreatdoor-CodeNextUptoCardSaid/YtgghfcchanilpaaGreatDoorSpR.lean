import Derived.Test.YtgghfcchanilpaaGreatDoorPlF
import Derived.Test.YtgghfcchanilpaaGreatDoorSpQ
set_option linter.unusedVariables false
set_option linter.unusedSimpArgs false
namespace Go.Abs
theorem headBad_of {c : CodeS} {k : Nat} (h : routE c k = 0) : headBad c k = false := by
 cases hb : headBad c k with
 | false => rfl
 | true =>
  simp only [routE, hb, if_true] at h
  omega
structure Fit (c : CodeS) : Prop where
 routs : ∀ i, i < c.routs.2.length → routE c i = 0
theorem Fit.out {c : CodeS} (h : Fit c) {i : Nat} (hi : i < c.routs.2.length) : OutOk c i := outOk_of fun k hk => headBad_of (h.routs k (by omega))
theorem Fit.frame {c : CodeS} (h : Fit c) {f : Int} (h0 : 0 ≤ f) (h1 : f < len c.routs) : 0 ≤ (rAt c f).frame ∧ (rAt c f).frame < len c.maps := by
 obtain ⟨n, rfl⟩ := Int.eq_ofNat_of_zero_le h0
 have := headBad_of (h.routs n (by unfold len at h1; omega))
 simp only [headBad, Bool.or_eq_false_iff, Bool.not_eq_false', inS, Bool.and_eq_true, decide_eq_true_eq] at this
 exact this.1.1.2
def reachN (c : CodeS) : Nat → Int → Int × Bool
 | 0, r => (r, true)
 | n + 1, r => if ((decide ((rAt c r).level < 1) || decide ((rAt c r).level > ((n + 1 : Nat) : Int))) || decide ((rAt c r).outer < 0)) = true then (0, false) else reachN c n (rAt c r).outer
def leadsN (c : CodeS) : Nat → Int → Bool
 | 0, _ => true
 | n + 1, r => if (decide ((rAt c r).level < 1) || decide ((rAt c r).level > ((n + 1 : Nat) : Int))) = true then false else leadsN c n (rAt c r).outer
theorem reach_leads {c : CodeS} {i : Nat} (ho : OutOk c i) : ∀ (n : Nat) (r : Int), 0 ≤ r → r ≤ i → reachN c n r = if furS c n r ≥ 0 ∧ leadsN c n r = true then (furS c n r, true) else (0, false)
 | 0, r, h0, h1 => by simp [reachN, furS, leadsN, h0]
 | n + 1, r, h0, h1 => by
  have hr : ¬ r < 0 := by omega
  have hk := ho r.toNat (by omega)
  rw [Int.toNat_of_nonneg h0] at hk
  simp only [reachN, furS, leadsN, hr, if_false]
  cases hl : (decide ((rAt c r).level < 1) || decide ((rAt c r).level > ((n + 1 : Nat) : Int))) with
  | true => simp
  | false =>
   by_cases hn : (rAt c r).outer < 0
   ·rw [furS_neg c hn]
    have : ¬ (rAt c r).outer ≥ 0 := by omega
    simp [hn, this]
   ·rw [decide_eq_false hn]
    simp only [Bool.or_false, Bool.false_eq_true, if_false]
    exact reach_leads ho n _ (by omega) (by omega)
def reachS (c : CodeS) (r n : Int) : Int × Bool := if n < 0 then (r, false) else reachN c n.toNat r
def operandS (c : CodeS) (o : OperS) (l : Int) (r : Int) : Bool :=
 if o.k = 0 then ((l == 45 || l == 111) && (o.a == 0)) && (o.b == 0)
 else if o.k = 1 then ((l == 115 || l == 111) && (reachS c r o.b).2) && inS o.a (len (mAt c (rAt c (reachS c r o.b).1).frame))
 else if o.k = 2 then ((l == 114) && (reachS c r o.b).2) && inS o.a (len (rAt c (reachS c r o.b).1).ranges)
 else false
theorem reach_in {c : CodeS} {i : Nat} (ho : OutOk c i) {r n : Int} (h0 : 0 ≤ r) (h1 : r ≤ i) (h : (reachS c r n).2 = true) : 0 ≤ (reachS c r n).1 ∧ (reachS c r n).1 ≤ i := by
 unfold reachS at h ⊢
 split at h
 ·cases h
 ·rename_i hn
  rw [if_neg hn]
  rw [reach_leads ho _ _ h0 h1] at h ⊢
  split at h
  ·rename_i hc
   rw [if_pos hc]
   have := furS_bound ho n.toNat r (by omega) h1
   simp only
   omega
  ·cases h
end Go.Abs
namespace Go.Proofs.YtgghfcchanilpaaGreatDoor
open Go Go.Abs
theorem c228 {c : CodeS} {i : Nat} (ho : OutOk c i) (hi : (i : Int) < len c.routs) (a b : Int) {r n : Int} (h0 : 0 ≤ r) (h1 : r ≤ i) (hn : n < 9223372036854775808) (σ : St) : Ret W 228 [pvChk c a b, .int .i64 r, .int .i64 n] σ (pvPair (reachS c r n)) := by
 refine ret_of fun R hR => ?_
 rw [fn228_eq]
 unfold fn228
 simp only [chk_parts, zz, Nat.reduceEqDiff]
 unfold reachS at hR
 by_cases hb : n < 0
 ·rw [if_pos hb] at hR
  refine CutW_by (fun x τ => x 1 = .int .i64 r ∧ x 2 = .int .i64 n ∧ τ = σ) (fun x τ hx => ?_) ?_
  ·obtain ⟨h1, h2, rfl⟩ := hx
   have : (n == 0) = false := by simp; omega
   simp only [h1, h2, this, zz, Nat.reduceEqDiff]
   exact weakW_keep hR
  refine Lfp_up 0 (fun j x τ => x = lookP [(1, .int .i64 r), (2, .int .i64 n), (3, pvChk c a b)] ∧ τ = σ) ?_ ⟨rfl, rfl⟩
  rintro Φ j x τ hj ⟨rfl, rfl⟩ next
  have e : decide (n > 0) = false := decide_eq_false (by omega)
  simp only [e, zz, Nat.reduceEqDiff]
  exact ⟨trivial, trivial, trivial⟩
 rw [if_neg hb] at hR
 obtain ⟨m, rfl⟩ := Int.eq_ofNat_of_zero_le (Int.not_lt.1 hb)
 rw [Int.toNat_natCast] at hR
 generalize hF : reachN c m r = F at hR
 refine CutW_by (fun x τ => x 1 = .int .i64 F.1 ∧ x 2 = .int .i64 0 ∧ F.2 = true ∧ τ = σ) (fun x τ hx => ?_) ?_
 ·obtain ⟨h1, h2, h3, rfl⟩ := hx
  unfold pvPair at hR
  rw [h3] at hR
  simp only [h1, h2, zz, Nat.reduceEqDiff]
  exact weakW_keep hR
 refine Lfp_down (fun m x τ => ∃ r : Int, 0 ≤ r ∧ r ≤ i ∧ m < 9223372036854775808 ∧ x = lookP [(1, .int .i64 r), (2, .int .i64 m), (3, pvChk c a b)] ∧ τ = σ ∧ reachN c m r = F) ?_ m ⟨r, h0, h1, by omega, rfl, rfl, hF⟩
 rintro Φ m x τ ⟨r, h0, h1, hm, rfl, rfl, hF⟩ next _
 simp only [chk_parts, zz, Nat.reduceEqDiff]
 cases m with
 | zero =>
  simp only [reachN] at hF
  have e : decide (((0 : Nat) : Int) > 0) = false := rfl
  subst hF
  simp only [e, zz, Nat.reduceEqDiff]
  exact ⟨trivial, rfl, trivial, trivial⟩
 | succ m =>
  have e : decide (((m + 1 : Nat) : Int) > 0) = true := decide_eq_true (by omega)
  have hk := ho r.toNat (by omega)
  rw [Int.toNat_of_nonneg h0] at hk
  have hix : vIndex 9 (pvSl pvRout c.routs) (.int .i64 r) = some (.eptr (pvRout (rAt c r)) 0) := idxI encRout zRout h0 (by omega)
  simp only [reachN] at hF
  simp only [e, hix, encRout.part, put_rout, rout_parts, zz, Nat.reduceEqDiff, Nat.reduceAdd]
  refine orG (decide ((rAt c r).level > ((m + 1 : Nat) : Int))) (fun _ J hJ => ?_) ?_
  ·exact hJ _ rfl
  refine orG (decide ((rAt c r).outer < 0)) (fun _ J hJ => ?_) ?_
  ·exact hJ _ rfl
  refine condB (fun hb => ?_) (fun hb => ?_)
  ·rw [if_pos hb] at hF
   subst hF
   exact weakW_keep hR
  ·rw [if_neg (by rw [hb]; simp)] at hF
   simp only [Bool.or_eq_false_iff, decide_eq_false_iff_not] at hb
   rw [vBin_sub _ (by omega) (by omega)]
   simp only [zz, Nat.reduceEqDiff]
   refine next _ _ m (by omega) ⟨(rAt c r).outer, by omega, by omega, by omega, ?_, rfl, hF⟩
   congr 4
   simp
theorem oper_parts3 (o : OperS) : opC.vBoxAny (pvOper o) = some (3, pvOper o) ∧ vPart false 1 (pvOper o) 0 = some (.int .i64 o.k) ∧ vPart false 1 (pvOper o) 1 = some (.int .i64 o.a) ∧ vPart false 1 (pvOper o) 2 = some (.int .i64 o.b) := ⟨rfl, rfl, rfl, rfl⟩
theorem c118 {c : CodeS} (hf : Fit c) {i : Nat} (hi : i < c.routs.2.length) (a b : Int) {r : Int} (h0 : 0 ≤ r) (h1 : r ≤ i) (o : OperS) (ho : o.b < 9223372036854775808) (l : Int) (σ : St) : Ret W 118 [pvChk c a b, pvOper o, .int .u8 l, .int .i64 r] σ (.bool (operandS c o l r)) := by
 refine ret_of fun R hR => ?_
 rw [fn118_eq]
 unfold fn118
 have hout := hf.out hi
 have hlen : (i : Int) < len c.routs := by unfold len; omega
 have fin : ∀ b : Bool, operandS c o l r = b → weakW σ (.bool b) σ fun v σ => R (.ret v) σ := fun n hb => by
  rw [hb] at hR
  exact weakW_keep hR
 clear hR
 simp only [chk_parts, oper_parts3, zz, Nat.reduceEqDiff]
 refine condB (fun hk => ?_) (fun hk => ?_)
 ·simp only [beq_iff_eq] at hk
  refine orG (l == 111) (fun _ J hJ => hJ _ rfl) ?_
  refine andG (o.a == 0) (fun _ J hJ => hJ _ rfl) ?_
  refine andG (o.b == 0) (fun _ J hJ => hJ _ rfl) ?_
  refine fin _ ?_
  simp only [operandS, hk, if_true]
 simp only [beq_eq_false_iff_ne, ne_eq] at hk
 refine condB (fun hk1 => ?_) (fun hk1 => ?_)
 ·simp only [beq_iff_eq] at hk1
  refine (c228 hout hlen a b h0 h1 ho _).callB ?_
  simp only [pvPair, zz, Nat.reduceEqDiff]
  refine orG (l == 111) (fun _ J hJ => hJ _ rfl) ?_
  refine andG (reachS c r o.b).2 (fun _ J hJ => hJ _ rfl) ?_
  refine andG (inS o.a (len (mAt c (rAt c (reachS c r o.b).1).frame))) (fun hx J hJ => ?_) ?_
  ·simp only [Bool.and_eq_true] at hx
   obtain ⟨f0, f1⟩ := reach_in hout h0 h1 hx.2
   have hfr := hf.frame f0 (by omega)
   have hix : vIndex 9 (pvSl pvRout c.routs) (.int .i64 (reachS c r o.b).1) = some (.eptr (pvRout (rAt c (reachS c r o.b).1)) 0) := idxI encRout zRout f0 (by omega)
   have hix2 : vIndex 1 (pvSl pvMap c.maps) (.int .i64 (rAt c (reachS c r o.b).1).frame) = some (.eptr (pvMap (mAt c (rAt c (reachS c r o.b).1).frame)) 0) := idxI encMap (.nil, []) hfr.1 hfr.2
   simp only [hix, hix2, fldE, rout_parts, map_part, sl_len, zz, Nat.reduceEqDiff, Nat.reduceAdd]
   refine (c42 _ _ _).callB ?_
   exact hJ _ rfl
  refine fin _ ?_
  simp only [operandS, hk, hk1, if_true, if_false]
  rfl
 simp only [beq_eq_false_iff_ne, ne_eq] at hk1
 refine condB (fun hk2 => ?_) (fun hk2 => ?_)
 ·simp only [beq_iff_eq] at hk2
  refine (c228 hout hlen a b h0 h1 ho _).callB ?_
  simp only [pvPair, zz, Nat.reduceEqDiff]
  refine andG (reachS c r o.b).2 (fun _ J hJ => hJ _ rfl) ?_
  refine andG (inS o.a (len (rAt c (reachS c r o.b).1).ranges)) (fun hx J hJ => ?_) ?_
  ·simp only [Bool.and_eq_true] at hx
   obtain ⟨f0, f1⟩ := reach_in hout h0 h1 hx.2
   have hix : vIndex 9 (pvSl pvRout c.routs) (.int .i64 (reachS c r o.b).1) = some (.eptr (pvRout (rAt c (reachS c r o.b).1)) 0) := idxI encRout zRout f0 (by omega)
   simp only [hix, fldE, rout_parts, sl_len, zz, Nat.reduceEqDiff, Nat.reduceAdd]
   refine (c42 _ _ _).callB ?_
   exact hJ _ rfl
  refine fin _ ?_
  simp only [operandS, hk, hk1, hk2, if_true, if_false]
  rfl
 simp only [beq_eq_false_iff_ne, ne_eq] at hk2
 refine fin _ ?_
 simp only [operandS, hk, hk1, hk2, if_false]
end Go.Proofs.YtgghfcchanilpaaGreatDoor
