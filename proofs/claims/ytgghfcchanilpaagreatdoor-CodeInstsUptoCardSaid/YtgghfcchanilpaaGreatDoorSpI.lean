/- The instruction of a text, as the reference reads it: the whole; the law of both. -/
import Derived.Test.YtgghfcchanilpaaGreatDoorSpH
set_option linter.unusedVariables false
set_option linter.unusedSimpArgs false
namespace Go.Proofs.YtgghfcchanilpaaGreatDoor
open Go Go.Abs
open Go.Lib (decDigits itoa)

theorem c22 {s : Str} (h : s.length ≤ 1000) (σ : St) : Ret W 22 [.str s] σ (pvRes (instR s)) := by
  refine ret_of fun R hR => ?_
  rw [fn22_eq]
  unfold fn22
  have h1000 : ¬ ((s.length : Int) > 1000) := by omega
  simp only [h1000, decide_false, zz, Nat.reduceEqDiff]
  refine (c52 (by omega) _).callB ?_
  have hsl := split_len s
  unfold instR at hR
  generalize splitB 32 s = l at hR hsl
  simp only [List.length_map, ne_dec, zero_inst, zero_oper, zz, Nat.reduceEqDiff]
  by_cases h6 : (l.length : Int) = 6
  · have h6' : l.length = 6 := by omega
    match l, h6' with
    | [a, b, c, d, e, f], _ =>
      have la := hsl a (by simp)
      have lb := hsl b (by simp)
      have lc := hsl c (by simp)
      have ld := hsl d (by simp)
      have le := hsl e (by simp)
      have lf := hsl f (by simp)
      have x0 : vIndex 1 (.list .part ([a, b, c, d, e, f].map PV.str)) (.int .i64 0) = some (.eptr (.str a) 0) := rfl
      have x1 : vIndex 1 (.list .part ([a, b, c, d, e, f].map PV.str)) (.int .i64 1) = some (.eptr (.str b) 0) := rfl
      have x2 : vIndex 1 (.list .part ([a, b, c, d, e, f].map PV.str)) (.int .i64 2) = some (.eptr (.str c) 0) := rfl
      have x3 : vIndex 1 (.list .part ([a, b, c, d, e, f].map PV.str)) (.int .i64 3) = some (.eptr (.str d) 0) := rfl
      have x4 : vIndex 1 (.list .part ([a, b, c, d, e, f].map PV.str)) (.int .i64 4) = some (.eptr (.str e) 0) := rfl
      have x5 : vIndex 1 (.list .part ([a, b, c, d, e, f].map PV.str)) (.int .i64 5) = some (.eptr (.str f) 0) := rfl
      simp only [h6, decide_true, x0, x1, x2, x3, x4, x5, zz, Nat.reduceEqDiff]
      refine (c14 a _).callB ?_
      simp only [findV, zz, Nat.reduceEqDiff]
      refine (c53 (by omega) _).callB ?_
      simp only [pvOp2, p_oper0, zz, Nat.reduceEqDiff]
      refine (c53 (by omega) _).callB ?_
      simp only [pvOp2, p_oper0, zz, Nat.reduceEqDiff]
      refine (c53 (by omega) _).callB ?_
      simp only [pvOp2, p_oper0, zz, Nat.reduceEqDiff]
      refine (c54 (by omega) _).callB ?_
      simp only [zz, Nat.reduceEqDiff]
      refine (c54 (by omega) _).callB ?_
      simp only [zz, Nat.reduceEqDiff]
      have bad : ((findS a).isSome && ((operR b).2 && ((operR c).2 && ((operR d).2 && ((decR e).2 && (decR f).2))))) = false → R (.ret (pvRes (zeroI, 9))) σ := by
        intro hb
        simp only [hb, Bool.false_eq_true, if_false] at hR
        exact hR
      have good : ((findS a).isSome && ((operR b).2 && ((operR c).2 && ((operR d).2 && ((decR e).2 && (decR f).2))))) = true → R (.ret (pvRes (⟨((findS a).getD 0 : Nat), (operR b).1, (operR c).1, (operR d).1, (decR e).1, (decR f).1⟩, 0))) σ := by
        intro hb
        simp only [hb, if_true] at hR
        exact hR
      clear hR
      generalize (findS a).isSome = q0 at bad good
      generalize (operR b).2 = q1 at bad good
      generalize (operR c).2 = q2 at bad good
      generalize (operR d).2 = q3 at bad good
      generalize (decR e).2 = q4 at bad good
      generalize (decR f).2 = q5 at bad good
      generalize ((findS a).getD 0 : Nat) = w0 at good
      generalize (operR b).1 = w1 at good
      generalize (operR c).1 = w2 at good
      generalize (operR d).1 = w3 at good
      generalize (decR e).1 = w4 at good
      generalize (decR f).1 = w5 at good
      cases q0 with
      | false =>
        simp only [b_inst0, zero_inst, p_inst, inst_parts, resCons, vResults, zz, Nat.reduceEqDiff]
        exact weakW_keep (bad rfl)
      | true =>
        simp only [zz, Nat.reduceEqDiff]
        cases q1 with
        | false =>
          simp only [b_inst0, zero_inst, p_inst, inst_parts, resCons, vResults, zz, Nat.reduceEqDiff]
          exact weakW_keep (bad rfl)
        | true =>
          simp only [zz, Nat.reduceEqDiff]
          cases q2 with
          | false =>
            simp only [b_inst0, zero_inst, p_inst, inst_parts, resCons, vResults, zz, Nat.reduceEqDiff]
            exact weakW_keep (bad rfl)
          | true =>
            simp only [zz, Nat.reduceEqDiff]
            cases q3 with
            | false =>
              simp only [b_inst0, zero_inst, p_inst, inst_parts, resCons, vResults, zz, Nat.reduceEqDiff]
              exact weakW_keep (bad rfl)
            | true =>
              simp only [zz, Nat.reduceEqDiff]
              cases q4 with
              | false =>
                simp only [b_inst0, zero_inst, p_inst, inst_parts, resCons, vResults, zz, Nat.reduceEqDiff]
                exact weakW_keep (bad rfl)
              | true =>
                simp only [zz, Nat.reduceEqDiff]
                cases q5 with
                | false =>
                  simp only [b_inst0, zero_inst, p_inst, inst_parts, resCons, vResults, zz, Nat.reduceEqDiff]
                  exact weakW_keep (bad rfl)
                | true =>
                  simp only [oper_parts, b_inst, agg_cells, zero_inst, p_inst, inst_parts, resCons, vResults, zz, Nat.reduceEqDiff]
                  exact weakW_keep (good rfl)
  · have hR' : R (.ret (pvRes (zeroI, 9))) σ := by
      split at hR
      · exact absurd rfl h6
      · exact hR
    simp only [h6, decide_false, b_inst0, zero_inst, p_inst, inst_parts, resCons, vResults, zz, Nat.reduceEqDiff]
    exact weakW_keep hR'

theorem inst_ok (s : Str) : (instS s).1.ok = true := by
  rcases inst_err s with h | h
  · unfold instS at h ⊢
    cases hl : looseS (splitB 32 s) with
    | none => rfl
    | some i =>
      simp only
      split
      · exact loose_in hl
      · rfl
  · rw [h.1]
    rfl

theorem c5 {s : Str} : Ret W 5 [.str s] [] (.bool true) := by
  refine ret_of fun R hR => ?_
  rw [fn5_eq]
  unfold fn5
  refine c12.callB ?_
  simp only [zz, Nat.reduceEqDiff]
  by_cases h : (s.length : Int) > 200
  · simp only [h, decide_true, zz, Nat.reduceEqDiff]
    refine c12.callB ?_
    exact weakW_keep hR
  · simp only [h, decide_false, zz, Nat.reduceEqDiff]
    refine (c21 (by omega) _).callB ?_
    simp only [pvRes, zero_inst, p_inst, zz, Nat.reduceEqDiff]
    refine (c22 (by omega) _).callB ?_
    simp only [pvRes, ← inst_both, zero_inst, p_inst, inst_parts, inst_eq, ne_dec, eq_dec, decide_true, zz, Nat.reduceEqDiff]
    refine (c19 (inst_ok s) _).callB ?_
    simp only [ne_dec, eq_dec, zz, Nat.reduceEqDiff]
    by_cases h0 : (instS s).2 = 0
    · have hb := inst_back h0
      rw [hb]
      simp only [h0, decide_true, BEq.rfl, zz, Nat.reduceEqDiff]
      exact weakW_keep hR
    · simp only [h0, decide_false, zz, Nat.reduceEqDiff]
      exact weakW_keep hR

end Go.Proofs.YtgghfcchanilpaaGreatDoor
