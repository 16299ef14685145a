/- The instruction of a text, as the reference reads it: operands, the whole; the law of both. -/
import Derived.Test.YtgghfcchanilpaaGreatDoorSpG
set_option linter.unusedVariables false
set_option linter.unusedSimpArgs false
namespace Go.Proofs.YtgghfcchanilpaaGreatDoor
open Go Go.Abs
open Go.Lib (decDigits itoa)

theorem zero_oper : PV.agg [(.int .i64 0), (.int .i64 0), (.int .i64 0)] = pvOper ⟨0, 0, 0⟩ := rfl
theorem p_oper0 (o : OperS) : vPut 3 (pvOper ⟨0, 0, 0⟩) 0 (pvOper o) = some (pvOper o) := rfl
theorem put_oper (o : OperS) (n : Int) : vPut 1 (pvOper o) 0 (.int .i64 n) = some (pvOper ⟨n, o.a, o.b⟩) ∧ vPut 1 (pvOper o) 1 (.int .i64 n) = some (pvOper ⟨o.k, n, o.b⟩) ∧ vPut 1 (pvOper o) 2 (.int .i64 n) = some (pvOper ⟨o.k, o.a, n⟩) := ⟨rfl, rfl, rfl⟩
theorem b_oper1 (n : Int) : vBuild [(.int .i64 0), (.int .i64 0), (.int .i64 0)] [(0, 1, .int .i64 n)] = some [.int .i64 n, .int .i64 0, .int .i64 0] := rfl
theorem agg3 (a b c : Int) : PV.agg [.int .i64 a, .int .i64 b, .int .i64 c] = pvOper ⟨a, b, c⟩ := rfl

theorem vSub_drop {s : Str} {n : Nat} (h : n ≤ s.length) {k : IntKind} : vSubStr (.str s) (some (.int k n)) none = some (.str (s.drop n)) := by
  simp [vSubStr, bound, h]

def pvOp2 (r : OperS × Bool) : PV := .tuple [pvOper r.1, .bool r.2]

theorem cut_at {s : Str} {i : Nat} (h : s[i]? = some 46) (hn : ∀ k, k < i → s[k]? ≠ some 46) : Go.Lib.cut s [46] = (s.take i, s.drop (i + 1), true) := by
  have hlt := (List.getElem?_eq_some_iff.1 h).1
  have e : s = s.take i ++ 46 :: s.drop (i + 1) := by
    conv => lhs; rw [← List.take_append_drop i s]
    rw [drop_cons h]
  have hm : (46 : UInt8) ∉ s.take i := by
    intro hm
    obtain ⟨k, hk⟩ := List.getElem?_of_mem hm
    rw [List.getElem?_take] at hk
    split at hk
    · rename_i hki
      exact hn k hki hk
    · cases hk
  conv => lhs; rw [e]
  exact cut_hit _ hm

theorem c53 {s : Str} (h : s.length < 4294967281) (σ : St) : Ret W 53 [.str s] σ (pvOp2 (operR s)) := by
  refine ret_of fun R hR => ?_
  rw [fn53_eq]
  unfold fn53
  simp only [zero_oper, zz, Nat.reduceEqDiff]
  unfold operR at hR
  by_cases h1 : s = [45]
  · rw [if_pos h1] at hR
    subst h1
    simp only [BEq.rfl, b_zero3, zero_oper, p_oper0, oper_parts, resCons, vResults, zz, Nat.reduceEqDiff]
    exact weakW_keep hR
  · rw [if_neg h1] at hR
    have hb : (s == [45]) = false := by simp [h1]
    simp only [hb, zz, Nat.reduceEqDiff]
    match s, h, h1, hR with
    | [], h, h1, hR =>
      rw [if_pos (by simp)] at hR
      have e4 : decide ((([] : Str).length : Int) < 4) = true := rfl
      simp only [e4, b_zero3, zero_oper, p_oper0, oper_parts, resCons, vResults, zz, Nat.reduceEqDiff]
      exact weakW_keep hR
    | c :: r, h, h1, hR =>
      have hs0 : vStrAt (.str (c :: r)) (.int .i64 0) = some (.int .u8 c.toNat) := rfl
      have u115 := u8_eq c 115
      have u114 := u8_eq c 114
      have e115 : (((115 : UInt8).toNat : Nat) : Int) = 115 := rfl
      have e114 : (((114 : UInt8).toNat : Nat) : Int) = 114 := rfl
      rw [e115, eq_dec] at u115
      rw [e114, eq_dec] at u114
      simp only [List.head?_cons, List.tail_cons, ne_eq, Option.some.injEq] at hR
      simp only [hs0, ne_dec, u115, u114, zz, Nat.reduceEqDiff]
      by_cases h4 : ((c :: r).length : Int) < 4
      · rw [if_pos (.inl (by omega))] at hR
        simp only [h4, decide_true, b_zero3, zero_oper, p_oper0, oper_parts, resCons, vResults, zz, Nat.reduceEqDiff]
        exact weakW_keep hR
      · simp only [h4, decide_false, hs0, ne_dec, u115, u114, zz, Nat.reduceEqDiff]
        -- what comes behind the first sign
        have rest : (c = 115 ∨ c = 114) → R (.ret (pvOp2 (if (46 : UInt8) ∈ r then (⟨if c = 114 then 2 else 1, (decR (Go.Lib.cut r [46]).1).1, (decR (Go.Lib.cut r [46]).2.1).1⟩, (decR (Go.Lib.cut r [46]).1).2 && (decR (Go.Lib.cut r [46]).2.1).2) else (⟨0, 0, 0⟩, false)))) σ := by
          intro hc
          rw [if_neg (by
            intro e
            rcases e with e | ⟨e1, e2⟩
            · omega
            · exact hc.elim e1 e2)] at hR
          exact hR
        have tail : ∀ (hc : c = 115 ∨ c = 114), CutW σ (fun J24 =>
            bindO False (vStrAt (.str (c :: r)) (.int .i64 0)) fun v27 =>
            bindO False (vBin none .eql v27 (.int .u8 114)) fun v28 =>
            condW v28 (
            bindO False (vPut 1 (pvOper ⟨1, 0, 0⟩) 0 (.int .i64 2)) fun z29 =>
            J24 (lookP [(0, .str (c :: r)), (2, pvOper ⟨0, 0, 0⟩), (4, z29)]) σ) (
            J24 (lookP [(0, .str (c :: r)), (2, pvOper ⟨0, 0, 0⟩), (4, pvOper ⟨1, 0, 0⟩)]) σ)) (fun x25 σ26 =>
            CutW σ (fun J32 =>
            Lfp σ (fun Φ35 x36 σ37 =>
            bindO False (vLen .str (x36 0) σ37) fun v38 =>
            bindO False (vBin none .lss (x36 5) v38) fun v39 =>
            condW v39 (
            bindO False (vStrAt (x36 0) (x36 5)) fun v40 =>
            bindO False (vBin none .eql v40 (.int .u8 46)) fun v41 =>
            condW v41 (
            bindO False (vSubStr (x36 0) (some (.int .i64 1)) (some (x36 5))) fun v42 =>
            callB W 54 [v42] σ37 (fun v43 σ44 =>
            bindO False (vExtract v43 0) fun v45 =>
            bindO False (vExtract v43 1) fun v46 =>
            bindO False (vBin none .add (x36 5) (.int .i64 1)) fun v47 =>
            bindO False (vSubStr (x36 0) (some v47) none) fun v48 =>
            callB W 54 [v48] σ44 (fun v49 σ50 =>
            bindO False (vExtract v49 0) fun v51 =>
            bindO False (vExtract v49 1) fun v52 =>
            bindO False (vPut 1 (x36 4) 1 v45) fun z53 =>
            bindO False (vPut 1 z53 2 v51) fun z54 =>
            bindO False (vPart true 3 z54 0) fun v55 =>
            guardG False v46 true (fun J56 =>
            J56 (lookE [(64, (.v v52))]) σ50) σ50 (fun y57 σ58 =>
            bindO False (vPick v46 (y57 64).pv (.bool false)) fun v59 =>
            bindO False (vPut 3 (x36 2) 0 v55) fun z60 =>
            bindO False (resCons (vPart true 3 z60 0) (resCons (some v59) (some []))) fun vs => weakW σ (vResults vs) σ58 fun v σ => R (.ret v) σ)) (fun e61 σ62 => R (.pan e61) σ62)) (fun e63 σ64 => R (.pan e63) σ64)) (
            bindO False (vBin none .add (x36 5) (.int .i64 1)) fun v65 =>
            Φ35 (lookP [(0, (x36 0)), (5, v65), (2, (x36 2)), (4, (x36 4))]) σ37)) (
            J32 (lookP [(2, (x36 2))]) σ37)) (lookP [(0, (x25 0)), (5, (.int .i64 1)), (2, (x25 2)), (4, (x25 4))]) σ26) (fun x33 σ34 =>
            bindO False (vBuild [(.int .i64 0), (.int .i64 0), (.int .i64 0)] []) fun v69 =>
            bindO False (vPut 3 (x33 2) 0 (.agg v69)) fun z70 =>
            bindO False (resCons (vPart true 3 z70 0) (resCons (some (.bool false)) (some []))) fun vs => weakW σ (vResults vs) σ34 fun v σ => R (.ret v) σ)) := by
          intro hc
          have hR := rest hc
          refine CutW_by (fun x τ => x = lookP [(0, .str (c :: r)), (2, pvOper ⟨0, 0, 0⟩), (4, pvOper ⟨if c = 114 then 2 else 1, 0, 0⟩)] ∧ τ = σ) ?_ ?_
          case refine_2 =>
            simp only [hs0, eq_dec, u114, zz, Nat.reduceEqDiff]
            by_cases hk : c = 114
            · subst hk
              simp only [BEq.rfl, put_oper, zz, Nat.reduceEqDiff]
              exact ⟨by trivial, by trivial⟩
            · have hb : (c == 114) = false := by simp [hk]
              simp only [hb, zz, Nat.reduceEqDiff]
              rw [if_neg hk]
              exact ⟨by trivial, by trivial⟩
          rintro x τ ⟨rfl, rfl⟩
          simp only [zz, Nat.reduceEqDiff]
          refine CutW_by (fun x τ' => (46 : UInt8) ∉ r ∧ x = lookP [(2, pvOper ⟨0, 0, 0⟩)] ∧ τ' = τ) ?_ ?_
          · rintro x τ' ⟨hm, rfl, rfl⟩
            rw [if_neg hm] at hR
            simp only [b_zero3, zero_oper, p_oper0, oper_parts, resCons, vResults, zz, Nat.reduceEqDiff]
            exact weakW_keep hR
          refine Lfp_up r.length (fun j x τ' => x = lookP [(0, .str (c :: r)), (5, .int .i64 ((j + 1 : Nat) : Int)), (2, pvOper ⟨0, 0, 0⟩), (4, pvOper ⟨if c = 114 then 2 else 1, 0, 0⟩)] ∧ τ' = τ ∧ ∀ k, k < j → r[k]? ≠ some 46) ?_ ⟨rfl, rfl, fun k hk => by omega⟩
          rintro Φ j x τ' hj ⟨rfl, rfl, hn⟩ next
          simp only [zz, Nat.reduceEqDiff]
          have hl : (c :: r).length = r.length + 1 := rfl
          by_cases hlt : j < r.length
          · have hlt' : j + 1 < (c :: r).length := by omega
            have hc2 : (c :: r)[j + 1]? = some r[j] := by simp [hlt]
            have hc3 : r[j]? = some r[j] := by simp [hlt]
            generalize r[j] = d at hc2 hc3
            have u46 := u8_eq d 46
            have e46 : (((46 : UInt8).toNat : Nat) : Int) = 46 := rfl
            rw [e46, eq_dec] at u46
            simp only [hlt', decide_true, vStrAt_nat _ hc2, eq_dec, u46, zz, Nat.reduceEqDiff]
            by_cases hd : d = 46
            · subst hd
              have hcut := cut_at hc3 hn
              rw [if_pos (List.mem_of_getElem? hc3), hcut] at hR
              have e1 : vSubStr (.str (c :: r)) (some (.int .i64 1)) (some (.int .i64 ((j + 1 : Nat) : Int))) = some (.str (r.take j)) := by
                have := vSub_mid (s := c :: r) (a := 1) (b := j + 1) (by omega) (by omega)
                simpa using this
              have e2 : vSubStr (.str (c :: r)) (some (.int .i64 ((j + 1 : Nat) + 1 : Int))) none = some (.str (r.drop (j + 1))) := by
                have := vSub_drop (s := c :: r) (n := j + 2) (k := .i64) (by omega)
                simpa [Int.add_assoc] using this
              have l1 : (r.take j).length < 4294967281 := by simp at h ⊢; omega
              have l2 : (r.drop (j + 1)).length < 4294967281 := by simp at h ⊢; omega
              simp only [BEq.rfl, e1, zz, Nat.reduceEqDiff]
              refine (c54 l1 _).callB ?_
              simp only [zz, Nat.reduceEqDiff]
              rw [vBin_add _ (by omega) (by omega)]
              simp only [e2, zz, Nat.reduceEqDiff]
              refine (c54 l2 _).callB ?_
              simp only [put_oper, oper_parts, zz, Nat.reduceEqDiff]
              cases hb : (decR (r.take j)).2 with
              | true =>
                simp only [hb, Bool.true_and] at hR
                simp only [p_oper0, oper_parts, resCons, vResults, zz, Nat.reduceEqDiff]
                exact weakW_keep hR
              | false =>
                simp only [hb, Bool.false_and] at hR
                simp only [p_oper0, oper_parts, resCons, vResults, zz, Nat.reduceEqDiff]
                exact weakW_keep hR
            · have hb : (d == 46) = false := by simp [hd]
              simp only [hb, zz, Nat.reduceEqDiff]
              rw [vBin_add _ (by omega) (by omega)]
              simp only [zz, Nat.reduceEqDiff]
              refine next _ _ hlt ⟨by simp, rfl, fun k hk => ?_⟩
              by_cases hkj : k = j
              · subst hkj; rw [hc3]; intro e; exact hd (Option.some.inj e)
              · exact hn k (by omega)
          · obtain rfl : j = r.length := by omega
            have hlt' : ¬ (r.length + 1 < (c :: r).length) := by omega
            simp only [hlt', decide_false, zz, Nat.reduceEqDiff]
            refine ⟨fun hm => ?_, by trivial, by trivial⟩
            obtain ⟨k, hk⟩ := List.getElem?_of_mem hm
            exact hn k (List.getElem?_eq_some_iff.1 hk).1 hk
        by_cases hc1 : c = 115
        · have hb1 : (c == 115) = true := by simp [hc1]
          have := tail (.inl hc1)
          simp only [hb1, b_oper1, agg3, p_oper0, zero_oper, zz, Nat.reduceEqDiff]
          exact this
        · have hb1 : (c == 115) = false := by simp [hc1]
          by_cases hc2 : c = 114
          · have hb2 : (c == 114) = true := by simp [hc2]
            have := tail (.inr hc2)
            simp only [hb1, hb2, hs0, ne_dec, u114, b_oper1, agg3, p_oper0, zero_oper, zz, Nat.reduceEqDiff]
            simp only [hs0, eq_dec, u114, hb2, zz, Nat.reduceEqDiff] at this ⊢
            exact this
          · have hb2 : (c == 114) = false := by simp [hc2]
            rw [if_pos (.inr ⟨hc1, hc2⟩)] at hR
            simp only [hb1, hb2, hs0, ne_dec, u114, b_zero3, zero_oper, p_oper0, oper_parts, resCons, vResults, zz, Nat.reduceEqDiff]
            exact weakW_keep hR

end Go.Proofs.YtgghfcchanilpaaGreatDoor
