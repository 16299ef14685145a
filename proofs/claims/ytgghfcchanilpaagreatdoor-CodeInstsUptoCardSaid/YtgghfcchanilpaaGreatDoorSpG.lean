/- The instruction of a text, as the reference reads it; the law of both. -/
import Derived.Test.YtgghfcchanilpaaGreatDoorSpF
set_option linter.unusedVariables false
set_option linter.unusedSimpArgs false
namespace Go.Proofs.YtgghfcchanilpaaGreatDoor
open Go Go.Abs
open Go.Lib (decDigits itoa)

/-! ### Words -/

theorem splitB_take {c : UInt8} {s : Str} {f i : Nat} (hi : i < s.length) (hc : s[i]? = some c) (hf : f ≤ i) (hn : ∀ k, f ≤ k → k < i → s[k]? ≠ some c) : splitB c (s.drop f) = (s.take i).drop f :: splitB c (s.drop (i + 1)) := by
  have h1 : (s.drop f)[i - f]? = some c := by rw [List.getElem?_drop, show f + (i - f) = i by omega]; exact hc
  have h2 : ∀ k : Nat, k < i - f → (s.drop f)[k]? ≠ some c := fun k hk => by rw [List.getElem?_drop]; exact hn _ (by omega) (by omega)
  rw [splitB_hit h1 h2, List.drop_drop, show f + (i - f + 1) = i + 1 by omega, List.drop_take]

theorem splitB_end {c : UInt8} {s : Str} {f : Nat} (hn : ∀ k, f ≤ k → k < s.length → s[k]? ≠ some c) : splitB c (s.drop f) = [s.drop f] := by
  refine splitB_miss fun k hk => ?_
  rw [List.getElem?_drop] at hk
  have hl := (List.getElem?_eq_some_iff.1 hk).1
  exact hn _ (by omega) hl hk

theorem vSub_mid {s : Str} {a b : Nat} (h1 : a ≤ b) (h2 : b ≤ s.length) : vSubStr (.str s) (some (.int .i64 a)) (some (.int .i64 b)) = some (.str ((s.take b).drop a)) := by
  simp [vSubStr, bound, h1, h2]

theorem under_strs {n : Nat} {ys : List Str} : ∀ y ∈ ys.map PV.str, Under n y := by
  intro y hy
  obtain ⟨s, _, rfl⟩ := List.mem_map.1 hy
  exact .str _

theorem bs1 (s : Str) : vBuildSl 1 (List.replicate 1 (.str [])) [(0, .str s)] = some [.str s] := rfl

theorem u8_eq (c d : UInt8) : (((c.toNat : Int)) == ((d.toNat : Nat) : Int)) = (c == d) := by
  rw [eq_dec]
  by_cases h : c = d
  · subst h; simp
  · have : ¬ ((c.toNat : Int) = (d.toNat : Int)) := fun e => h (UInt8.toNat_inj.1 (by omega))
    rw [decide_eq_false this]
    exact (beq_eq_false_iff_ne.2 h).symm

theorem c52 {s : Str} (h : s.length < 4294967281) (σ : St) : Ret W 52 [.str s] σ (.list .part ((splitB 32 s).map .str)) := by
  refine ret_of fun R hR => ?_
  rw [fn52_eq]
  unfold fn52
  refine CutW_by (fun x τ => ∃ out, x = lookP [(3, out)] ∧ σ <+: τ ∧ Grow σ.length 1 τ out ((splitB 32 s).map .str)) ?_ ?_
  · rintro x τ ⟨out, rfl, hp, hg⟩
    simp only [zz, Nat.reduceEqDiff]
    have hf := hg.frz fun y hy => .base _ (under_strs y hy)
    have e : growV ((splitB 32 s).map PV.str) = .list .part ((splitB 32 s).map .str) := by
      cases hs : splitB 32 s with
      | nil => exact absurd hs (splitB_ne 32 s)
      | cons x xs => rfl
    rw [e] at hf
    exact weakW_clean hp hf hR
  simp only [zz, Nat.reduceEqDiff]
  refine Lfp_up (s.length + 1) (fun i x τ => ∃ (out : PV) (f : Nat) (ys : List Str), x = lookP [(0, .str s), (3, out), (4, .int .i64 f), (5, .int .i64 i)] ∧ σ <+: τ ∧ Grow σ.length 1 τ out (ys.map .str) ∧ ys.length ≤ i ∧
    ((i ≤ s.length ∧ f ≤ i ∧ splitB 32 s = ys ++ splitB 32 (s.drop f) ∧ ∀ k, f ≤ k → k < i → s[k]? ≠ some 32) ∨ (i = s.length + 1 ∧ splitB 32 s = ys))) ?_ ⟨.list .nil [], 0, [], rfl, List.prefix_refl _, .nil _ _ _, by simp, .inl ⟨by omega, by omega, rfl, fun k _ hk => by omega⟩⟩
  rintro Φ i x τ hi ⟨out, f, ys, rfl, hp, hg, hyl, hor⟩ next
  simp only [zz, Nat.reduceEqDiff]
  have push : ∀ (piece : Str), ∃ x' σ', vAppend 1 16 out (.list .full [.str piece]) τ = some (x', σ') ∧ Grow σ.length 1 σ' x' ((ys ++ [piece]).map .str) ∧ σ <+: σ' := by
    intro piece
    obtain ⟨x', σ', h1, g1, p1, _⟩ := Grow.app (by_ := 16) hg hp (y := .list .full [.str piece]) (zs := [.str piece]) rfl (by simp [Sized, PV.cells?]) (by simp; omega)
    exact ⟨x', σ', h1, by rw [List.map_append]; exact g1, p1⟩
  rcases hor with ⟨h1, h2, h3, h4⟩ | ⟨h1, h2⟩
  · have hle : (i : Int) ≤ (s.length : Int) := by omega
    simp only [hle, decide_true, zz, Nat.reduceEqDiff]
    refine CutW_of ?_
    simp only [eq_dec, zz, Nat.reduceEqDiff]
    by_cases hil : i = s.length
    · have hil' : (i : Int) = (s.length : Int) := by omega
      obtain ⟨x', σ', a1, a2, a3⟩ := push ((s.take i).drop f)
      simp only [hil', decide_true, zz, Nat.reduceEqDiff]
      rw [← hil', vSub_mid h2 h1]
      simp only [bs1, a1, zz, Nat.reduceEqDiff]
      rw [vBin_add _ (by omega) (by omega)]
      simp only [zz, Nat.reduceEqDiff]
      refine next _ _ (by omega) ⟨x', i + 1, ys ++ [(s.take i).drop f], by simp, a3, a2, by simp; omega, .inr ⟨by omega, ?_⟩⟩
      rw [h3, splitB_end (fun k hk1 hk2 => h4 k hk1 (by omega)), hil, List.take_length]
    · have hil' : ¬ (i : Int) = (s.length : Int) := by omega
      have hlt : i < s.length := by omega
      have hc : s[i]? = some s[i] := by simp [hlt]
      generalize s[i] = c at hc
      have hu := u8_eq c 32
      rw [eq_dec] at hu
      have e32 : (((32 : UInt8).toNat : Nat) : Int) = 32 := rfl
      rw [e32] at hu
      simp only [hil', decide_false, vStrAt_nat _ hc, hu, eq_dec, zz, Nat.reduceEqDiff]
      by_cases hcc : c = 32
      · subst hcc
        obtain ⟨x', σ', a1, a2, a3⟩ := push ((s.take i).drop f)
        simp only [BEq.rfl, zz, Nat.reduceEqDiff]
        rw [vSub_mid h2 h1]
        simp only [bs1, a1, zz, Nat.reduceEqDiff]
        rw [vBin_add _ (by omega) (by omega)]
        simp only [zz, Nat.reduceEqDiff]
        refine next _ _ (by omega) ⟨x', i + 1, ys ++ [(s.take i).drop f], by simp, a3, a2, by simp; omega, .inl ⟨by omega, by omega, ?_, fun k _ _ => by omega⟩⟩
        rw [h3, splitB_take hlt hc h2 h4, List.append_assoc]
        rfl
      · have hb : (c == 32) = false := by simp [hcc]
        simp only [hb, zz, Nat.reduceEqDiff]
        rw [vBin_add _ (by omega) (by omega)]
        simp only [zz, Nat.reduceEqDiff]
        refine next _ _ (by omega) ⟨out, f, ys, by simp, hp, hg, by omega, .inl ⟨by omega, by omega, h3, fun k hk1 hk2 => ?_⟩⟩
        by_cases hk : k = i
        · subst hk; rw [hc]; intro e; exact hcc (Option.some.inj e)
        · exact h4 k hk1 (by omega)
  · have hle : ¬ ((i : Int) ≤ (s.length : Int)) := by omega
    simp only [hle, decide_false, zz, Nat.reduceEqDiff]
    exact ⟨out, rfl, hp, by rw [h2]; exact hg⟩

/-! ### Numbers -/

theorem neg_head {s : Str} : isNeg s = true ↔ s[0]? = some 45 := by
  unfold isNeg
  cases s with
  | nil => simp
  | cons c r => simp

theorem c54 {s : Str} (h : s.length < 4294967281) (σ : St) : Ret W 54 [.str s] σ (.tuple [.int .i64 (decR s).1, .bool (decR s).2]) := by
  refine ret_of fun R hR => ?_
  rw [fn54_eq]
  unfold fn54
  refine CutW_by (fun x τ => ∃ n : Nat, decGo 0 (magR s) = some n ∧ x = lookP [(0, .str s), (4, .int .u64 n)] ∧ τ = σ) ?_ ?_
  · rintro x τ ⟨n, hd, rfl, rfl⟩
    have hdec : decR s = (valR (isNeg s) n, itoaB (valR (isNeg s) n) == s) := by unfold decR; rw [hd]
    rw [hdec] at hR
    have e0 : vConv .i64 (.int .u64 (n : Int)) = some (.int .i64 (IntKind.wrap .i64 n)) := rfl
    simp only [e0, zz, Nat.reduceEqDiff]
    refine CutW_by (fun x τ' => x = lookP [(0, .str s), (6, .int .i64 (valR (isNeg s) n))] ∧ τ' = τ) ?_ ?_
    · rintro x τ' ⟨rfl, rfl⟩
      simp only [zz, Nat.reduceEqDiff]
      have hin : inI64 (valR (isNeg s) n) = true := by
        unfold valR
        split <;> exact wrap_in _
      refine (c47 hin _).callB ?_
      simp only [zz, Nat.reduceEqDiff]
      exact weakW_keep hR
    · cases s with
      | nil =>
        have : decide ((([] : Str).length : Int) > 0) = false := rfl
        simp only [this, zz, Nat.reduceEqDiff]
        exact ⟨rfl, by trivial⟩
      | cons c r =>
        have : decide (((c :: r : Str).length : Int) > 0) = true := by
          simp only [decide_eq_true_eq]
          simp
        have hs0 : vStrAt (.str (c :: r)) (.int .i64 0) = some (.int .u8 c.toNat) := rfl
        have hu := u8_eq c 45
        have e45 : (((45 : UInt8).toNat : Nat) : Int) = 45 := rfl
        rw [e45] at hu
        simp only [this, hs0, hu, zz, Nat.reduceEqDiff]
        by_cases hc : c = 45
        · subst hc
          have e1 : vUn .neg (.int .i64 (IntKind.wrap .i64 n)) = some (.int .i64 (valR true n)) := rfl
          have e2 : isNeg (45 :: r) = true := rfl
          simp only [BEq.rfl, e1, zz, Nat.reduceEqDiff]
          rw [e2]
          exact ⟨rfl, by trivial⟩
        · have hb : (c == 45) = false := by simp [hc]
          have e2 : isNeg (c :: r) = false := by unfold isNeg; simp [hc]
          simp only [hb, zz, Nat.reduceEqDiff]
          rw [e2]
          exact ⟨rfl, by trivial⟩
  simp only [zz, Nat.reduceEqDiff]
  refine Lfp_up s.length (fun i x τ => ∃ n : Nat, x = lookP [(0, .str s), (4, .int .u64 n), (5, .int .i64 i)] ∧ τ = σ ∧ n ≤ 9223372036854775819 ∧ decGo 0 (magR s) = decGo n (if i = 0 then magR s else s.drop i)) ?_ ⟨0, rfl, rfl, by omega, by simp⟩
  rintro Φ i x τ hi ⟨n, rfl, rfl, hn, hd⟩ next
  simp only [zz, Nat.reduceEqDiff]
  by_cases hlt : i < s.length
  · have hc : s[i]? = some s[i] := by simp [hlt]
    have hdr : s.drop i = s[i] :: s.drop (i + 1) := drop_cons hc
    generalize s[i] = c at hc hdr
    simp only [hlt, decide_true, zz, Nat.reduceEqDiff]
    refine CutW_of ?_
    have stay : (i = 0 ∧ c = 45) ∨ decGo 0 (magR s) = decGo n (c :: s.drop (i + 1)) := by
      by_cases h0 : i = 0
      · by_cases h45 : c = 45
        · exact .inl ⟨h0, h45⟩
        · right
          rw [hd, if_pos h0]
          have : isNeg s = false := by
            cases hneg : isNeg s with
            | false => rfl
            | true =>
              have := neg_head.1 hneg
              rw [h0, this] at hc
              exact absurd (Option.some.inj hc).symm h45
          unfold magR
          rw [this, ← hdr, h0]
          rfl
      · right
        rw [hd, if_neg h0, hdr]
    have digit : decGo 0 (magR s) = decGo n (c :: s.drop (i + 1)) →
      bindO False (vBin none .lss (.int .u8 (c.toNat : Int)) (.int .u8 48)) (fun v20 =>
        guardG False v20 false (fun J21 =>
          bindO False (vStrAt (.str s) (.int .i64 i)) fun v24 =>
          bindO False (vBin none .gtr v24 (.int .u8 57)) fun v25 =>
          J21 (lookE [(25, (.v (.str s))), (26, (.v (.int .i64 i))), (27, (.v v24)), (28, (.v v25))]) τ) τ (fun y22 σ23 =>
          bindO False (vPick v20 (.bool true) (y22 28).pv) fun v26 =>
          guardG False v26 false (fun J27 =>
            bindO False (vBin none .gtr (.int .u64 n) (.int .u64 922337203685477581)) fun v30 =>
            J27 (lookE [(31, (.v (.int .u64 n))), (32, (.v v30))]) σ23) σ23 (fun y28 σ29 =>
            bindO False (vPick v26 (.bool true) (y28 32).pv) fun v31 =>
            condW v31 (
              weakW τ (.tuple [(.int .i64 0), (.bool false)]) σ29 fun v σ => R (.ret v) σ) (
              bindO False (vBin none .mul (.int .u64 n) (.int .u64 10)) fun v32 =>
              bindO False (vStrAt (.str s) (.int .i64 i)) fun v33 =>
              bindO False (vBin none .sub v33 (.int .u8 48)) fun v34 =>
              bindO False (vConv .u64 v34) fun v35 =>
              bindO False (vBin none .add v32 v35) fun v36 =>
              bindO False (vBin none .add (.int .i64 i) (.int .i64 1)) fun v38 =>
              Φ (lookP [(0, .str s), (4, v36), (5, v38)]) σ29)))) := by
      intro hst
      have bad : decGo n (c :: s.drop (i + 1)) = none → weakW τ (.tuple [(.int .i64 0), (.bool false)]) τ fun v σ => R (.ret v) σ := by
        intro hb
        have : decR s = (0, false) := by unfold decR; rw [hst, hb]
        rw [this] at hR
        exact weakW_keep hR
      simp only [decGo] at hst bad
      simp only [vStrAt_nat _ hc, zz, Nat.reduceEqDiff]
      by_cases h1 : (c.toNat : Int) < 48
      · simp only [h1, decide_true, zz, Nat.reduceEqDiff]
        exact bad (by rw [if_pos (by omega)])
      · simp only [h1, decide_false, vStrAt_nat _ hc, zz, Nat.reduceEqDiff]
        by_cases h2 : (c.toNat : Int) > 57
        · simp only [h2, decide_true, zz, Nat.reduceEqDiff]
          exact bad (by rw [if_pos (by omega)])
        · simp only [h2, decide_false, zz, Nat.reduceEqDiff]
          by_cases h3 : (n : Int) > 922337203685477581
          · simp only [h3, decide_true, zz, Nat.reduceEqDiff]
            exact bad (by rw [if_pos (by omega)])
          · rw [if_neg (by omega)] at hst
            have m1 : vBin none .mul (.int .u64 (n : Int)) (.int .u64 10) = some (.int .u64 ((n * 10 : Nat) : Int)) := by
              simp only [vBin, vArith, if_true, wrap_u64]
              congr 2
              omega
            have m2 : vBin none .sub (.int .u8 (c.toNat : Int)) (.int .u8 48) = some (.int .u8 ((c.toNat - 48 : Nat) : Int)) := by
              simp only [vBin, vArith, if_true, wrap_u8]
              congr 2
              omega
            have m3 : vConv .u64 (.int .u8 ((c.toNat - 48 : Nat) : Int)) = some (.int .u64 ((c.toNat - 48 : Nat) : Int)) := by
              simp only [vConv, wrap_u64]
              congr 2
              omega
            have m4 : vBin none .add (.int .u64 ((n * 10 : Nat) : Int)) (.int .u64 ((c.toNat - 48 : Nat) : Int)) = some (.int .u64 ((n * 10 + (c.toNat - 48) : Nat) : Int)) := by
              simp only [vBin, vArith, if_true, wrap_u64]
              congr 2
              omega
            simp only [h3, decide_false, m1, m2, m3, m4, vStrAt_nat _ hc, zz, Nat.reduceEqDiff]
            rw [vBin_add _ (by omega) (by omega)]
            simp only [zz, Nat.reduceEqDiff]
            refine next _ _ hlt ⟨n * 10 + (c.toNat - 48), by simp, rfl, by omega, ?_⟩
            rw [if_neg (by omega)]
            exact hst
    simp only [eq_dec, zz, Nat.reduceEqDiff]
    by_cases h0 : (i : Int) = 0
    · have h0' : i = 0 := by omega
      have hu := u8_eq c 45
      have e45 : (((45 : UInt8).toNat : Nat) : Int) = 45 := rfl
      rw [e45, eq_dec] at hu
      have hs0 : vStrAt (.str s) (.int .i64 0) = some (.int .u8 c.toNat) := by
        have := vStrAt_nat (k := .i64) hc
        rw [h0] at this
        exact this
      simp only [h0, decide_true, hs0, hu, eq_dec, zz, Nat.reduceEqDiff]
      by_cases h45 : c = 45
      · subst h45
        simp only [BEq.rfl, zz, Nat.reduceEqDiff]
        rw [vBin_add _ (by omega) (by omega)]
        simp only [zz, Nat.reduceEqDiff]
        refine next _ _ hlt ⟨n, by rw [h0']; simp, rfl, hn, ?_⟩
        rw [hd, if_pos h0', if_neg (by omega), h0']
        have : isNeg s = true := neg_head.2 (by rw [← h0']; exact hc)
        unfold magR
        rw [this, if_pos rfl, ← List.drop_one]
      · have hb : (c == 45) = false := by simp [h45]
        simp only [hb, zz, Nat.reduceEqDiff]
        have := digit (stay.resolve_left (fun e => h45 e.2))
        rw [h0] at this
        simp only [hs0, zz, Nat.reduceEqDiff] at this ⊢
        exact this
    · simp only [h0, decide_false, vStrAt_nat _ hc, zz, Nat.reduceEqDiff]
      have := digit (stay.resolve_left (fun e => h0 (by omega)))
      simp only [vStrAt_nat _ hc, zz, Nat.reduceEqDiff] at this ⊢
      exact this
  · obtain rfl : i = s.length := by omega
    simp only [hlt, decide_false, zz, Nat.reduceEqDiff]
    refine ⟨n, ?_, rfl, by trivial⟩
    rw [hd]
    split
    · rename_i h0
      have : s = [] := List.length_eq_zero_iff.1 h0
      subst this
      rfl
    · rw [List.drop_length]
      rfl

end Go.Proofs.YtgghfcchanilpaaGreatDoor
