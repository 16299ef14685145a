/- The text of an instruction: both sides. -/
import Derived.Lib.ItoaLen
import Derived.Test.YtgghfcchanilpaaGreatDoorSpC
import Derived.Test.YtgghfcchanilpaaGreatDoorFnC
import Derived.Test.YtgghfcchanilpaaGreatDoorPlD
set_option linter.unusedVariables false
set_option linter.unusedSimpArgs false
namespace Go.Proofs.YtgghfcchanilpaaGreatDoor
open Go Go.Abs
open Go.Lib (decDigits itoa)

theorem c44 {n : Int} (h : inI64 n = true) (σ : St) : Ret W 44 [.int .i64 n, .int .i64 10] σ (.str (itoaB n)) := ret_of fun R hR => by
  show bindO False (extFmt [.int .i64 n, .int .i64 10] σ) (fun r => R (.ret r.1) r.2)
  have : extFmt [.int .i64 n, .int .i64 10] σ = some (.str (itoaB n), σ) := by simp only [extFmt, h, if_true]
  rw [this]
  exact hR

theorem c45 {n : Int} (h : inI64 n = true) (σ : St) : Ret W 45 [.int .i64 n] σ (.str (itoaB n)) := ret_of fun R hR => by
  show bindO False (extItoa [.int .i64 n] σ) (fun r => R (.ret r.1) r.2)
  have : extItoa [.int .i64 n] σ = some (.str (itoaB n), σ) := by simp only [extItoa, h, if_true]
  rw [this]
  exact hR

theorem c42 (n m : Int) (σ : St) : Ret W 42 [.int .i64 n, .int .i64 m] σ (.bool (inS n m)) := by
  refine ret_of fun R hR => ?_
  rw [fn42_eq]
  unfold fn42
  unfold inS at hR
  simp only [zz, Nat.reduceEqDiff]
  cases h : decide (n ≥ 0) with
  | true =>
    rw [h] at hR
    simp only [zz, Nat.reduceEqDiff]
    exact weakW_keep (by simpa using hR)
  | false =>
    rw [h] at hR
    simp only [zz, Nat.reduceEqDiff]
    exact weakW_keep (by simpa using hR)

theorem oper_parts (o : OperS) : opC.vBoxAny (pvOper o) = some (3, pvOper o) ∧ vPart false 1 (pvOper o) 0 = some (.int .i64 o.k) ∧ vPart false 1 (pvOper o) 1 = some (.int .i64 o.a) ∧ vPart false 1 (pvOper o) 2 = some (.int .i64 o.b) ∧ vPart true 3 (pvOper o) 0 = some (pvOper o) := ⟨rfl, rfl, rfl, rfl, rfl⟩

theorem inst_parts (i : InstS) : opC.vBoxAny (pvInst i) = some (12, pvInst i) ∧ vPart true 12 (pvInst i) 0 = some (pvInst i) ∧ vPart false 1 (pvInst i) 0 = some (.int .i64 i.op) ∧ vPart true 3 (pvInst i) 1 = some (pvOper i.s) ∧ vPart true 3 (pvInst i) 4 = some (pvOper i.t) ∧ vPart true 3 (pvInst i) 7 = some (pvOper i.d) ∧
    vPart false 1 (pvInst i) 10 = some (.int .i64 i.n) ∧ vPart false 1 (pvInst i) 11 = some (.int .i64 i.k) := ⟨rfl, rfl, rfl, rfl, rfl, rfl, rfl, rfl⟩

theorem encOper : EncOk pvOper true 3 := ⟨fun _ => ⟨_, rfl, rfl⟩, fun _ => rfl⟩

theorem kind_in (o : OperS) : inS o.k 3 = okKind o := rfl

theorem c41 (o : OperS) (σ : St) : Ret W 41 [pvOper o] σ (.bool (!okKind o)) := by
  refine ret_of fun R hR => ?_
  rw [fn41_eq]
  unfold fn41
  simp only [oper_parts, zz, Nat.reduceEqDiff]
  refine (c42 _ _ _).callB ?_
  simp only [kind_in, zz, Nat.reduceEqDiff]
  exact weakW_keep hR

theorem itoa_small {n : Int} (h : inI64 n = true) : (itoaB n).length ≤ 21 := by
  rw [itoaB_eq h]
  simp only [inI64, Bool.and_eq_true, decide_eq_true_eq] at h
  exact Go.Lib.itoa_length_le n h.1 h.2

theorem ne_dec (a b : Int) : (a != b) = !decide (a = b) := by
  by_cases h : a = b
  · simp [h]
  · simp [h, bne]

theorem eq_dec (a b : Int) : (a == b) = decide (a = b) := by
  by_cases h : a = b
  · simp [h]
  · simp [h]

theorem spell_pv (o : OperS) : PV.tuple [.str (spellS o).1, .int .i64 (spellS o).2] = (if o.k = 0 then (if o.a = 0 ∧ o.b = 0 then .tuple [.str [45], .int .i64 0] else .tuple [.str [], .int .i64 11])
  else if o.k = 1 then .tuple [.str (115 :: (itoaB o.a ++ 46 :: itoaB o.b)), .int .i64 0]
  else if o.k = 2 then .tuple [.str (114 :: (itoaB o.a ++ 46 :: itoaB o.b)), .int .i64 0]
  else .tuple [.str [], .int .i64 13]) := by
  unfold spellS
  split
  · split <;> rfl
  · split
    · rfl
    · split <;> rfl

theorem c43 {o : OperS} (ho : o.ok = true) (σ : St) : Ret W 43 [pvOper o] σ (.tuple [.str (spellS o).1, .int .i64 (spellS o).2]) := by
  refine ret_of fun R hR => ?_
  rw [fn43_eq]
  unfold fn43
  rw [spell_pv] at hR
  simp only [OperS.ok, Bool.and_eq_true] at ho
  have la := itoa_small ho.2.1
  have lb := itoa_small ho.2.2
  simp only [oper_parts, eq_dec, ne_dec, zz, Nat.reduceEqDiff]
  by_cases h0 : o.k = 0
  · rw [if_pos h0] at hR
    simp only [h0, decide_true, zz, Nat.reduceEqDiff]
    by_cases ha : o.a = 0
    · by_cases hb : o.b = 0
      · rw [if_pos ⟨ha, hb⟩] at hR
        simp only [ha, hb, decide_true, zz, Nat.reduceEqDiff]
        exact weakW_keep hR
      · rw [if_neg (by simp [hb])] at hR
        simp only [ha, hb, decide_true, decide_false, zz, Nat.reduceEqDiff]
        exact weakW_keep hR
    · rw [if_neg (by simp [ha])] at hR
      simp only [ha, decide_false, zz, Nat.reduceEqDiff]
      exact weakW_keep hR
  · rw [if_neg h0] at hR
    simp only [h0, decide_false, zz, Nat.reduceEqDiff]
    by_cases h1 : o.k = 1
    · rw [if_pos h1] at hR
      simp only [h1, decide_true, zz, Nat.reduceEqDiff]
      refine (c45 ho.2.1 _).callB ?_
      rw [vBin_add_str _ (by simp; omega)]
      simp only [zz, Nat.reduceEqDiff]
      rw [vBin_add_str _ (by simp; omega)]
      simp only [zz, Nat.reduceEqDiff]
      refine (c45 ho.2.2 _).callB ?_
      rw [vBin_add_str _ (by simp; omega)]
      simp only [zz, Nat.reduceEqDiff]
      exact weakW_keep (by simpa using hR)
    · rw [if_neg h1] at hR
      simp only [h1, decide_false, zz, Nat.reduceEqDiff]
      by_cases h2 : o.k = 2
      · rw [if_pos h2] at hR
        simp only [h2, decide_true, zz, Nat.reduceEqDiff]
        refine (c45 ho.2.1 _).callB ?_
        rw [vBin_add_str _ (by simp; omega)]
        simp only [zz, Nat.reduceEqDiff]
        rw [vBin_add_str _ (by simp; omega)]
        simp only [zz, Nat.reduceEqDiff]
        refine (c45 ho.2.2 _).callB ?_
        rw [vBin_add_str _ (by simp; omega)]
        simp only [zz, Nat.reduceEqDiff]
        exact weakW_keep (by simpa using hR)
      · rw [if_neg h2] at hR
        simp only [h2, decide_false, zz, Nat.reduceEqDiff]
        exact weakW_keep hR

/-! ### Digits -/

theorem wrap_u64 (n : Int) : IntKind.wrap .u64 n = n % 18446744073709551616 := by
  show (if (false && decide (n % (2 ^ 64 : Int) ≥ (2 ^ 63 : Int))) = true then n % (2 ^ 64 : Int) - (2 ^ 64 : Int) else n % (2 ^ 64 : Int)) = _
  have e1 : (2 ^ 64 : Int) = 18446744073709551616 := by decide
  rw [e1]
  rfl

theorem wrap_u8 (n : Int) : IntKind.wrap .u8 n = n % 256 := by
  show (if (false && decide (n % (2 ^ 8 : Int) ≥ (2 ^ 7 : Int))) = true then n % (2 ^ 8 : Int) - (2 ^ 8 : Int) else n % (2 ^ 8 : Int)) = _
  have e1 : (2 ^ 8 : Int) = 256 := by decide
  rw [e1]
  rfl

theorem byte_text (d : Nat) (h : d < 256) (σ : St) : vToStr (.list .full [.int .u8 (d : Int)]) σ = some (.str [UInt8.ofNat d]) := by
  simp [vToStr, vElems, bytesOf?]

theorem b1_u8 (x : Int) : vBuildSl 1 (List.replicate 1 (.int .u8 0)) [(0, .int .u8 x)] = some [.int .u8 x] := rfl

theorem dec_step {u : Nat} (h : ¬ u < 10) : decDigits u = decDigits (u / 10) ++ [UInt8.ofNat (48 + u % 10)] := by rw [decDigits, dif_neg h]

theorem digit_conv {d : Nat} (h : d < 10) : vBin none .add (.int .u64 48) (.int .u64 (d : Int)) = some (.int .u64 ((48 + d : Nat) : Int)) ∧ vConv .u8 (.int .u64 ((48 + d : Nat) : Int)) = some (.int .u8 ((48 + d : Nat) : Int)) := by
  constructor
  · simp only [vBin, vArith, wrap_u64, if_true]
    congr 2
    omega
  · simp only [vConv, wrap_u8]
    congr 2
    omega

theorem c47 {n : Int} (h : inI64 n = true) (σ : St) : Ret W 47 [.int .i64 n] σ (.str (itoaB n)) := by
  refine ret_of fun R hR => ?_
  rw [fn47_eq]
  unfold fn47
  have hb := h
  simp only [inI64, Bool.and_eq_true, decide_eq_true_eq] at hb
  have hsm := itoa_small h
  rw [itoaB_eq h] at hR hsm
  unfold itoa at hR hsm
  have e0 : vConv .u64 (.int .i64 n) = some (.int .u64 (n % 18446744073709551616)) := by simp only [vConv, wrap_u64]
  simp only [e0, zz, Nat.reduceEqDiff]
  obtain ⟨sg, hsg⟩ : ∃ sg : Str, sg = if n < 0 then [45] else [] := ⟨_, rfl⟩
  have hR' : R (.ret (.str (sg ++ decDigits n.natAbs))) σ := by
    subst hsg
    by_cases hn : n < 0
    · rw [if_pos hn] at hR ⊢
      exact hR
    · rw [if_neg hn] at hR ⊢
      have : n.natAbs = n.toNat := by omega
      rw [this]
      exact hR
  have hsm' : (sg ++ decDigits n.natAbs).length ≤ 21 := by
    subst hsg
    by_cases hn : n < 0
    · rw [if_pos hn] at hsm ⊢
      exact hsm
    · rw [if_neg hn] at hsm ⊢
      have : n.natAbs = n.toNat := by omega
      rw [this]
      exact hsm
  clear hR hsm
  refine CutW_by (fun x τ => x = lookP [(3, .int .u64 (n.natAbs : Int)), (4, .str sg)] ∧ τ = σ) ?_ ?_
  case refine_2 =>
    by_cases hn : n < 0
    · have e1 : vUn .neg (.int .u64 (n % 18446744073709551616)) = some (.int .u64 (n.natAbs : Int)) := by
        simp only [vUn, wrap_u64]
        congr 2
        omega
      simp only [hn, e1, decide_true, zz, Nat.reduceEqDiff]
      rw [if_pos hn] at hsg
      subst hsg
      exact ⟨rfl, trivial⟩
    · simp only [hn, decide_false, zz, Nat.reduceEqDiff]
      rw [if_neg hn] at hsg
      subst hsg
      have : n % 18446744073709551616 = (n.natAbs : Int) := by omega
      rw [this]
      exact ⟨rfl, trivial⟩
  rintro x τ ⟨rfl, rfl⟩
  refine CutW_by (fun x τ' => ∃ (u : Nat) (s : Str), u < 10 ∧ decDigits n.natAbs = UInt8.ofNat (48 + u) :: s ∧ x = lookP [(3, .int .u64 (u : Int)), (4, .str sg), (5, .str s)] ∧ τ' = τ) ?_ ?_
  case refine_2 =>
    simp only [zz, Nat.reduceEqDiff]
    refine Lfp_down (fun m x τ' => ∃ s : Str, m ≤ 9223372036854775808 ∧ decDigits n.natAbs = decDigits m ++ s ∧ x = lookP [(3, .int .u64 (m : Int)), (4, .str sg), (5, .str s)] ∧ τ' = τ) ?_ n.natAbs ⟨[], by omega, by simp, rfl, rfl⟩
    rintro Φ m x τ' ⟨s, hm, hd, rfl, rfl⟩ next _
    simp only [zz, Nat.reduceEqDiff]
    by_cases h9 : m < 10
    · have : ¬ ((m : Int) > 9) := by omega
      simp only [this, decide_false, zz, Nat.reduceEqDiff]
      refine ⟨m, s, h9, ?_, rfl, trivial⟩
      rw [hd, decDigits, dif_pos h9]
      rfl
    · have : (m : Int) > 9 := by omega
      have e1 : vBin none .rem (.int .u64 (m : Int)) (.int .u64 10) = some (.int .u64 ((m % 10 : Nat) : Int)) := by
        simp only [vBin, vArith, if_true]
        rw [if_neg (by decide)]
        congr 2
      have e2 : vBin none .quo (.int .u64 (m : Int)) (.int .u64 10) = some (.int .u64 ((m / 10 : Nat) : Int)) := by
        simp only [vBin, vArith, if_true, wrap_u64]
        rw [if_neg (by decide)]
        congr 2
        have : (m : Int).tdiv 10 = ((m / 10 : Nat) : Int) := rfl
        rw [this]
        omega
      have hdd : m % 10 < 10 := Nat.mod_lt _ (by decide)
      have hlen : s.length ≤ 21 := by
        rw [hd] at hsm'
        simp at hsm'
        omega
      simp only [this, e1, decide_true, (digit_conv hdd).1, (digit_conv hdd).2, b1_u8, byte_text (48 + m % 10) (by omega), e2, zz, Nat.reduceEqDiff]
      rw [vBin_add_str _ (by simp; omega)]
      simp only [zz, Nat.reduceEqDiff]
      refine next _ _ (m / 10) (by omega) ⟨_, by omega, ?_, rfl, rfl⟩
      rw [hd, dec_step h9]
      simp
  rintro x τ' ⟨u, s, hu, hd, rfl, rfl⟩
  have hlen : sg.length + s.length ≤ 21 := by
    rw [hd] at hsm'
    simp at hsm'
    omega
  simp only [(digit_conv hu).1, (digit_conv hu).2, b1_u8, byte_text (48 + u) (by omega), zz, Nat.reduceEqDiff]
  rw [vBin_add_str _ (by simp; omega)]
  simp only [zz, Nat.reduceEqDiff]
  rw [vBin_add_str _ (by simp; omega)]
  simp only [zz, Nat.reduceEqDiff]
  refine weakW_keep ?_
  rw [hd] at hR'
  simpa using hR'

theorem c46 {o : OperS} (ho : o.ok = true) (σ : St) : Ret W 46 [pvOper o] σ (.tuple [.str (spellS o).1, .int .i64 (spellS o).2]) := by
  refine ret_of fun R hR => ?_
  rw [fn46_eq]
  unfold fn46
  rw [spell_pv] at hR
  simp only [OperS.ok, Bool.and_eq_true] at ho
  have la := itoa_small ho.2.1
  have lb := itoa_small ho.2.2
  simp only [oper_parts, eq_dec, ne_dec, zz, Nat.reduceEqDiff]
  by_cases h0 : o.k = 0
  · rw [if_pos h0] at hR
    simp only [h0, decide_true, zz, Nat.reduceEqDiff]
    by_cases ha : o.a = 0
    · by_cases hb : o.b = 0
      · rw [if_pos ⟨ha, hb⟩] at hR
        simp only [ha, hb, decide_true, zz, Nat.reduceEqDiff]
        exact weakW_keep hR
      · rw [if_neg (by simp [hb])] at hR
        simp only [ha, hb, decide_true, decide_false, zz, Nat.reduceEqDiff]
        exact weakW_keep hR
    · rw [if_neg (by simp [ha])] at hR
      simp only [ha, decide_false, zz, Nat.reduceEqDiff]
      exact weakW_keep hR
  · rw [if_neg h0] at hR
    simp only [h0, decide_false, zz, Nat.reduceEqDiff]
    by_cases h1 : o.k = 1
    · rw [if_pos h1] at hR
      simp only [h1, decide_true, zz, Nat.reduceEqDiff]
      refine (c47 ho.2.1 _).callB ?_
      rw [vBin_add_str _ (by simp; omega)]
      simp only [zz, Nat.reduceEqDiff]
      rw [vBin_add_str _ (by simp; omega)]
      simp only [zz, Nat.reduceEqDiff]
      refine (c47 ho.2.2 _).callB ?_
      rw [vBin_add_str _ (by simp; omega)]
      simp only [zz, Nat.reduceEqDiff]
      exact weakW_keep (by simpa using hR)
    · rw [if_neg h1] at hR
      simp only [h1, decide_false, zz, Nat.reduceEqDiff]
      by_cases h2 : o.k = 2
      · rw [if_pos h2] at hR
        simp only [h2, decide_true, zz, Nat.reduceEqDiff]
        refine (c47 ho.2.1 _).callB ?_
        rw [vBin_add_str _ (by simp; omega)]
        simp only [zz, Nat.reduceEqDiff]
        rw [vBin_add_str _ (by simp; omega)]
        simp only [zz, Nat.reduceEqDiff]
        refine (c47 ho.2.2 _).callB ?_
        rw [vBin_add_str _ (by simp; omega)]
        simp only [zz, Nat.reduceEqDiff]
        exact weakW_keep (by simpa using hR)
      · rw [if_neg h2] at hR
        simp only [h2, decide_false, zz, Nat.reduceEqDiff]
        exact weakW_keep hR

end Go.Proofs.YtgghfcchanilpaaGreatDoor
