/- What the small functions on texts answer. -/
import Derived.Test.YtiniifbmeobmgaaGreatDoorFnA
import Derived.Test.YtiniifbmeobmgaaGreatDoorAbsTool2
set_option linter.unusedVariables false
set_option linter.unusedSimpArgs false
namespace Go.Proofs.YtiniifbmeobmgaaGreatDoor
open Go Go.Abs

abbrev W : CallP := callW Tryz.prog annF

theorem ret_of {f : FuncId} {args : List PV} {σ : St} {v : PV} (h : ∀ R : Res → St → Prop, R (.ret v) σ → bodyC (algP W) Tryz.prog annF f args σ R) : Ret W f args σ v := fun R hR => callW_fold (h R hR)

def inR (a b : Int) (s : List UInt8) : Bool := s.all fun c => decide (a ≤ (c.toNat : Int)) && decide ((c.toNat : Int) ≤ b)
def within (a b : Int) (s : List UInt8) : Bool := inR a b s && (decide (1 ≤ s.length) && decide (s.length ≤ 40))

theorem inR_take {a b : Int} {s : List UInt8} {i : Nat} {c : UInt8} (h : inR a b (s.take i) = true) (hc : s[i]? = some c) : inR a b (s.take (i + 1)) = (decide (a ≤ (c.toNat : Int)) && decide ((c.toNat : Int) ≤ b)) := by
  unfold inR at *
  rw [List.take_add_one, hc, List.all_append, h]
  simp

theorem inR_false {a b : Int} {s : List UInt8} {i : Nat} (h : inR a b (s.take i) = false) : inR a b s = false := by
  unfold inR at *
  rw [← List.take_append_drop i s, List.all_append, h]
  rfl

theorem c123 {s : List UInt8} (hs : s.length < 4611686018427387904) (a b : Int) (σ : St) : Ret W 123 [.str s, .int .u8 a, .int .u8 b] σ (.bool (within a b s)) := by
  refine ret_of fun R hR => ?_
  rw [fn123_eq]
  unfold fn123
  simp only [vLen_str, bindO_some_eq]
  refine Lfp_up s.length (fun i x σ' => x = lookP [(0, .str s), (1, .int .u8 a), (2, .int .u8 b), (9, .int .i64 s.length), (10, .int .i64 i)] ∧ σ' = σ ∧ inR a b (s.take i) = true) ?_ ⟨rfl, rfl, rfl⟩
  rintro Φ i x σ' hi ⟨rfl, rfl, hp⟩ next
  simp only [lookP_cons, Nat.reduceEqDiff, if_true, if_false, vBin_lss, bindO_some_eq, Int.ofNat_lt]
  by_cases hlt : i < s.length
  · have hc : s[i]? = some s[i] := by simp [hlt]
    have htk := inR_take hp hc
    simp only [hlt, decide_true, condW_true, vStrAt_nat _ hc, bindO_some_eq, vBin_lss, vBin_gtr]
    generalize s[i] = c at hc htk
    by_cases h1 : (c.toNat : Int) < a
    · have : inR a b s = false := inR_false (i := i + 1) (by rw [htk]; simp; omega)
      simp only [h1, decide_true, guardG_tf, pv_v, vPick_true, bindO_some_eq, condW_true]
      refine weakW_keep ?_
      simpa [within, this] using hR
    · by_cases h2 : (c.toNat : Int) > b
      · have : inR a b s = false := inR_false (i := i + 1) (by rw [htk]; simp; omega)
        simp only [h1, h2, decide_true, decide_false, guardG_false, lookE_cons, Nat.reduceEqDiff, if_true, if_false, pv_v, vPick_false, bindO_some_eq, condW_true]
        refine weakW_keep ?_
        simpa [within, this] using hR
      · simp only [h1, h2, decide_true, decide_false, guardG_false, lookE_cons, Nat.reduceEqDiff, if_true, if_false, pv_v, vPick_false, bindO_some_eq, condW_false]
        rw [vBin_add _ (by omega) (by omega)]
        refine next _ _ hlt ⟨?_, rfl, by rw [htk]; simp; omega⟩
        simp
  · obtain rfl : i = s.length := by omega
    rw [List.take_length] at hp
    simp only [hlt, decide_false, condW_false, vLen_str, bindO_some_eq, vBin_geq, vBin_leq]
    by_cases h1 : (s.length : Int) ≥ 1
    · simp only [h1, decide_true, guardG_true, lookE_cons, Nat.reduceEqDiff, if_true, if_false, pv_v, vPick_true, bindO_some_eq]
      refine weakW_keep ?_
      have e1 : 1 ≤ s.length := by omega
      have e2 : decide (s.length ≤ 40) = decide ((s.length : Int) ≤ 40) := decide_eq_decide.2 (by omega)
      simpa [within, hp, e1, e2] using hR
    · simp only [h1, decide_false, guardG_ft, pv_v, vPick_false, bindO_some_eq]
      refine weakW_keep ?_
      have e1 : ¬ 1 ≤ s.length := by omega
      simpa [within, hp, e1] using hR

end Go.Proofs.YtiniifbmeobmgaaGreatDoor
