/- The law on Read. -/
import Derived.Test.YtiniifbmeobmgaaGreatDoorRdM
set_option linter.unusedVariables false
set_option linter.unusedSimpArgs false
namespace Go.Proofs.YtiniifbmeobmgaaGreatDoor
open Go Go.Abs

theorem eqG_no : EqG ((.nil, []), (.nil, [])) ((.nil, []), (.nil, [])) :=
  ⟨rfl, fun i x y h => by simp at h, by simp, rfl, fun i x y h => by simp at h, by simp⟩

theorem c5 (hawake : ∀ σ : St, σ = [] → Ret W 13 [] σ (.bool true)) (s : Str) : Ret W 5 [.str s] [] (.bool true) := by
  refine ret_of fun R hR => ?_
  rw [fn5_eq]
  unfold fn5
  refine (hawake [] rfl).callB ?_
  have fin : ∀ σ' : St, weakW [] (.bool true) σ' fun v σ => R (.ret v) σ := fun σ' => weakW_clean List.nil_prefix (.base _ (.bool _)) hR
  simp only [zz, Nat.reduceEqDiff, if_true, if_false, decide_true, decide_false, eq_self]
  cases h1 : decide ((s.length : Int) > 400) with
  | true =>
    simp only [zz, Nat.reduceEqDiff, if_true, if_false, decide_true, decide_false, eq_self]
    exact fin _
  | false =>
    rw [decide_eq_false_iff_not] at h1
    have hs : s.length ≤ 65536 := by omega
    obtain ⟨ts, f, hL⟩ := lex_ex s s.length 0 (Nat.zero_le _) (by omega)
    have hn : ts.length ≤ 65536 := by have := lex_len hL (Nat.zero_le _); omega
    simp only [zz, Nat.reduceEqDiff, if_true, if_false, decide_true, decide_false, eq_self]
    refine (c20 (n := ts.length + 1) hs (Nat.lt_succ_self _) hL _).callB ?_
    have hpf : ∀ e : Flt, vPut 2 (.agg [(.int .i64 0), (.int .i64 0)]) 0 (pvFlt e) = some (pvFlt e) := fun e => rfl
    have hpg : ∀ g : Gram, vPut 2 (.agg [(.list .nil []), (.list .nil [])]) 0 (pvGram g) = some (pvGram g) := fun g => rfl
    have hqf : ∀ e : Flt, vPart true 2 (pvFlt e) 0 = some (pvFlt e) := fun e => rfl
    have hqg : ∀ g : Gram, vPart true 2 (pvGram g) 0 = some (pvGram g) := fun g => rfl
    have heq : ∀ e : Flt, vBin (some (.st [.int, .int])) .eql (pvFlt e) (pvFlt e) = some (.bool true) := fun e => by
      simp [vBin, vEq, vEqL, vEqS, pvFlt]
    have hno : pvNo = pvGram ((.nil, []), (.nil, [])) := rfl
    cases hr : readF s f (ts.length + 1) ts with
    | error e =>
      simp only [readV, hno, hpf, hpg, zz, Nat.reduceEqDiff, if_true, if_false, decide_true, decide_false, eq_self]
      refine (c21' (n := ts.length + 1) hs (Nat.lt_succ_self _) hL _).callB ?_
      rw [hr]
      simp only [refV, hno, hpf, hpg, hqf, hqg, heq, zz, Nat.reduceEqDiff, if_true, if_false, decide_true, decide_false, eq_self]
      refine (c22 eqG_no _).callB ?_
      exact fin _
    | ok g =>
      obtain ⟨ms, rs⟩ := g
      simp only [readV, hpf, hpg, zz, Nat.reduceEqDiff, if_true, if_false, decide_true, decide_false, eq_self]
      refine (c21' (n := ts.length + 1) hs (Nat.lt_succ_self _) hL _).callB ?_
      rw [hr]
      simp only [refV, hpf, hpg, hqf, hqg, heq, zz, Nat.reduceEqDiff, if_true, if_false, decide_true, decide_false, eq_self]
      obtain ⟨q, h2, h3⟩ := bind_ok hr
      obtain ⟨z, hz, hgr⟩ := bind_ok h2
      have hv := (hL.val (Nat.zero_le _) hz).2
      obtain ⟨ho, hol⟩ := gram_ok hs 65536 (Nat.le_refl _) hv (by simpa using hn) ⟨by simp, by simp⟩ hgr
      split at h3
      · cases h3
        refine (c22 (eqG_mk ho hol) _).callB ?_
        exact fin _
      · cases h3

end Go.Proofs.YtiniifbmeobmgaaGreatDoor
