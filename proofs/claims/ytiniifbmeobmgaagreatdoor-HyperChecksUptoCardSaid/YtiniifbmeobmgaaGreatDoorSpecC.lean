/- What the functions on words, metanotions and parts answer. -/
import Derived.Test.YtiniifbmeobmgaaGreatDoorSpecB
set_option linter.unusedVariables false
set_option linter.unusedSimpArgs false
namespace Go.Proofs.YtiniifbmeobmgaaGreatDoor
open Go Go.Abs

abbrev Str := List UInt8
def isWord (s : Str) : Bool := within 97 122 s
def isMeta (s : Str) : Bool := !(s == [69, 77, 80, 84, 89]) && within 65 90 s
/-- A digit ends the text. -/
def digitEnd (s : Str) : Bool := match s.getLast? with
  | some c => decide ((c.toNat : Int) ≥ 49) && decide ((c.toNat : Int) ≤ 57)
  | none => false
def metaOf (s : Str) : Str := if digitEnd s then s.dropLast else s
def isParam (s : Str) : Bool := isMeta (metaOf s)

theorem c125 {s : Str} (hs : s.length < 4611686018427387904) (σ : St) : Ret W 125 [.str s] σ (.bool (isWord s)) := by
  refine ret_of fun R hR => ?_
  rw [fn125_eq]
  unfold fn125
  refine (c123 hs _ _ _).callB ?_
  exact weakW_keep hR

theorem c57 {s : Str} (hs : s.length < 4611686018427387904) (σ : St) : Ret W 57 [.str s] σ (.bool (isMeta s)) := by
  refine ret_of fun R hR => ?_
  rw [fn57_eq]
  unfold fn57
  simp only [bindO_some_eq, bindO_none_eq, bindS_some, condW_true, condW_false, guardG_true, guardG_false, guardG_tf, guardG_ft, guardG_skip, pv_v, pv_loc, lookP_cons, lookE_cons, vPick_true, vPick_false, vUn_not, vExtract_tuple, vBin_lss, vBin_leq, vBin_gtr, vBin_geq, vBin_eql, vBin_neq, vBin_eql_str, vBin_neq_str, vLen_str, vLen_list, vLen_sref, vLoad_eptr, vPart_agg, vPart_two, vPart_str, vPart_bool, vPart_int, vPart_list, vField_eptr, vField_ptr, Nat.reduceEqDiff, Nat.zero_add, Nat.add_zero, if_true, if_false, decide_true, decide_false, Bool.not_true, Bool.not_false, List.getElem?_cons_zero, List.getElem?_cons_succ, Int.ofNat_lt, eq_self]
  cases he : (s == [69, 77, 80, 84, 89]) with
  | true =>
    simp only [bindO_some_eq, bindO_none_eq, bindS_some, condW_true, condW_false, guardG_true, guardG_false, guardG_tf, guardG_ft, guardG_skip, pv_v, pv_loc, lookP_cons, lookE_cons, vPick_true, vPick_false, vUn_not, vExtract_tuple, vBin_lss, vBin_leq, vBin_gtr, vBin_geq, vBin_eql, vBin_neq, vBin_eql_str, vBin_neq_str, vLen_str, vLen_list, vLen_sref, vLoad_eptr, vPart_agg, vPart_two, vPart_str, vPart_bool, vPart_int, vPart_list, vField_eptr, vField_ptr, Nat.reduceEqDiff, Nat.zero_add, Nat.add_zero, if_true, if_false, decide_true, decide_false, Bool.not_true, Bool.not_false, List.getElem?_cons_zero, List.getElem?_cons_succ, Int.ofNat_lt, eq_self]
    refine weakW_keep ?_
    simpa [isMeta, he] using hR
  | false =>
    simp only [bindO_some_eq, bindO_none_eq, bindS_some, condW_true, condW_false, guardG_true, guardG_false, guardG_tf, guardG_ft, guardG_skip, pv_v, pv_loc, lookP_cons, lookE_cons, vPick_true, vPick_false, vUn_not, vExtract_tuple, vBin_lss, vBin_leq, vBin_gtr, vBin_geq, vBin_eql, vBin_neq, vBin_eql_str, vBin_neq_str, vLen_str, vLen_list, vLen_sref, vLoad_eptr, vPart_agg, vPart_two, vPart_str, vPart_bool, vPart_int, vPart_list, vField_eptr, vField_ptr, Nat.reduceEqDiff, Nat.zero_add, Nat.add_zero, if_true, if_false, decide_true, decide_false, Bool.not_true, Bool.not_false, List.getElem?_cons_zero, List.getElem?_cons_succ, Int.ofNat_lt, eq_self]
    refine (c123 hs _ _ _).callB ?_
    refine weakW_keep ?_
    simpa [isMeta, he] using hR

theorem getLast_at {s : Str} {c : UInt8} (h : s.getLast? = some c) : s ≠ [] ∧ s[s.length - 1]? = some c := by
  cases s with
  | nil => simp at h
  | cons a l =>
    refine ⟨by simp, ?_⟩
    rw [List.getLast?_eq_getElem?] at h
    exact h

theorem take_dropLast (s : Str) : vSubStr (.str s) none (some (.int .i64 ((s.length - 1 : Nat) : Int))) = some (.str s.dropLast) := by
  simp [vSubStr, bound, List.dropLast_eq_take]

theorem c64 {s : Str} (hs : s.length < 4611686018427387904) (σ : St) : Ret W 64 [.str s] σ (.str (metaOf s)) := by
  refine ret_of fun R hR => ?_
  rw [fn64_eq]
  unfold fn64
  simp only [bindO_some_eq, bindO_none_eq, bindS_some, condW_true, condW_false, guardG_true, guardG_false, guardG_tf, guardG_ft, guardG_skip, pv_v, pv_loc, lookP_cons, lookE_cons, vPick_true, vPick_false, vUn_not, vExtract_tuple, vBin_lss, vBin_leq, vBin_gtr, vBin_geq, vBin_eql, vBin_neq, vBin_eql_str, vBin_neq_str, vLen_str, vLen_list, vLen_sref, vLoad_eptr, vPart_agg, vPart_two, vPart_str, vPart_bool, vPart_int, vPart_list, vField_eptr, vField_ptr, Nat.reduceEqDiff, Nat.zero_add, Nat.add_zero, if_true, if_false, decide_true, decide_false, Bool.not_true, Bool.not_false, List.getElem?_cons_zero, List.getElem?_cons_succ, Int.ofNat_lt, eq_self]
  cases hl : s.getLast? with
  | none =>
    have : s = [] := by simpa using hl
    subst this
    simp only [List.length_nil, bindO_some_eq, bindO_none_eq, bindS_some, condW_true, condW_false, guardG_true, guardG_false, guardG_tf, guardG_ft, guardG_skip, pv_v, pv_loc, lookP_cons, lookE_cons, vPick_true, vPick_false, vUn_not, vExtract_tuple, vBin_lss, vBin_leq, vBin_gtr, vBin_geq, vBin_eql, vBin_neq, vBin_eql_str, vBin_neq_str, vLen_str, vLen_list, vLen_sref, vLoad_eptr, vPart_agg, vPart_two, vPart_str, vPart_bool, vPart_int, vPart_list, vField_eptr, vField_ptr, Nat.reduceEqDiff, Nat.zero_add, Nat.add_zero, if_true, if_false, decide_true, decide_false, Bool.not_true, Bool.not_false, List.getElem?_cons_zero, List.getElem?_cons_succ, Int.ofNat_lt, eq_self]
    exact weakW_keep hR
  | some c =>
    obtain ⟨hne, hc⟩ := getLast_at hl
    have hpos : 0 < s.length := List.length_pos_iff.2 hne
    have h1 : (s.length : Int) > 0 := by omega
    have h2 : ((s.length : Int) - 1) = ((s.length - 1 : Nat) : Int) := by omega
    simp only [h1, bindO_some_eq, bindO_none_eq, bindS_some, condW_true, condW_false, guardG_true, guardG_false, guardG_tf, guardG_ft, guardG_skip, pv_v, pv_loc, lookP_cons, lookE_cons, vPick_true, vPick_false, vUn_not, vExtract_tuple, vBin_lss, vBin_leq, vBin_gtr, vBin_geq, vBin_eql, vBin_neq, vBin_eql_str, vBin_neq_str, vLen_str, vLen_list, vLen_sref, vLoad_eptr, vPart_agg, vPart_two, vPart_str, vPart_bool, vPart_int, vPart_list, vField_eptr, vField_ptr, Nat.reduceEqDiff, Nat.zero_add, Nat.add_zero, if_true, if_false, decide_true, decide_false, Bool.not_true, Bool.not_false, List.getElem?_cons_zero, List.getElem?_cons_succ, Int.ofNat_lt, eq_self]
    rw [vBin_sub _ (by omega) (by omega), h2]
    simp only [vStrAt_nat _ hc, bindO_some_eq, bindO_none_eq, bindS_some, condW_true, condW_false, guardG_true, guardG_false, guardG_tf, guardG_ft, guardG_skip, pv_v, pv_loc, lookP_cons, lookE_cons, vPick_true, vPick_false, vUn_not, vExtract_tuple, vBin_lss, vBin_leq, vBin_gtr, vBin_geq, vBin_eql, vBin_neq, vBin_eql_str, vBin_neq_str, vLen_str, vLen_list, vLen_sref, vLoad_eptr, vPart_agg, vPart_two, vPart_str, vPart_bool, vPart_int, vPart_list, vField_eptr, vField_ptr, Nat.reduceEqDiff, Nat.zero_add, Nat.add_zero, if_true, if_false, decide_true, decide_false, Bool.not_true, Bool.not_false, List.getElem?_cons_zero, List.getElem?_cons_succ, Int.ofNat_lt, eq_self]
    have hm : metaOf s = if decide ((c.toNat : Int) ≥ 49) && decide ((c.toNat : Int) ≤ 57) then s.dropLast else s := by
      unfold metaOf digitEnd
      rw [hl]
    rw [hm] at hR
    cases h3 : decide ((c.toNat : Int) ≥ 49) with
    | false =>
      simp only [bindO_some_eq, bindO_none_eq, bindS_some, condW_true, condW_false, guardG_true, guardG_false, guardG_tf, guardG_ft, guardG_skip, pv_v, pv_loc, lookP_cons, lookE_cons, vPick_true, vPick_false, vUn_not, vExtract_tuple, vBin_lss, vBin_leq, vBin_gtr, vBin_geq, vBin_eql, vBin_neq, vBin_eql_str, vBin_neq_str, vLen_str, vLen_list, vLen_sref, vLoad_eptr, vPart_agg, vPart_two, vPart_str, vPart_bool, vPart_int, vPart_list, vField_eptr, vField_ptr, Nat.reduceEqDiff, Nat.zero_add, Nat.add_zero, if_true, if_false, decide_true, decide_false, Bool.not_true, Bool.not_false, List.getElem?_cons_zero, List.getElem?_cons_succ, Int.ofNat_lt, eq_self]
      refine weakW_keep ?_
      simpa [h3] using hR
    | true =>
      simp only [vStrAt_nat _ hc, bindO_some_eq, bindO_none_eq, bindS_some, condW_true, condW_false, guardG_true, guardG_false, guardG_tf, guardG_ft, guardG_skip, pv_v, pv_loc, lookP_cons, lookE_cons, vPick_true, vPick_false, vUn_not, vExtract_tuple, vBin_lss, vBin_leq, vBin_gtr, vBin_geq, vBin_eql, vBin_neq, vBin_eql_str, vBin_neq_str, vLen_str, vLen_list, vLen_sref, vLoad_eptr, vPart_agg, vPart_two, vPart_str, vPart_bool, vPart_int, vPart_list, vField_eptr, vField_ptr, Nat.reduceEqDiff, Nat.zero_add, Nat.add_zero, if_true, if_false, decide_true, decide_false, Bool.not_true, Bool.not_false, List.getElem?_cons_zero, List.getElem?_cons_succ, Int.ofNat_lt, eq_self]
      cases h4 : decide ((c.toNat : Int) ≤ 57) with
      | false =>
        simp only [bindO_some_eq, bindO_none_eq, bindS_some, condW_true, condW_false, guardG_true, guardG_false, guardG_tf, guardG_ft, guardG_skip, pv_v, pv_loc, lookP_cons, lookE_cons, vPick_true, vPick_false, vUn_not, vExtract_tuple, vBin_lss, vBin_leq, vBin_gtr, vBin_geq, vBin_eql, vBin_neq, vBin_eql_str, vBin_neq_str, vLen_str, vLen_list, vLen_sref, vLoad_eptr, vPart_agg, vPart_two, vPart_str, vPart_bool, vPart_int, vPart_list, vField_eptr, vField_ptr, Nat.reduceEqDiff, Nat.zero_add, Nat.add_zero, if_true, if_false, decide_true, decide_false, Bool.not_true, Bool.not_false, List.getElem?_cons_zero, List.getElem?_cons_succ, Int.ofNat_lt, eq_self]
        refine weakW_keep ?_
        simpa [h3, h4] using hR
      | true =>
        simp only [take_dropLast, bindO_some_eq, bindO_none_eq, bindS_some, condW_true, condW_false, guardG_true, guardG_false, guardG_tf, guardG_ft, guardG_skip, pv_v, pv_loc, lookP_cons, lookE_cons, vPick_true, vPick_false, vUn_not, vExtract_tuple, vBin_lss, vBin_leq, vBin_gtr, vBin_geq, vBin_eql, vBin_neq, vBin_eql_str, vBin_neq_str, vLen_str, vLen_list, vLen_sref, vLoad_eptr, vPart_agg, vPart_two, vPart_str, vPart_bool, vPart_int, vPart_list, vField_eptr, vField_ptr, Nat.reduceEqDiff, Nat.zero_add, Nat.add_zero, if_true, if_false, decide_true, decide_false, Bool.not_true, Bool.not_false, List.getElem?_cons_zero, List.getElem?_cons_succ, Int.ofNat_lt, eq_self]
        refine weakW_keep ?_
        simpa [h3, h4] using hR

theorem metaOf_len (s : Str) : (metaOf s).length ≤ s.length := by
  unfold metaOf
  split
  · simp
  · exact Nat.le_refl _

theorem c126 {s : Str} (hs : s.length < 4611686018427387904) (σ : St) : Ret W 126 [.str s] σ (.bool (isParam s)) := by
  refine ret_of fun R hR => ?_
  rw [fn126_eq]
  unfold fn126
  refine (c64 hs _).callB ?_
  refine (c57 (Nat.lt_of_le_of_lt (metaOf_len s) hs) _).callB ?_
  exact weakW_keep hR

/-! ### The reference's -/

theorem c128 {s : Str} (hs : s.length < 4611686018427387904) (a b : Int) (σ : St) : Ret W 128 [.str s, .int .u8 a, .int .u8 b] σ (.bool (within a b s)) := by
  refine ret_of fun R hR => ?_
  rw [fn128_eq]
  unfold fn128
  refine CutW_of ?_
  refine Lfp_up s.length (fun i x σ' => x = lookP [(0, .str s), (1, .int .u8 a), (2, .int .u8 b), (7, .int .i64 i)] ∧ σ' = σ ∧ inR a b (s.take i) = true) ?_ ⟨rfl, rfl, rfl⟩
  rintro Φ i x σ' hi ⟨rfl, rfl, hp⟩ next
  simp only [bindO_some_eq, bindO_none_eq, bindS_some, condW_true, condW_false, guardG_true, guardG_false, guardG_tf, guardG_ft, guardG_skip, pv_v, pv_loc, lookP_cons, lookE_cons, vPick_true, vPick_false, vUn_not, vExtract_tuple, vBin_lss, vBin_leq, vBin_gtr, vBin_geq, vBin_eql, vBin_neq, vBin_eql_str, vBin_neq_str, vLen_str, vLen_list, vLen_sref, vLoad_eptr, vPart_agg, vPart_two, vPart_str, vPart_bool, vPart_int, vPart_list, vField_eptr, vField_ptr, Nat.reduceEqDiff, Nat.zero_add, Nat.add_zero, if_true, if_false, decide_true, decide_false, Bool.not_true, Bool.not_false, List.getElem?_cons_zero, List.getElem?_cons_succ, Int.ofNat_lt, eq_self]
  by_cases hlt : i < s.length
  · have hc : s[i]? = some s[i] := by simp [hlt]
    have htk := inR_take hp hc
    simp only [hlt, vStrAt_nat _ hc, bindO_some_eq, bindO_none_eq, bindS_some, condW_true, condW_false, guardG_true, guardG_false, guardG_tf, guardG_ft, guardG_skip, pv_v, pv_loc, lookP_cons, lookE_cons, vPick_true, vPick_false, vUn_not, vExtract_tuple, vBin_lss, vBin_leq, vBin_gtr, vBin_geq, vBin_eql, vBin_neq, vBin_eql_str, vBin_neq_str, vLen_str, vLen_list, vLen_sref, vLoad_eptr, vPart_agg, vPart_two, vPart_str, vPart_bool, vPart_int, vPart_list, vField_eptr, vField_ptr, Nat.reduceEqDiff, Nat.zero_add, Nat.add_zero, if_true, if_false, decide_true, decide_false, Bool.not_true, Bool.not_false, List.getElem?_cons_zero, List.getElem?_cons_succ, Int.ofNat_lt, eq_self]
    generalize s[i] = c at hc htk
    by_cases h1 : (c.toNat : Int) < a
    · have : inR a b s = false := inR_false (i := i + 1) (by rw [htk]; simp; omega)
      simp only [h1, bindO_some_eq, bindO_none_eq, bindS_some, condW_true, condW_false, guardG_true, guardG_false, guardG_tf, guardG_ft, guardG_skip, pv_v, pv_loc, lookP_cons, lookE_cons, vPick_true, vPick_false, vUn_not, vExtract_tuple, vBin_lss, vBin_leq, vBin_gtr, vBin_geq, vBin_eql, vBin_neq, vBin_eql_str, vBin_neq_str, vLen_str, vLen_list, vLen_sref, vLoad_eptr, vPart_agg, vPart_two, vPart_str, vPart_bool, vPart_int, vPart_list, vField_eptr, vField_ptr, Nat.reduceEqDiff, Nat.zero_add, Nat.add_zero, if_true, if_false, decide_true, decide_false, Bool.not_true, Bool.not_false, List.getElem?_cons_zero, List.getElem?_cons_succ, Int.ofNat_lt, eq_self]
      refine weakW_keep ?_
      simpa [within, this] using hR
    · by_cases h2 : (c.toNat : Int) > b
      · have : inR a b s = false := inR_false (i := i + 1) (by rw [htk]; simp; omega)
        simp only [h1, h2, bindO_some_eq, bindO_none_eq, bindS_some, condW_true, condW_false, guardG_true, guardG_false, guardG_tf, guardG_ft, guardG_skip, pv_v, pv_loc, lookP_cons, lookE_cons, vPick_true, vPick_false, vUn_not, vExtract_tuple, vBin_lss, vBin_leq, vBin_gtr, vBin_geq, vBin_eql, vBin_neq, vBin_eql_str, vBin_neq_str, vLen_str, vLen_list, vLen_sref, vLoad_eptr, vPart_agg, vPart_two, vPart_str, vPart_bool, vPart_int, vPart_list, vField_eptr, vField_ptr, Nat.reduceEqDiff, Nat.zero_add, Nat.add_zero, if_true, if_false, decide_true, decide_false, Bool.not_true, Bool.not_false, List.getElem?_cons_zero, List.getElem?_cons_succ, Int.ofNat_lt, eq_self]
        refine weakW_keep ?_
        simpa [within, this] using hR
      · simp only [h1, h2, bindO_some_eq, bindO_none_eq, bindS_some, condW_true, condW_false, guardG_true, guardG_false, guardG_tf, guardG_ft, guardG_skip, pv_v, pv_loc, lookP_cons, lookE_cons, vPick_true, vPick_false, vUn_not, vExtract_tuple, vBin_lss, vBin_leq, vBin_gtr, vBin_geq, vBin_eql, vBin_neq, vBin_eql_str, vBin_neq_str, vLen_str, vLen_list, vLen_sref, vLoad_eptr, vPart_agg, vPart_two, vPart_str, vPart_bool, vPart_int, vPart_list, vField_eptr, vField_ptr, Nat.reduceEqDiff, Nat.zero_add, Nat.add_zero, if_true, if_false, decide_true, decide_false, Bool.not_true, Bool.not_false, List.getElem?_cons_zero, List.getElem?_cons_succ, Int.ofNat_lt, eq_self]
        rw [vBin_add _ (by omega) (by omega)]
        refine next _ _ hlt ⟨?_, rfl, by rw [htk]; simp; omega⟩
        simp
  · obtain rfl : i = s.length := by omega
    rw [List.take_length] at hp
    simp only [hlt, bindO_some_eq, bindO_none_eq, bindS_some, condW_true, condW_false, guardG_true, guardG_false, guardG_tf, guardG_ft, guardG_skip, pv_v, pv_loc, lookP_cons, lookE_cons, vPick_true, vPick_false, vUn_not, vExtract_tuple, vBin_lss, vBin_leq, vBin_gtr, vBin_geq, vBin_eql, vBin_neq, vBin_eql_str, vBin_neq_str, vLen_str, vLen_list, vLen_sref, vLoad_eptr, vPart_agg, vPart_two, vPart_str, vPart_bool, vPart_int, vPart_list, vField_eptr, vField_ptr, Nat.reduceEqDiff, Nat.zero_add, Nat.add_zero, if_true, if_false, decide_true, decide_false, Bool.not_true, Bool.not_false, List.getElem?_cons_zero, List.getElem?_cons_succ, Int.ofNat_lt, eq_self]
    by_cases h1 : (s.length : Int) ≥ 1
    · simp only [h1, bindO_some_eq, bindO_none_eq, bindS_some, condW_true, condW_false, guardG_true, guardG_false, guardG_tf, guardG_ft, guardG_skip, pv_v, pv_loc, lookP_cons, lookE_cons, vPick_true, vPick_false, vUn_not, vExtract_tuple, vBin_lss, vBin_leq, vBin_gtr, vBin_geq, vBin_eql, vBin_neq, vBin_eql_str, vBin_neq_str, vLen_str, vLen_list, vLen_sref, vLoad_eptr, vPart_agg, vPart_two, vPart_str, vPart_bool, vPart_int, vPart_list, vField_eptr, vField_ptr, Nat.reduceEqDiff, Nat.zero_add, Nat.add_zero, if_true, if_false, decide_true, decide_false, Bool.not_true, Bool.not_false, List.getElem?_cons_zero, List.getElem?_cons_succ, Int.ofNat_lt, eq_self]
      refine weakW_keep ?_
      have e1 : 1 ≤ s.length := by omega
      have e2 : decide (s.length ≤ 40) = decide ((s.length : Int) ≤ 40) := decide_eq_decide.2 (by omega)
      simpa [within, hp, e1, e2] using hR
    · simp only [h1, bindO_some_eq, bindO_none_eq, bindS_some, condW_true, condW_false, guardG_true, guardG_false, guardG_tf, guardG_ft, guardG_skip, pv_v, pv_loc, lookP_cons, lookE_cons, vPick_true, vPick_false, vUn_not, vExtract_tuple, vBin_lss, vBin_leq, vBin_gtr, vBin_geq, vBin_eql, vBin_neq, vBin_eql_str, vBin_neq_str, vLen_str, vLen_list, vLen_sref, vLoad_eptr, vPart_agg, vPart_two, vPart_str, vPart_bool, vPart_int, vPart_list, vField_eptr, vField_ptr, Nat.reduceEqDiff, Nat.zero_add, Nat.add_zero, if_true, if_false, decide_true, decide_false, Bool.not_true, Bool.not_false, List.getElem?_cons_zero, List.getElem?_cons_succ, Int.ofNat_lt, eq_self]
      refine weakW_keep ?_
      have e1 : ¬ 1 ≤ s.length := by omega
      simpa [within, hp, e1] using hR

theorem c130 {s : Str} (hs : s.length < 4611686018427387904) (σ : St) : Ret W 130 [.str s] σ (.bool (isWord s)) := by
  refine ret_of fun R hR => ?_
  rw [fn130_eq]
  unfold fn130
  refine (c128 hs _ _ _).callB ?_
  exact weakW_keep hR

theorem c66 {s : Str} (hs : s.length < 4611686018427387904) (σ : St) : Ret W 66 [.str s] σ (.bool (isMeta s)) := by
  refine ret_of fun R hR => ?_
  rw [fn66_eq]
  unfold fn66
  refine (c128 hs _ _ _).callB ?_
  cases hw : within 65 90 s with
  | true =>
    simp only [bindO_some_eq, bindO_none_eq, bindS_some, condW_true, condW_false, guardG_true, guardG_false, guardG_tf, guardG_ft, guardG_skip, pv_v, pv_loc, lookP_cons, lookE_cons, vPick_true, vPick_false, vUn_not, vExtract_tuple, vBin_lss, vBin_leq, vBin_gtr, vBin_geq, vBin_eql, vBin_neq, vBin_eql_str, vBin_neq_str, vLen_str, vLen_list, vLen_sref, vLoad_eptr, vPart_agg, vPart_two, vPart_str, vPart_bool, vPart_int, vPart_list, vField_eptr, vField_ptr, Nat.reduceEqDiff, Nat.zero_add, Nat.add_zero, if_true, if_false, decide_true, decide_false, Bool.not_true, Bool.not_false, List.getElem?_cons_zero, List.getElem?_cons_succ, Int.ofNat_lt, eq_self]
    refine weakW_keep ?_
    simpa [isMeta, hw] using hR
  | false =>
    simp only [bindO_some_eq, bindO_none_eq, bindS_some, condW_true, condW_false, guardG_true, guardG_false, guardG_tf, guardG_ft, guardG_skip, pv_v, pv_loc, lookP_cons, lookE_cons, vPick_true, vPick_false, vUn_not, vExtract_tuple, vBin_lss, vBin_leq, vBin_gtr, vBin_geq, vBin_eql, vBin_neq, vBin_eql_str, vBin_neq_str, vLen_str, vLen_list, vLen_sref, vLoad_eptr, vPart_agg, vPart_two, vPart_str, vPart_bool, vPart_int, vPart_list, vField_eptr, vField_ptr, Nat.reduceEqDiff, Nat.zero_add, Nat.add_zero, if_true, if_false, decide_true, decide_false, Bool.not_true, Bool.not_false, List.getElem?_cons_zero, List.getElem?_cons_succ, Int.ofNat_lt, eq_self]
    refine weakW_keep ?_
    simpa [isMeta, hw] using hR

/-- The metanotion of a parameter, as the reference has it: none: the empty text. -/
def base (s : Str) : Str := if isMeta (if decide (1 < s.length) && digitEnd s then s.dropLast else s) then (if decide (1 < s.length) && digitEnd s then s.dropLast else s) else []

theorem c129 {s : Str} (hs : s.length < 4611686018427387904) (σ : St) : Ret W 129 [.str s] σ (.str (base s)) := by
  refine ret_of fun R hR => ?_
  rw [fn129_eq]
  unfold fn129
  refine CutW_by (fun x σ' => x 0 = .str (if decide (1 < s.length) && digitEnd s then s.dropLast else s) ∧ σ' = σ) ?_ ?_
  · rintro x σ' ⟨hx, rfl⟩
    rw [hx]
    have hle : (if decide (1 < s.length) && digitEnd s then s.dropLast else s).length < 4611686018427387904 := by
      split
      · simp; omega
      · exact hs
    unfold base at hR
    generalize (if decide (1 < s.length) && digitEnd s then s.dropLast else s) = t at hR hle
    refine (c66 hle _).callB ?_
    cases hm : isMeta t with
    | true =>
      simp only [bindO_some_eq, bindO_none_eq, bindS_some, condW_true, condW_false, guardG_true, guardG_false, guardG_tf, guardG_ft, guardG_skip, pv_v, pv_loc, lookP_cons, lookE_cons, vPick_true, vPick_false, vUn_not, vExtract_tuple, vBin_lss, vBin_leq, vBin_gtr, vBin_geq, vBin_eql, vBin_neq, vBin_eql_str, vBin_neq_str, vLen_str, vLen_list, vLen_sref, vLoad_eptr, vPart_agg, vPart_two, vPart_str, vPart_bool, vPart_int, vPart_list, vField_eptr, vField_ptr, Nat.reduceEqDiff, Nat.zero_add, Nat.add_zero, if_true, if_false, decide_true, decide_false, Bool.not_true, Bool.not_false, List.getElem?_cons_zero, List.getElem?_cons_succ, Int.ofNat_lt, eq_self]
      refine weakW_keep ?_
      simpa [hm] using hR
    | false =>
      simp only [bindO_some_eq, bindO_none_eq, bindS_some, condW_true, condW_false, guardG_true, guardG_false, guardG_tf, guardG_ft, guardG_skip, pv_v, pv_loc, lookP_cons, lookE_cons, vPick_true, vPick_false, vUn_not, vExtract_tuple, vBin_lss, vBin_leq, vBin_gtr, vBin_geq, vBin_eql, vBin_neq, vBin_eql_str, vBin_neq_str, vLen_str, vLen_list, vLen_sref, vLoad_eptr, vPart_agg, vPart_two, vPart_str, vPart_bool, vPart_int, vPart_list, vField_eptr, vField_ptr, Nat.reduceEqDiff, Nat.zero_add, Nat.add_zero, if_true, if_false, decide_true, decide_false, Bool.not_true, Bool.not_false, List.getElem?_cons_zero, List.getElem?_cons_succ, Int.ofNat_lt, eq_self]
      refine weakW_keep ?_
      simpa [hm] using hR
  · simp only [bindO_some_eq, bindO_none_eq, bindS_some, condW_true, condW_false, guardG_true, guardG_false, guardG_tf, guardG_ft, guardG_skip, pv_v, pv_loc, lookP_cons, lookE_cons, vPick_true, vPick_false, vUn_not, vExtract_tuple, vBin_lss, vBin_leq, vBin_gtr, vBin_geq, vBin_eql, vBin_neq, vBin_eql_str, vBin_neq_str, vLen_str, vLen_list, vLen_sref, vLoad_eptr, vPart_agg, vPart_two, vPart_str, vPart_bool, vPart_int, vPart_list, vField_eptr, vField_ptr, Nat.reduceEqDiff, Nat.zero_add, Nat.add_zero, if_true, if_false, decide_true, decide_false, Bool.not_true, Bool.not_false, List.getElem?_cons_zero, List.getElem?_cons_succ, Int.ofNat_lt, eq_self]
    rw [vBin_sub _ (by omega) (by omega)]
    simp only [bindO_some_eq, bindO_none_eq, bindS_some, condW_true, condW_false, guardG_true, guardG_false, guardG_tf, guardG_ft, guardG_skip, pv_v, pv_loc, lookP_cons, lookE_cons, vPick_true, vPick_false, vUn_not, vExtract_tuple, vBin_lss, vBin_leq, vBin_gtr, vBin_geq, vBin_eql, vBin_neq, vBin_eql_str, vBin_neq_str, vLen_str, vLen_list, vLen_sref, vLoad_eptr, vPart_agg, vPart_two, vPart_str, vPart_bool, vPart_int, vPart_list, vField_eptr, vField_ptr, Nat.reduceEqDiff, Nat.zero_add, Nat.add_zero, if_true, if_false, decide_true, decide_false, Bool.not_true, Bool.not_false, List.getElem?_cons_zero, List.getElem?_cons_succ, Int.ofNat_lt, eq_self]
    by_cases h1 : ((s.length : Int) - 1) > 0
    · have h2 : ((s.length : Int) - 1) = ((s.length - 1 : Nat) : Int) := by omega
      have e1 : 1 < s.length := by omega
      simp only [h1, bindO_some_eq, bindO_none_eq, bindS_some, condW_true, condW_false, guardG_true, guardG_false, guardG_tf, guardG_ft, guardG_skip, pv_v, pv_loc, lookP_cons, lookE_cons, vPick_true, vPick_false, vUn_not, vExtract_tuple, vBin_lss, vBin_leq, vBin_gtr, vBin_geq, vBin_eql, vBin_neq, vBin_eql_str, vBin_neq_str, vLen_str, vLen_list, vLen_sref, vLoad_eptr, vPart_agg, vPart_two, vPart_str, vPart_bool, vPart_int, vPart_list, vField_eptr, vField_ptr, Nat.reduceEqDiff, Nat.zero_add, Nat.add_zero, if_true, if_false, decide_true, decide_false, Bool.not_true, Bool.not_false, List.getElem?_cons_zero, List.getElem?_cons_succ, Int.ofNat_lt, eq_self]
      rw [h2]
      have hc : s[s.length - 1]? = some (s[s.length - 1]'(by omega)) := by simp [show s.length - 1 < s.length by omega]
      have hl : s.getLast? = some (s[s.length - 1]'(by omega)) := by rw [List.getLast?_eq_getElem?]; exact hc
      generalize s[s.length - 1]'(by omega) = c at hc hl
      have hd : digitEnd s = (decide ((c.toNat : Int) ≥ 49) && decide ((c.toNat : Int) ≤ 57)) := by unfold digitEnd; rw [hl]
      simp only [vStrAt_nat _ hc, hd, e1, bindO_some_eq, bindO_none_eq, bindS_some, condW_true, condW_false, guardG_true, guardG_false, guardG_tf, guardG_ft, guardG_skip, pv_v, pv_loc, lookP_cons, lookE_cons, vPick_true, vPick_false, vUn_not, vExtract_tuple, vBin_lss, vBin_leq, vBin_gtr, vBin_geq, vBin_eql, vBin_neq, vBin_eql_str, vBin_neq_str, vLen_str, vLen_list, vLen_sref, vLoad_eptr, vPart_agg, vPart_two, vPart_str, vPart_bool, vPart_int, vPart_list, vField_eptr, vField_ptr, Nat.reduceEqDiff, Nat.zero_add, Nat.add_zero, if_true, if_false, decide_true, decide_false, Bool.not_true, Bool.not_false, List.getElem?_cons_zero, List.getElem?_cons_succ, Int.ofNat_lt, eq_self]
      cases h3 : decide ((c.toNat : Int) ≥ 49) with
      | false => simp [bindO_some_eq, bindO_none_eq, bindS_some, condW_true, condW_false, guardG_true, guardG_false, guardG_tf, guardG_ft, guardG_skip, pv_v, pv_loc, lookP_cons, lookE_cons, vPick_true, vPick_false, vUn_not, vExtract_tuple, vBin_lss, vBin_leq, vBin_gtr, vBin_geq, vBin_eql, vBin_neq, vBin_eql_str, vBin_neq_str, vLen_str, vLen_list, vLen_sref, vLoad_eptr, vPart_agg, vPart_two, vPart_str, vPart_bool, vPart_int, vPart_list, vField_eptr, vField_ptr, Nat.reduceEqDiff, Nat.zero_add, Nat.add_zero, if_true, if_false, decide_true, decide_false, Bool.not_true, Bool.not_false, List.getElem?_cons_zero, List.getElem?_cons_succ, Int.ofNat_lt, eq_self]
      | true =>
        simp only [vStrAt_nat _ hc, bindO_some_eq, bindO_none_eq, bindS_some, condW_true, condW_false, guardG_true, guardG_false, guardG_tf, guardG_ft, guardG_skip, pv_v, pv_loc, lookP_cons, lookE_cons, vPick_true, vPick_false, vUn_not, vExtract_tuple, vBin_lss, vBin_leq, vBin_gtr, vBin_geq, vBin_eql, vBin_neq, vBin_eql_str, vBin_neq_str, vLen_str, vLen_list, vLen_sref, vLoad_eptr, vPart_agg, vPart_two, vPart_str, vPart_bool, vPart_int, vPart_list, vField_eptr, vField_ptr, Nat.reduceEqDiff, Nat.zero_add, Nat.add_zero, if_true, if_false, decide_true, decide_false, Bool.not_true, Bool.not_false, List.getElem?_cons_zero, List.getElem?_cons_succ, Int.ofNat_lt, eq_self]
        cases h4 : decide ((c.toNat : Int) ≤ 57) with
        | false => simp [bindO_some_eq, bindO_none_eq, bindS_some, condW_true, condW_false, guardG_true, guardG_false, guardG_tf, guardG_ft, guardG_skip, pv_v, pv_loc, lookP_cons, lookE_cons, vPick_true, vPick_false, vUn_not, vExtract_tuple, vBin_lss, vBin_leq, vBin_gtr, vBin_geq, vBin_eql, vBin_neq, vBin_eql_str, vBin_neq_str, vLen_str, vLen_list, vLen_sref, vLoad_eptr, vPart_agg, vPart_two, vPart_str, vPart_bool, vPart_int, vPart_list, vField_eptr, vField_ptr, Nat.reduceEqDiff, Nat.zero_add, Nat.add_zero, if_true, if_false, decide_true, decide_false, Bool.not_true, Bool.not_false, List.getElem?_cons_zero, List.getElem?_cons_succ, Int.ofNat_lt, eq_self]
        | true =>
          simp only [take_dropLast, bindO_some_eq, bindO_none_eq, bindS_some, condW_true, condW_false, guardG_true, guardG_false, guardG_tf, guardG_ft, guardG_skip, pv_v, pv_loc, lookP_cons, lookE_cons, vPick_true, vPick_false, vUn_not, vExtract_tuple, vBin_lss, vBin_leq, vBin_gtr, vBin_geq, vBin_eql, vBin_neq, vBin_eql_str, vBin_neq_str, vLen_str, vLen_list, vLen_sref, vLoad_eptr, vPart_agg, vPart_two, vPart_str, vPart_bool, vPart_int, vPart_list, vField_eptr, vField_ptr, Nat.reduceEqDiff, Nat.zero_add, Nat.add_zero, if_true, if_false, decide_true, decide_false, Bool.not_true, Bool.not_false, List.getElem?_cons_zero, List.getElem?_cons_succ, Int.ofNat_lt, eq_self]
          simp
    · have e1 : ¬ 1 < s.length := by omega
      simp only [h1, e1, bindO_some_eq, bindO_none_eq, bindS_some, condW_true, condW_false, guardG_true, guardG_false, guardG_tf, guardG_ft, guardG_skip, pv_v, pv_loc, lookP_cons, lookE_cons, vPick_true, vPick_false, vUn_not, vExtract_tuple, vBin_lss, vBin_leq, vBin_gtr, vBin_geq, vBin_eql, vBin_neq, vBin_eql_str, vBin_neq_str, vLen_str, vLen_list, vLen_sref, vLoad_eptr, vPart_agg, vPart_two, vPart_str, vPart_bool, vPart_int, vPart_list, vField_eptr, vField_ptr, Nat.reduceEqDiff, Nat.zero_add, Nat.add_zero, if_true, if_false, decide_true, decide_false, Bool.not_true, Bool.not_false, List.getElem?_cons_zero, List.getElem?_cons_succ, Int.ofNat_lt, eq_self]
      simp

end Go.Proofs.YtiniifbmeobmgaaGreatDoor
