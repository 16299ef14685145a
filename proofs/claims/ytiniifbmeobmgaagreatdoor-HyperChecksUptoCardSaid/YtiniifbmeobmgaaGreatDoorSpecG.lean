/- The reference's Means; the law HyperMeans. -/
import Derived.Test.YtiniifbmeobmgaaGreatDoorSpecF
set_option linter.unusedVariables false
set_option linter.unusedSimpArgs false
namespace Go.Proofs.YtiniifbmeobmgaaGreatDoor
open Go Go.Abs

theorem elems_ext {σ σ' : St} {sz : Nat} {x : PV} {xs : List PV} (h : Elems σ sz x xs) (hσ : ∀ c < σ.length, σ'[c]? = σ[c]?) : Elems σ' sz x xs := by
  cases h with
  | list => exact .list _ _
  | sref b g off z ys xs hb hfit hxs => exact .sref b g off z ys xs (by rw [hσ b (List.getElem?_eq_some_iff.1 hb).1]; exact hb) hfit hxs

theorem c31 {l : List Part} {binds : List Bind} (hl : l.length ≤ 10) (hb : binds.length ≤ 6) (hs : ∀ p ∈ l, p.2.length ≤ 1048576) (hbs : ∀ b ∈ binds, b.2.length ≤ 1048576) {x y : PV} {σ : St}
    (hx : Elems σ 2 x (l.map pvPart)) (hy : Elems σ 2 y (binds.map pvBind)) :
    Ret W 31 [x, y] σ (.tuple [.str (means l binds).1, .int .i64 (means l binds).2]) := by
  refine ret_of fun R hR => ?_
  rw [fn31_eq]
  unfold fn31
  refine (c68 (by omega) (fun p hp => Nat.lt_of_le_of_lt (hs p hp) (by decide)) hx).callB ?_
  cases hbad : l.any (badPart true) with
  | true =>
    simp only [if_true, show ((8 : Int) != 0) = true from rfl, bindO_some_eq, bindO_none_eq, bindS_some, condW_true, condW_false, guardG_true, guardG_false, guardG_tf, guardG_ft, guardG_skip, pv_v, pv_loc, lookP_cons, lookE_cons, vPick_true, vPick_false, vUn_not, vExtract_tuple, vBin_lss, vBin_leq, vBin_gtr, vBin_geq, vBin_eql, vBin_neq, vBin_eql_str, vBin_neq_str, vLen_str, vLen_list, vLen_sref, vLoad_eptr, vPart_agg, vPart_two, vPart_str, vPart_bool, vPart_int, vPart_list, vField_eptr, vField_ptr, Nat.reduceEqDiff, Nat.zero_add, Nat.add_zero, if_true, if_false, decide_true, decide_false, Bool.not_true, Bool.not_false, List.getElem?_cons_zero, List.getElem?_cons_succ, Int.ofNat_lt, eq_self]
    refine weakW_keep ?_
    simpa [means, hbad] using hR
  | false =>
    have hm : means l binds = meansEnd (meansGo binds l []) := by simp [means, hbad]
    simp only [Bool.false_eq_true, if_false, show ((0 : Int) != 0) = false from rfl, bindO_some_eq, bindO_none_eq, bindS_some, condW_true, condW_false, guardG_true, guardG_false, guardG_tf, guardG_ft, guardG_skip, pv_v, pv_loc, lookP_cons, lookE_cons, vPick_true, vPick_false, vUn_not, vExtract_tuple, vBin_lss, vBin_leq, vBin_gtr, vBin_geq, vBin_eql, vBin_neq, vBin_eql_str, vBin_neq_str, vLen_str, vLen_list, vLen_sref, vLoad_eptr, vPart_agg, vPart_two, vPart_str, vPart_bool, vPart_int, vPart_list, vField_eptr, vField_ptr, Nat.reduceEqDiff, Nat.zero_add, Nat.add_zero, if_true, if_false, decide_true, decide_false, Bool.not_true, Bool.not_false, List.getElem?_cons_zero, List.getElem?_cons_succ, Int.ofNat_lt, eq_self]
    refine CutW_of ?_
    refine Lfp_up l.length (fun i z σ' => ∃ (v : PV) (ys : List Str), z = lookP [(0, x), (1, y), (7, v), (8, .int .i64 i)] ∧ Grow σ.length 1 σ' v (ys.map .str) ∧ σ <+: σ' ∧ tot ys ≤ i * 1048577 ∧
        meansGo binds l [] = meansGo binds (l.drop i) ys) ?_ ⟨.list .nil [], [], rfl, .nil _ _ _, List.prefix_rfl, Nat.zero_le _, rfl⟩
    rintro Φ i z σ' hi ⟨v, ys, rfl, hg, hp, htot, hgo⟩ next
    have hylen := len_tot ys
    have hx' := hx.pre hp
    have hy' := hy.pre hp
    simp only [hx'.len, List.length_map, bindO_some_eq, bindO_none_eq, bindS_some, condW_true, condW_false, guardG_true, guardG_false, guardG_tf, guardG_ft, guardG_skip, pv_v, pv_loc, lookP_cons, lookE_cons, vPick_true, vPick_false, vUn_not, vExtract_tuple, vBin_lss, vBin_leq, vBin_gtr, vBin_geq, vBin_eql, vBin_neq, vBin_eql_str, vBin_neq_str, vLen_str, vLen_list, vLen_sref, vLoad_eptr, vPart_agg, vPart_two, vPart_str, vPart_bool, vPart_int, vPart_list, vField_eptr, vField_ptr, Nat.reduceEqDiff, Nat.zero_add, Nat.add_zero, if_true, if_false, decide_true, decide_false, Bool.not_true, Bool.not_false, List.getElem?_cons_zero, List.getElem?_cons_succ, Int.ofNat_lt, eq_self]
    by_cases hlt : i < l.length
    · have hc : l[i]? = some l[i] := by simp [hlt]
      have hmem : l[i] ∈ l := by simp
      generalize l[i] = p at hc hmem
      have hsp := hs p hmem
      rw [meansGo_drop hc] at hgo
      obtain ⟨q, q1, q2, q3⟩ := hx'.at_ (i := i) (k := .i64) (by rw [List.getElem?_map, hc]; rfl) (show (pvPart p).cells? = some _ from rfl) rfl
      obtain ⟨r0, r1, r2⟩ := q3 0
      obtain ⟨r3, r4, r5⟩ := q3 1
      obtain ⟨m, t⟩ := p
      simp only [hlt, q1, r1, r2, bindO_some_eq, bindO_none_eq, bindS_some, condW_true, condW_false, guardG_true, guardG_false, guardG_tf, guardG_ft, guardG_skip, pv_v, pv_loc, lookP_cons, lookE_cons, vPick_true, vPick_false, vUn_not, vExtract_tuple, vBin_lss, vBin_leq, vBin_gtr, vBin_geq, vBin_eql, vBin_neq, vBin_eql_str, vBin_neq_str, vLen_str, vLen_list, vLen_sref, vLoad_eptr, vPart_agg, vPart_two, vPart_str, vPart_bool, vPart_int, vPart_list, vField_eptr, vField_ptr, Nat.reduceEqDiff, Nat.zero_add, Nat.add_zero, if_true, if_false, decide_true, decide_false, Bool.not_true, Bool.not_false, List.getElem?_cons_zero, List.getElem?_cons_succ, Int.ofNat_lt, eq_self]
      refine CutW_of ?_
      simp only [pvPart, bindO_some_eq, bindO_none_eq, bindS_some, condW_true, condW_false, guardG_true, guardG_false, guardG_tf, guardG_ft, guardG_skip, pv_v, pv_loc, lookP_cons, lookE_cons, vPick_true, vPick_false, vUn_not, vExtract_tuple, vBin_lss, vBin_leq, vBin_gtr, vBin_geq, vBin_eql, vBin_neq, vBin_eql_str, vBin_neq_str, vLen_str, vLen_list, vLen_sref, vLoad_eptr, vPart_agg, vPart_two, vPart_str, vPart_bool, vPart_int, vPart_list, vField_eptr, vField_ptr, Nat.reduceEqDiff, Nat.zero_add, Nat.add_zero, if_true, if_false, decide_true, decide_false, Bool.not_true, Bool.not_false, List.getElem?_cons_zero, List.getElem?_cons_succ, Int.ofNat_lt, eq_self]
      cases m with
      | false =>
        simp only [r4, r5, pvPart, vBuildSl_one (sizedStr _), bindO_some_eq, bindO_none_eq, bindS_some, condW_true, condW_false, guardG_true, guardG_false, guardG_tf, guardG_ft, guardG_skip, pv_v, pv_loc, lookP_cons, lookE_cons, vPick_true, vPick_false, vUn_not, vExtract_tuple, vBin_lss, vBin_leq, vBin_gtr, vBin_geq, vBin_eql, vBin_neq, vBin_eql_str, vBin_neq_str, vLen_str, vLen_list, vLen_sref, vLoad_eptr, vPart_agg, vPart_two, vPart_str, vPart_bool, vPart_int, vPart_list, vField_eptr, vField_ptr, Nat.reduceEqDiff, Nat.zero_add, Nat.add_zero, if_true, if_false, decide_true, decide_false, Bool.not_true, Bool.not_false, List.getElem?_cons_zero, List.getElem?_cons_succ, Int.ofNat_lt, eq_self]
        obtain ⟨v', σ'', e1, e2, e3, _⟩ := hg.app (by_ := 16) (y := .list .full [.str t]) hp rfl (by simpa using sizedStr _) (by simp; omega)
        rw [e1]
        simp only [bindO_some_eq, bindO_none_eq, bindS_some, condW_true, condW_false, guardG_true, guardG_false, guardG_tf, guardG_ft, guardG_skip, pv_v, pv_loc, lookP_cons, lookE_cons, vPick_true, vPick_false, vUn_not, vExtract_tuple, vBin_lss, vBin_leq, vBin_gtr, vBin_geq, vBin_eql, vBin_neq, vBin_eql_str, vBin_neq_str, vLen_str, vLen_list, vLen_sref, vLoad_eptr, vPart_agg, vPart_two, vPart_str, vPart_bool, vPart_int, vPart_list, vField_eptr, vField_ptr, Nat.reduceEqDiff, Nat.zero_add, Nat.add_zero, if_true, if_false, decide_true, decide_false, Bool.not_true, Bool.not_false, List.getElem?_cons_zero, List.getElem?_cons_succ, Int.ofNat_lt, eq_self]
        rw [vBin_add _ (by omega) (by omega)]
        refine next _ _ hlt ⟨v', ys ++ [t], by simp, by simpa using e2, e3, ?_, ?_⟩
        · rw [tot_app, tot_one]
          have hsp : t.length ≤ 1048576 := hsp
          omega
        · rw [hgo]
          simp [meansGo]
      | true =>
        simp only [r4, r5, pvPart, bindO_some_eq, bindO_none_eq, bindS_some, condW_true, condW_false, guardG_true, guardG_false, guardG_tf, guardG_ft, guardG_skip, pv_v, pv_loc, lookP_cons, lookE_cons, vPick_true, vPick_false, vUn_not, vExtract_tuple, vBin_lss, vBin_leq, vBin_gtr, vBin_geq, vBin_eql, vBin_neq, vBin_eql_str, vBin_neq_str, vLen_str, vLen_list, vLen_sref, vLoad_eptr, vPart_agg, vPart_two, vPart_str, vPart_bool, vPart_int, vPart_list, vField_eptr, vField_ptr, Nat.reduceEqDiff, Nat.zero_add, Nat.add_zero, if_true, if_false, decide_true, decide_false, Bool.not_true, Bool.not_false, List.getElem?_cons_zero, List.getElem?_cons_succ, Int.ofNat_lt, eq_self]
        refine (c99 (by omega) hy').callB ?_
        cases hv : valueOf binds t with
        | none =>
          simp only [meansGo, hv, if_true] at hgo
          rw [hm, hgo] at hR
          simp only [bindO_some_eq, bindO_none_eq, bindS_some, condW_true, condW_false, guardG_true, guardG_false, guardG_tf, guardG_ft, guardG_skip, pv_v, pv_loc, lookP_cons, lookE_cons, vPick_true, vPick_false, vUn_not, vExtract_tuple, vBin_lss, vBin_leq, vBin_gtr, vBin_geq, vBin_eql, vBin_neq, vBin_eql_str, vBin_neq_str, vLen_str, vLen_list, vLen_sref, vLoad_eptr, vPart_agg, vPart_two, vPart_str, vPart_bool, vPart_int, vPart_list, vField_eptr, vField_ptr, Nat.reduceEqDiff, Nat.zero_add, Nat.add_zero, if_true, if_false, decide_true, decide_false, Bool.not_true, Bool.not_false, List.getElem?_cons_zero, List.getElem?_cons_succ, Int.ofNat_lt, eq_self]
          exact weakW_clean hp (frz_pair _ _ _ _) hR
        | some w =>
          obtain ⟨b, hbm, rfl⟩ := valueOf_mem hv
          have hw4 := hbs b hbm
          simp only [meansGo, hv, if_true] at hgo
          simp only [bindO_some_eq, bindO_none_eq, bindS_some, condW_true, condW_false, guardG_true, guardG_false, guardG_tf, guardG_ft, guardG_skip, pv_v, pv_loc, lookP_cons, lookE_cons, vPick_true, vPick_false, vUn_not, vExtract_tuple, vBin_lss, vBin_leq, vBin_gtr, vBin_geq, vBin_eql, vBin_neq, vBin_eql_str, vBin_neq_str, vLen_str, vLen_list, vLen_sref, vLoad_eptr, vPart_agg, vPart_two, vPart_str, vPart_bool, vPart_int, vPart_list, vField_eptr, vField_ptr, Nat.reduceEqDiff, Nat.zero_add, Nat.add_zero, if_true, if_false, decide_true, decide_false, Bool.not_true, Bool.not_false, List.getElem?_cons_zero, List.getElem?_cons_succ, Int.ofNat_lt, eq_self]
          refine (c100 (by omega) _).callB ?_
          simp only [bindO_some_eq, bindO_none_eq, bindS_some, condW_true, condW_false, guardG_true, guardG_false, guardG_tf, guardG_ft, guardG_skip, pv_v, pv_loc, lookP_cons, lookE_cons, vPick_true, vPick_false, vUn_not, vExtract_tuple, vBin_lss, vBin_leq, vBin_gtr, vBin_geq, vBin_eql, vBin_neq, vBin_eql_str, vBin_neq_str, vLen_str, vLen_list, vLen_sref, vLoad_eptr, vPart_agg, vPart_two, vPart_str, vPart_bool, vPart_int, vPart_list, vField_eptr, vField_ptr, Nat.reduceEqDiff, Nat.zero_add, Nat.add_zero, if_true, if_false, decide_true, decide_false, Bool.not_true, Bool.not_false, List.getElem?_cons_zero, List.getElem?_cons_succ, Int.ofNat_lt, eq_self]
          cases hok : wordsOk b.2 with
          | false =>
            rw [hok] at hgo
            simp only [Bool.false_eq_true, if_false] at hgo
            rw [hm, hgo] at hR
            simp only [bindO_some_eq, bindO_none_eq, bindS_some, condW_true, condW_false, guardG_true, guardG_false, guardG_tf, guardG_ft, guardG_skip, pv_v, pv_loc, lookP_cons, lookE_cons, vPick_true, vPick_false, vUn_not, vExtract_tuple, vBin_lss, vBin_leq, vBin_gtr, vBin_geq, vBin_eql, vBin_neq, vBin_eql_str, vBin_neq_str, vLen_str, vLen_list, vLen_sref, vLoad_eptr, vPart_agg, vPart_two, vPart_str, vPart_bool, vPart_int, vPart_list, vField_eptr, vField_ptr, Nat.reduceEqDiff, Nat.zero_add, Nat.add_zero, if_true, if_false, decide_true, decide_false, Bool.not_true, Bool.not_false, List.getElem?_cons_zero, List.getElem?_cons_succ, Int.ofNat_lt, eq_self]
            exact weakW_clean hp (frz_pair _ _ _ _) hR
          | true =>
            rw [hok] at hgo
            simp only [if_true] at hgo
            have hw1 : vElems (growV ((wordsL b.2).map .str)) σ' = some ((wordsL b.2).map .str) := by
              obtain ⟨k, hk⟩ := growV_list ((wordsL b.2).map PV.str)
              rw [hk]
              rfl
            have hw2 := wordsL_tot b.2
            have hw3 := len_tot (wordsL b.2)
            obtain ⟨v', σ'', e1, e2, e3, _⟩ := hg.app (by_ := 16) hp hw1 (fun z hz => by
              obtain ⟨t, _, rfl⟩ := List.mem_map.1 hz
              exact sizedStr t) (by simp; omega)
            simp only [if_true, e1, bindO_some_eq, bindO_none_eq, bindS_some, condW_true, condW_false, guardG_true, guardG_false, guardG_tf, guardG_ft, guardG_skip, pv_v, pv_loc, lookP_cons, lookE_cons, vPick_true, vPick_false, vUn_not, vExtract_tuple, vBin_lss, vBin_leq, vBin_gtr, vBin_geq, vBin_eql, vBin_neq, vBin_eql_str, vBin_neq_str, vLen_str, vLen_list, vLen_sref, vLoad_eptr, vPart_agg, vPart_two, vPart_str, vPart_bool, vPart_int, vPart_list, vField_eptr, vField_ptr, Nat.reduceEqDiff, Nat.zero_add, Nat.add_zero, if_true, if_false, decide_true, decide_false, Bool.not_true, Bool.not_false, List.getElem?_cons_zero, List.getElem?_cons_succ, Int.ofNat_lt, eq_self]
            rw [vBin_add _ (by omega) (by omega)]
            refine next _ _ hlt ⟨v', ys ++ wordsL b.2, by simp, by simpa using e2, e3, ?_, hgo⟩
            rw [tot_app]
            omega
    · obtain rfl : i = l.length := by omega
      rw [List.drop_length] at hgo
      simp only [hlt, bindO_some_eq, bindO_none_eq, bindS_some, condW_true, condW_false, guardG_true, guardG_false, guardG_tf, guardG_ft, guardG_skip, pv_v, pv_loc, lookP_cons, lookE_cons, vPick_true, vPick_false, vUn_not, vExtract_tuple, vBin_lss, vBin_leq, vBin_gtr, vBin_geq, vBin_eql, vBin_neq, vBin_eql_str, vBin_neq_str, vLen_str, vLen_list, vLen_sref, vLoad_eptr, vPart_agg, vPart_two, vPart_str, vPart_bool, vPart_int, vPart_list, vField_eptr, vField_ptr, Nat.reduceEqDiff, Nat.zero_add, Nat.add_zero, if_true, if_false, decide_true, decide_false, Bool.not_true, Bool.not_false, List.getElem?_cons_zero, List.getElem?_cons_succ, Int.ofNat_lt, eq_self]
      refine (c101 (by omega) hg.elems).callB ?_
      rw [hm, hgo] at hR
      simp only [meansGo, meansEnd] at hR
      exact weakW_clean hp (frz_pair _ _ _ _) hR

/-- The law, the examples' run taken as given. -/
theorem c7 (hawake : ∀ σ : St, σ = [] → Ret W 13 [] σ (.bool true)) {l : List Part} {binds : List Bind} (hs : ∀ p ∈ l, p.2.length ≤ 1048576) (hbs : ∀ b ∈ binds, b.2.length ≤ 1048576) {lk lk' : LK} :
    Ret W 7 [.list lk (l.map pvPart), .list lk' (binds.map pvBind)] [] (.bool true) := by
  refine ret_of fun R hR => ?_
  rw [fn7_eq]
  unfold fn7
  refine (hawake [] rfl).callB ?_
  simp only [List.length_map, bindO_some_eq, bindO_none_eq, bindS_some, condW_true, condW_false, guardG_true, guardG_false, guardG_tf, guardG_ft, guardG_skip, pv_v, pv_loc, lookP_cons, lookE_cons, vPick_true, vPick_false, vUn_not, vExtract_tuple, vBin_lss, vBin_leq, vBin_gtr, vBin_geq, vBin_eql, vBin_neq, vBin_eql_str, vBin_neq_str, vLen_str, vLen_list, vLen_sref, vLoad_eptr, vPart_agg, vPart_two, vPart_str, vPart_bool, vPart_int, vPart_list, vField_eptr, vField_ptr, Nat.reduceEqDiff, Nat.zero_add, Nat.add_zero, if_true, if_false, decide_true, decide_false, Bool.not_true, Bool.not_false, List.getElem?_cons_zero, List.getElem?_cons_succ, Int.ofNat_lt, eq_self]
  by_cases h1 : (l.length : Int) > 10
  · simp only [h1, bindO_some_eq, bindO_none_eq, bindS_some, condW_true, condW_false, guardG_true, guardG_false, guardG_tf, guardG_ft, guardG_skip, pv_v, pv_loc, lookP_cons, lookE_cons, vPick_true, vPick_false, vUn_not, vExtract_tuple, vBin_lss, vBin_leq, vBin_gtr, vBin_geq, vBin_eql, vBin_neq, vBin_eql_str, vBin_neq_str, vLen_str, vLen_list, vLen_sref, vLoad_eptr, vPart_agg, vPart_two, vPart_str, vPart_bool, vPart_int, vPart_list, vField_eptr, vField_ptr, Nat.reduceEqDiff, Nat.zero_add, Nat.add_zero, if_true, if_false, decide_true, decide_false, Bool.not_true, Bool.not_false, List.getElem?_cons_zero, List.getElem?_cons_succ, Int.ofNat_lt, eq_self]
    exact weakW_keep hR
  · simp only [h1, bindO_some_eq, bindO_none_eq, bindS_some, condW_true, condW_false, guardG_true, guardG_false, guardG_tf, guardG_ft, guardG_skip, pv_v, pv_loc, lookP_cons, lookE_cons, vPick_true, vPick_false, vUn_not, vExtract_tuple, vBin_lss, vBin_leq, vBin_gtr, vBin_geq, vBin_eql, vBin_neq, vBin_eql_str, vBin_neq_str, vLen_str, vLen_list, vLen_sref, vLoad_eptr, vPart_agg, vPart_two, vPart_str, vPart_bool, vPart_int, vPart_list, vField_eptr, vField_ptr, Nat.reduceEqDiff, Nat.zero_add, Nat.add_zero, if_true, if_false, decide_true, decide_false, Bool.not_true, Bool.not_false, List.getElem?_cons_zero, List.getElem?_cons_succ, Int.ofNat_lt, eq_self]
    by_cases h2 : (binds.length : Int) > 6
    · simp only [h2, bindO_some_eq, bindO_none_eq, bindS_some, condW_true, condW_false, guardG_true, guardG_false, guardG_tf, guardG_ft, guardG_skip, pv_v, pv_loc, lookP_cons, lookE_cons, vPick_true, vPick_false, vUn_not, vExtract_tuple, vBin_lss, vBin_leq, vBin_gtr, vBin_geq, vBin_eql, vBin_neq, vBin_eql_str, vBin_neq_str, vLen_str, vLen_list, vLen_sref, vLoad_eptr, vPart_agg, vPart_two, vPart_str, vPart_bool, vPart_int, vPart_list, vField_eptr, vField_ptr, Nat.reduceEqDiff, Nat.zero_add, Nat.add_zero, if_true, if_false, decide_true, decide_false, Bool.not_true, Bool.not_false, List.getElem?_cons_zero, List.getElem?_cons_succ, Int.ofNat_lt, eq_self]
      exact weakW_keep hR
    · simp only [h2, bindO_some_eq, bindO_none_eq, bindS_some, condW_true, condW_false, guardG_true, guardG_false, guardG_tf, guardG_ft, guardG_skip, pv_v, pv_loc, lookP_cons, lookE_cons, vPick_true, vPick_false, vUn_not, vExtract_tuple, vBin_lss, vBin_leq, vBin_gtr, vBin_geq, vBin_eql, vBin_neq, vBin_eql_str, vBin_neq_str, vLen_str, vLen_list, vLen_sref, vLoad_eptr, vPart_agg, vPart_two, vPart_str, vPart_bool, vPart_int, vPart_list, vField_eptr, vField_ptr, Nat.reduceEqDiff, Nat.zero_add, Nat.add_zero, if_true, if_false, decide_true, decide_false, Bool.not_true, Bool.not_false, List.getElem?_cons_zero, List.getElem?_cons_succ, Int.ofNat_lt, eq_self]
      refine CutW_by (fun x σ' => x 0 = .list lk (l.map pvPart) ∧ x 1 = .list lk' (binds.map pvBind) ∧ Grow 0 2 σ' (x 5) (binds.map pvBind)) ?_ ?_
      · rintro x σ' ⟨e0, e1, hg⟩
        rw [e0, e1]
        refine (c30 (by omega) (by omega) hs hbs σ').callB ?_
        simp only [bindO_some_eq, bindO_none_eq, bindS_some, condW_true, condW_false, guardG_true, guardG_false, guardG_tf, guardG_ft, guardG_skip, pv_v, pv_loc, lookP_cons, lookE_cons, vPick_true, vPick_false, vUn_not, vExtract_tuple, vBin_lss, vBin_leq, vBin_gtr, vBin_geq, vBin_eql, vBin_neq, vBin_eql_str, vBin_neq_str, vLen_str, vLen_list, vLen_sref, vLoad_eptr, vPart_agg, vPart_two, vPart_str, vPart_bool, vPart_int, vPart_list, vField_eptr, vField_ptr, Nat.reduceEqDiff, Nat.zero_add, Nat.add_zero, if_true, if_false, decide_true, decide_false, Bool.not_true, Bool.not_false, List.getElem?_cons_zero, List.getElem?_cons_succ, Int.ofNat_lt, eq_self]
        refine (c25 (by omega) σ').callB ?_
        obtain ⟨k, hk⟩ := growV_list (l.map pvPart)
        rw [hk]
        refine (c31 (by omega) (by omega) hs hbs (.list k _) hg.elems).callB ?_
        simp only [BEq.rfl, bindO_some_eq, bindO_none_eq, bindS_some, condW_true, condW_false, guardG_true, guardG_false, guardG_tf, guardG_ft, guardG_skip, pv_v, pv_loc, lookP_cons, lookE_cons, vPick_true, vPick_false, vUn_not, vExtract_tuple, vBin_lss, vBin_leq, vBin_gtr, vBin_geq, vBin_eql, vBin_neq, vBin_eql_str, vBin_neq_str, vLen_str, vLen_list, vLen_sref, vLoad_eptr, vPart_agg, vPart_two, vPart_str, vPart_bool, vPart_int, vPart_list, vField_eptr, vField_ptr, Nat.reduceEqDiff, Nat.zero_add, Nat.add_zero, if_true, if_false, decide_true, decide_false, Bool.not_true, Bool.not_false, List.getElem?_cons_zero, List.getElem?_cons_succ, Int.ofNat_lt, eq_self]
        exact weakW_clean (List.nil_prefix) (.base _ (.bool _)) hR
      · refine Lfp_up binds.length (fun i x σ' => ∃ v, x = lookP [(0, .list lk (l.map pvPart)), (1, .list lk' (binds.map pvBind)), (5, v), (22, .list lk' (binds.map pvBind)), (23, .int .i64 binds.length), (24, .int .i64 i)] ∧ Grow ([] : St).length 2 σ' v ((binds.take i).map pvBind)) ?_ ⟨_, rfl, .nil _ _ _⟩
        rintro Φ i x σ' hi ⟨v, rfl, hg⟩ next
        simp only [bindO_some_eq, bindO_none_eq, bindS_some, condW_true, condW_false, guardG_true, guardG_false, guardG_tf, guardG_ft, guardG_skip, pv_v, pv_loc, lookP_cons, lookE_cons, vPick_true, vPick_false, vUn_not, vExtract_tuple, vBin_lss, vBin_leq, vBin_gtr, vBin_geq, vBin_eql, vBin_neq, vBin_eql_str, vBin_neq_str, vLen_str, vLen_list, vLen_sref, vLoad_eptr, vPart_agg, vPart_two, vPart_str, vPart_bool, vPart_int, vPart_list, vField_eptr, vField_ptr, Nat.reduceEqDiff, Nat.zero_add, Nat.add_zero, if_true, if_false, decide_true, decide_false, Bool.not_true, Bool.not_false, List.getElem?_cons_zero, List.getElem?_cons_succ, Int.ofNat_lt, eq_self]
        by_cases hlt : i < binds.length
        · have hc : binds[i]? = some binds[i] := by simp [hlt]
          generalize binds[i] = p at hc
          have hput : vPut 2 (.agg [.str [], .str []]) 0 (pvBind p) = some (pvBind p) := rfl
          have htk : (binds.take (i + 1)).map pvBind = (binds.take i).map pvBind ++ [pvBind p] := by rw [List.take_add_one, hc]; simp
          simp only [hlt, encBind.index hc, encBind.part, hput, vBuildSl_one (sizedBind p), bindO_some_eq, bindO_none_eq, bindS_some, condW_true, condW_false, guardG_true, guardG_false, guardG_tf, guardG_ft, guardG_skip, pv_v, pv_loc, lookP_cons, lookE_cons, vPick_true, vPick_false, vUn_not, vExtract_tuple, vBin_lss, vBin_leq, vBin_gtr, vBin_geq, vBin_eql, vBin_neq, vBin_eql_str, vBin_neq_str, vLen_str, vLen_list, vLen_sref, vLoad_eptr, vPart_agg, vPart_two, vPart_str, vPart_bool, vPart_int, vPart_list, vField_eptr, vField_ptr, Nat.reduceEqDiff, Nat.zero_add, Nat.add_zero, if_true, if_false, decide_true, decide_false, Bool.not_true, Bool.not_false, List.getElem?_cons_zero, List.getElem?_cons_succ, Int.ofNat_lt, eq_self]
          obtain ⟨v', σ'', e1, e2, e3, _⟩ := hg.app (by_ := 32) (y := .list .full [pvBind p]) List.nil_prefix rfl (by simpa using sizedBind p) (by simp; omega)
          rw [e1, vBin_add _ (by omega) (by omega)]
          exact next _ _ hlt ⟨v', by simp, by rw [htk]; exact e2⟩
        · obtain rfl : i = binds.length := by omega
          rw [List.take_length] at hg
          simp only [hlt, bindO_some_eq, bindO_none_eq, bindS_some, condW_true, condW_false, guardG_true, guardG_false, guardG_tf, guardG_ft, guardG_skip, pv_v, pv_loc, lookP_cons, lookE_cons, vPick_true, vPick_false, vUn_not, vExtract_tuple, vBin_lss, vBin_leq, vBin_gtr, vBin_geq, vBin_eql, vBin_neq, vBin_eql_str, vBin_neq_str, vLen_str, vLen_list, vLen_sref, vLoad_eptr, vPart_agg, vPart_two, vPart_str, vPart_bool, vPart_int, vPart_list, vField_eptr, vField_ptr, Nat.reduceEqDiff, Nat.zero_add, Nat.add_zero, if_true, if_false, decide_true, decide_false, Bool.not_true, Bool.not_false, List.getElem?_cons_zero, List.getElem?_cons_succ, Int.ofNat_lt, eq_self]
          exact ⟨by simp, by simp, by simpa using hg⟩

end Go.Proofs.YtiniifbmeobmgaaGreatDoor
