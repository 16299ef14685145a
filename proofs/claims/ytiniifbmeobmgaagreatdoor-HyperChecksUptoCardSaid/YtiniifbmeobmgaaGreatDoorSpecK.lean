/- Small; a grammar as the reference's; the law HyperChecks. -/
import Derived.Test.YtiniifbmeobmgaaGreatDoorSpecJ
import Derived.Test.YtiniifbmeobmgaaGreatDoorSpecG
set_option linter.unusedVariables false
set_option linter.unusedSimpArgs false
namespace Go.Proofs.YtiniifbmeobmgaaGreatDoor
open Go Go.Abs

/-! ### Small -/

def long8 (l : Sl Part) : Bool := decide ((l.2.length : Int) > 8)
def many6 (ls : Lists) : Bool := decide ((ls.2.length : Int) > 6) || ls.2.any long8
def smallG (g : Gram) : Bool := decide ((g.1.2.length : Int) ≤ 8) && (decide ((g.2.2.length : Int) ≤ 20) && (!(g.1.2.any fun m => many6 m.2) && !(g.2.2.any fun r => long8 r.1 || many6 r.2)))

theorem hb49 : hasBody 49 = true := by kernel_rfl
theorem hb50 : hasBody 50 = true := by kernel_rfl
theorem hb52 : hasBody 52 = true := by kernel_rfl
theorem hb54 : hasBody 54 = true := by kernel_rfl

theorem c49 {l : Sl Part} (σ : St) : Ret W 49 [pvParts l] σ (.bool (long8 l)) := by
  refine ret_of fun R hR => ?_
  rw [fn49_eq]
  unfold fn49
  simp only [pvParts, pvSl, List.length_map, bindO_some_eq, bindO_none_eq, bindS_some, condW_true, condW_false, guardG_true, guardG_false, guardG_tf, guardG_ft, guardG_skip, pv_v, pv_loc, lookP_cons, lookE_cons, vPick_true, vPick_false, vUn_not, vExtract_tuple, vBin_lss, vBin_leq, vBin_gtr, vBin_geq, vBin_eql, vBin_neq, vBin_eql_str, vBin_neq_str, vLen_str, vLen_list, vLen_sref, vLoad_eptr, vPart_agg, vPart_two, vPart_str, vPart_bool, vPart_int, vPart_list, vField_eptr, vField_ptr, Nat.reduceEqDiff, Nat.zero_add, Nat.add_zero, if_true, if_false, decide_true, decide_false, Bool.not_true, Bool.not_false, List.getElem?_cons_zero, List.getElem?_cons_succ, Int.ofNat_lt, eq_self]
  exact weakW_keep hR

theorem c50 {ls : Lists} (hl : OkLists ls) {σ : St} {c : Nat} (hc : σ[c]? = some (.arr 0 1 [.func 49 []])) : Ret W 50 [pvLists ls, .ptr c 0 0 0] σ (.bool (many6 ls)) := by
  refine ret_of fun R hR => ?_
  rw [fn50_eq]
  unfold fn50
  have hld : vLoad false 1 (.ptr c 0 0 0) σ = some (.func 49 []) := by simp [vLoad, hc, vPart, PV.cells?]
  simp only [pvLists, pvSl, List.length_map, bindO_some_eq, bindO_none_eq, bindS_some, condW_true, condW_false, guardG_true, guardG_false, guardG_tf, guardG_ft, guardG_skip, pv_v, pv_loc, lookP_cons, lookE_cons, vPick_true, vPick_false, vUn_not, vExtract_tuple, vBin_lss, vBin_leq, vBin_gtr, vBin_geq, vBin_eql, vBin_neq, vBin_eql_str, vBin_neq_str, vLen_str, vLen_list, vLen_sref, vLoad_eptr, vPart_agg, vPart_two, vPart_str, vPart_bool, vPart_int, vPart_list, vField_eptr, vField_ptr, Nat.reduceEqDiff, Nat.zero_add, Nat.add_zero, if_true, if_false, decide_true, decide_false, Bool.not_true, Bool.not_false, List.getElem?_cons_zero, List.getElem?_cons_succ, Int.ofNat_lt, eq_self]
  cases h1 : decide ((ls.2.length : Int) > 6) with
  | true =>
    simp only [bindO_some_eq, bindO_none_eq, bindS_some, condW_true, condW_false, guardG_true, guardG_false, guardG_tf, guardG_ft, guardG_skip, pv_v, pv_loc, lookP_cons, lookE_cons, vPick_true, vPick_false, vUn_not, vExtract_tuple, vBin_lss, vBin_leq, vBin_gtr, vBin_geq, vBin_eql, vBin_neq, vBin_eql_str, vBin_neq_str, vLen_str, vLen_list, vLen_sref, vLoad_eptr, vPart_agg, vPart_two, vPart_str, vPart_bool, vPart_int, vPart_list, vField_eptr, vField_ptr, Nat.reduceEqDiff, Nat.zero_add, Nat.add_zero, if_true, if_false, decide_true, decide_false, Bool.not_true, Bool.not_false, List.getElem?_cons_zero, List.getElem?_cons_succ, Int.ofNat_lt, eq_self]
    refine weakW_keep ?_
    simpa [many6, h1] using hR
  | false =>
    simp only [hld, bindO_some_eq, bindO_none_eq, bindS_some, condW_true, condW_false, guardG_true, guardG_false, guardG_tf, guardG_ft, guardG_skip, pv_v, pv_loc, lookP_cons, lookE_cons, vPick_true, vPick_false, vUn_not, vExtract_tuple, vBin_lss, vBin_leq, vBin_gtr, vBin_geq, vBin_eql, vBin_neq, vBin_eql_str, vBin_neq_str, vLen_str, vLen_list, vLen_sref, vLoad_eptr, vPart_agg, vPart_two, vPart_str, vPart_bool, vPart_int, vPart_list, vField_eptr, vField_ptr, Nat.reduceEqDiff, Nat.zero_add, Nat.add_zero, if_true, if_false, decide_true, decide_false, Bool.not_true, Bool.not_false, List.getElem?_cons_zero, List.getElem?_cons_succ, Int.ofNat_lt, eq_self]
    refine (c51 encParts long8 hb49 (Nat.lt_of_le_of_lt hl.len (by decide)) fun l _ => c49 _).callB ?_
    try simp only [bindO_some_eq, bindO_none_eq, bindS_some, condW_true, condW_false, guardG_true, guardG_false, guardG_tf, guardG_ft, guardG_skip, pv_v, pv_loc, lookP_cons, lookE_cons, vPick_true, vPick_false, vUn_not, vExtract_tuple, vBin_lss, vBin_leq, vBin_gtr, vBin_geq, vBin_eql, vBin_neq, vBin_eql_str, vBin_neq_str, vLen_str, vLen_list, vLen_sref, vLoad_eptr, vPart_agg, vPart_two, vPart_str, vPart_bool, vPart_int, vPart_list, vField_eptr, vField_ptr, Nat.reduceEqDiff, Nat.zero_add, Nat.add_zero, if_true, if_false, decide_true, decide_false, Bool.not_true, Bool.not_false, List.getElem?_cons_zero, List.getElem?_cons_succ, Int.ofNat_lt, eq_self]
    refine weakW_keep ?_
    simpa [many6, h1] using hR

theorem c52 {m : Meta19} (hm : OkMeta m) {σ : St} {c d : Nat} (hc : σ[c]? = some (.arr 0 1 [.func 49 []])) (hd : σ[d]? = some (.arr 0 1 [.func 50 [.ptr c 0 0 0]])) : Ret W 52 [pvMeta m, .ptr d 0 0 0] σ (.bool (many6 m.2)) := by
  refine ret_of fun R hR => ?_
  rw [fn52_eq]
  unfold fn52
  obtain ⟨n, ls⟩ := m
  have hbox : opC.vBoxAny (.agg [.str n, pvLists ls]) = some (2, .agg [.str n, pvLists ls]) := rfl
  have hld : vLoad false 1 (.ptr d 0 0 0) σ = some (.func 50 [.ptr c 0 0 0]) := by simp [vLoad, hd, vPart, PV.cells?]
  simp only [pvMeta, hbox, hld, callG_func hb50, List.cons_append, List.nil_append, bindO_some_eq, bindO_none_eq, bindS_some, condW_true, condW_false, guardG_true, guardG_false, guardG_tf, guardG_ft, guardG_skip, pv_v, pv_loc, lookP_cons, lookE_cons, vPick_true, vPick_false, vUn_not, vExtract_tuple, vBin_lss, vBin_leq, vBin_gtr, vBin_geq, vBin_eql, vBin_neq, vBin_eql_str, vBin_neq_str, vLen_str, vLen_list, vLen_sref, vLoad_eptr, vPart_agg, vPart_two, vPart_str, vPart_bool, vPart_int, vPart_list, vField_eptr, vField_ptr, Nat.reduceEqDiff, Nat.zero_add, Nat.add_zero, if_true, if_false, decide_true, decide_false, Bool.not_true, Bool.not_false, List.getElem?_cons_zero, List.getElem?_cons_succ, Int.ofNat_lt, eq_self]
  refine (c50 hm.alts hc).callB ?_
  exact weakW_keep hR

theorem c54 {r : Rule19} (hr : OkRule r) {σ : St} {c d : Nat} (hc : σ[c]? = some (.arr 0 1 [.func 49 []])) (hd : σ[d]? = some (.arr 0 1 [.func 50 [.ptr c 0 0 0]])) : Ret W 54 [pvRule r, .ptr c 0 0 0, .ptr d 0 0 0] σ (.bool (long8 r.1 || many6 r.2)) := by
  refine ret_of fun R hR => ?_
  rw [fn54_eq]
  unfold fn54
  obtain ⟨l, ls⟩ := r
  have hbox : opC.vBoxAny (.agg [pvParts l, pvLists ls]) = some (2, .agg [pvParts l, pvLists ls]) := rfl
  have hld : vLoad false 1 (.ptr d 0 0 0) σ = some (.func 50 [.ptr c 0 0 0]) := by simp [vLoad, hd, vPart, PV.cells?]
  have hlc : vLoad false 1 (.ptr c 0 0 0) σ = some (.func 49 []) := by simp [vLoad, hc, vPart, PV.cells?]
  simp only [pvRule, hbox, hlc, callG_func hb49, List.cons_append, List.nil_append, bindO_some_eq, bindO_none_eq, bindS_some, condW_true, condW_false, guardG_true, guardG_false, guardG_tf, guardG_ft, guardG_skip, pv_v, pv_loc, lookP_cons, lookE_cons, vPick_true, vPick_false, vUn_not, vExtract_tuple, vBin_lss, vBin_leq, vBin_gtr, vBin_geq, vBin_eql, vBin_neq, vBin_eql_str, vBin_neq_str, vLen_str, vLen_list, vLen_sref, vLoad_eptr, vPart_agg, vPart_two, vPart_str, vPart_bool, vPart_int, vPart_list, vField_eptr, vField_ptr, Nat.reduceEqDiff, Nat.zero_add, Nat.add_zero, if_true, if_false, decide_true, decide_false, Bool.not_true, Bool.not_false, List.getElem?_cons_zero, List.getElem?_cons_succ, Int.ofNat_lt, eq_self]
  refine (c49 _).callB ?_
  cases h1 : long8 l with
  | true =>
    simp only [bindO_some_eq, bindO_none_eq, bindS_some, condW_true, condW_false, guardG_true, guardG_false, guardG_tf, guardG_ft, guardG_skip, pv_v, pv_loc, lookP_cons, lookE_cons, vPick_true, vPick_false, vUn_not, vExtract_tuple, vBin_lss, vBin_leq, vBin_gtr, vBin_geq, vBin_eql, vBin_neq, vBin_eql_str, vBin_neq_str, vLen_str, vLen_list, vLen_sref, vLoad_eptr, vPart_agg, vPart_two, vPart_str, vPart_bool, vPart_int, vPart_list, vField_eptr, vField_ptr, Nat.reduceEqDiff, Nat.zero_add, Nat.add_zero, if_true, if_false, decide_true, decide_false, Bool.not_true, Bool.not_false, List.getElem?_cons_zero, List.getElem?_cons_succ, Int.ofNat_lt, eq_self]
    refine weakW_keep ?_
    simpa [h1] using hR
  | false =>
    simp only [hld, callG_func hb50, List.cons_append, List.nil_append, bindO_some_eq, bindO_none_eq, bindS_some, condW_true, condW_false, guardG_true, guardG_false, guardG_tf, guardG_ft, guardG_skip, pv_v, pv_loc, lookP_cons, lookE_cons, vPick_true, vPick_false, vUn_not, vExtract_tuple, vBin_lss, vBin_leq, vBin_gtr, vBin_geq, vBin_eql, vBin_neq, vBin_eql_str, vBin_neq_str, vLen_str, vLen_list, vLen_sref, vLoad_eptr, vPart_agg, vPart_two, vPart_str, vPart_bool, vPart_int, vPart_list, vField_eptr, vField_ptr, Nat.reduceEqDiff, Nat.zero_add, Nat.add_zero, if_true, if_false, decide_true, decide_false, Bool.not_true, Bool.not_false, List.getElem?_cons_zero, List.getElem?_cons_succ, Int.ofNat_lt, eq_self]
    refine (c50 hr.right hc).callB ?_
    try simp only [bindO_some_eq, bindO_none_eq, bindS_some, condW_true, condW_false, guardG_true, guardG_false, guardG_tf, guardG_ft, guardG_skip, pv_v, pv_loc, lookP_cons, lookE_cons, vPick_true, vPick_false, vUn_not, vExtract_tuple, vBin_lss, vBin_leq, vBin_gtr, vBin_geq, vBin_eql, vBin_neq, vBin_eql_str, vBin_neq_str, vLen_str, vLen_list, vLen_sref, vLoad_eptr, vPart_agg, vPart_two, vPart_str, vPart_bool, vPart_int, vPart_list, vField_eptr, vField_ptr, Nat.reduceEqDiff, Nat.zero_add, Nat.add_zero, if_true, if_false, decide_true, decide_false, Bool.not_true, Bool.not_false, List.getElem?_cons_zero, List.getElem?_cons_succ, Int.ofNat_lt, eq_self]
    refine weakW_keep ?_
    simpa [h1] using hR

theorem c14 {g : Gram} (hg : OkGram g) (σ : St) : Ret W 14 [pvGram g] σ (.bool (smallG g)) := by
  refine ret_of fun R hR => ?_
  rw [fn14_eq]
  unfold fn14
  have fin : ∀ (b : Bool) (σ' : St), σ <+: σ' → smallG g = b → weakW σ (.bool b) σ' fun v σ => R (.ret v) σ := fun b σ' hp he => weakW_clean hp (.base _ (.bool _)) (by rw [he] at hR; exact hR)
  obtain ⟨⟨mk, ms⟩, rk, rs⟩ := g
  have hml := hg.ml
  have hrl := hg.rl
  simp only at hml hrl
  have hG : pvGram ((mk, ms), rk, rs) = .agg [.list mk (ms.map pvMeta), .list rk (rs.map pvRule)] := rfl
  have hbox : opC.vBoxAny (.agg [.list mk (ms.map pvMeta), .list rk (rs.map pvRule)]) = some (2, .agg [.list mk (ms.map pvMeta), .list rk (rs.map pvRule)]) := rfl
  rw [hG]
  have st1 : vStore 1 (.ptr σ.length 0 0 0) (.func 49 []) (σ ++ [.arr 0 1 [.nilfunc]]) = some (σ ++ [.arr 0 1 [.func 49 []]]) := new_store1 rfl (.inr rfl)
  simp only [hbox, newW_eq, st1, bindO_some_eq, bindO_none_eq, bindS_some, condW_true, condW_false, guardG_true, guardG_false, guardG_tf, guardG_ft, guardG_skip, pv_v, pv_loc, lookP_cons, lookE_cons, vPick_true, vPick_false, vUn_not, vExtract_tuple, vBin_lss, vBin_leq, vBin_gtr, vBin_geq, vBin_eql, vBin_neq, vBin_eql_str, vBin_neq_str, vLen_str, vLen_list, vLen_sref, vLoad_eptr, vPart_agg, vPart_two, vPart_str, vPart_bool, vPart_int, vPart_list, vField_eptr, vField_ptr, Nat.reduceEqDiff, Nat.zero_add, Nat.add_zero, if_true, if_false, decide_true, decide_false, Bool.not_true, Bool.not_false, List.getElem?_cons_zero, List.getElem?_cons_succ, Int.ofNat_lt, eq_self]
  have hc0 : (σ ++ [Blk.arr 0 1 [.func 49 []]])[σ.length]? = some (.arr 0 1 [.func 49 []]) := new_get _ _
  have hp0 : σ <+: σ ++ [Blk.arr 0 1 [.func 49 []]] := ⟨_, rfl⟩
  have hl0 : σ.length < (σ ++ [Blk.arr 0 1 [.func 49 []]]).length := by simp
  generalize σ ++ [Blk.arr 0 1 [.func 49 []]] = σ1 at hc0 hp0 hl0
  generalize σ.length = c at hc0 hl0
  have st2 : vStore 1 (.ptr σ1.length 0 0 0) (.func 50 [.ptr c 0 0 0]) (σ1 ++ [.arr 0 1 [.nilfunc]]) = some (σ1 ++ [.arr 0 1 [.func 50 [.ptr c 0 0 0]]]) := new_store1 rfl (.inr rfl)
  simp only [st2, List.length_map, bindO_some_eq, bindO_none_eq, bindS_some, condW_true, condW_false, guardG_true, guardG_false, guardG_tf, guardG_ft, guardG_skip, pv_v, pv_loc, lookP_cons, lookE_cons, vPick_true, vPick_false, vUn_not, vExtract_tuple, vBin_lss, vBin_leq, vBin_gtr, vBin_geq, vBin_eql, vBin_neq, vBin_eql_str, vBin_neq_str, vLen_str, vLen_list, vLen_sref, vLoad_eptr, vPart_agg, vPart_two, vPart_str, vPart_bool, vPart_int, vPart_list, vField_eptr, vField_ptr, Nat.reduceEqDiff, Nat.zero_add, Nat.add_zero, if_true, if_false, decide_true, decide_false, Bool.not_true, Bool.not_false, List.getElem?_cons_zero, List.getElem?_cons_succ, Int.ofNat_lt, eq_self]
  have hd : (σ1 ++ [Blk.arr 0 1 [.func 50 [.ptr c 0 0 0]]])[σ1.length]? = some (.arr 0 1 [.func 50 [.ptr c 0 0 0]]) := new_get _ _
  have hc : (σ1 ++ [Blk.arr 0 1 [.func 50 [.ptr c 0 0 0]]])[c]? = some (.arr 0 1 [.func 49 []]) := by rw [List.getElem?_append_left hl0]; exact hc0
  have hp : σ <+: σ1 ++ [Blk.arr 0 1 [.func 50 [.ptr c 0 0 0]]] := pre_app hp0 _
  generalize σ1 ++ [Blk.arr 0 1 [.func 50 [.ptr c 0 0 0]]] = σ2 at hd hc hp
  generalize σ1.length = d at hd
  have hs : smallG ((mk, ms), rk, rs) = (decide ((ms.length : Int) ≤ 8) && (decide ((rs.length : Int) ≤ 20) && (!(ms.any fun m => many6 m.2) && !(rs.any fun r => long8 r.1 || many6 r.2)))) := rfl
  cases h1 : decide ((ms.length : Int) ≤ 8) with
  | false =>
    simp only [bindO_some_eq, bindO_none_eq, bindS_some, condW_true, condW_false, guardG_true, guardG_false, guardG_tf, guardG_ft, guardG_skip, pv_v, pv_loc, lookP_cons, lookE_cons, vPick_true, vPick_false, vUn_not, vExtract_tuple, vBin_lss, vBin_leq, vBin_gtr, vBin_geq, vBin_eql, vBin_neq, vBin_eql_str, vBin_neq_str, vLen_str, vLen_list, vLen_sref, vLoad_eptr, vPart_agg, vPart_two, vPart_str, vPart_bool, vPart_int, vPart_list, vField_eptr, vField_ptr, Nat.reduceEqDiff, Nat.zero_add, Nat.add_zero, if_true, if_false, decide_true, decide_false, Bool.not_true, Bool.not_false, List.getElem?_cons_zero, List.getElem?_cons_succ, Int.ofNat_lt, eq_self]
    exact fin false _ hp (by rw [hs, h1]; rfl)
  | true =>
  simp only [List.length_map, bindO_some_eq, bindO_none_eq, bindS_some, condW_true, condW_false, guardG_true, guardG_false, guardG_tf, guardG_ft, guardG_skip, pv_v, pv_loc, lookP_cons, lookE_cons, vPick_true, vPick_false, vUn_not, vExtract_tuple, vBin_lss, vBin_leq, vBin_gtr, vBin_geq, vBin_eql, vBin_neq, vBin_eql_str, vBin_neq_str, vLen_str, vLen_list, vLen_sref, vLoad_eptr, vPart_agg, vPart_two, vPart_str, vPart_bool, vPart_int, vPart_list, vField_eptr, vField_ptr, Nat.reduceEqDiff, Nat.zero_add, Nat.add_zero, if_true, if_false, decide_true, decide_false, Bool.not_true, Bool.not_false, List.getElem?_cons_zero, List.getElem?_cons_succ, Int.ofNat_lt, eq_self]
  cases h2 : decide ((rs.length : Int) ≤ 20) with
  | false =>
    simp only [bindO_some_eq, bindO_none_eq, bindS_some, condW_true, condW_false, guardG_true, guardG_false, guardG_tf, guardG_ft, guardG_skip, pv_v, pv_loc, lookP_cons, lookE_cons, vPick_true, vPick_false, vUn_not, vExtract_tuple, vBin_lss, vBin_leq, vBin_gtr, vBin_geq, vBin_eql, vBin_neq, vBin_eql_str, vBin_neq_str, vLen_str, vLen_list, vLen_sref, vLoad_eptr, vPart_agg, vPart_two, vPart_str, vPart_bool, vPart_int, vPart_list, vField_eptr, vField_ptr, Nat.reduceEqDiff, Nat.zero_add, Nat.add_zero, if_true, if_false, decide_true, decide_false, Bool.not_true, Bool.not_false, List.getElem?_cons_zero, List.getElem?_cons_succ, Int.ofNat_lt, eq_self]
    exact fin false _ hp (by rw [hs, h1, h2]; rfl)
  | true =>
  simp only [bindO_some_eq, bindO_none_eq, bindS_some, condW_true, condW_false, guardG_true, guardG_false, guardG_tf, guardG_ft, guardG_skip, pv_v, pv_loc, lookP_cons, lookE_cons, vPick_true, vPick_false, vUn_not, vExtract_tuple, vBin_lss, vBin_leq, vBin_gtr, vBin_geq, vBin_eql, vBin_neq, vBin_eql_str, vBin_neq_str, vLen_str, vLen_list, vLen_sref, vLoad_eptr, vPart_agg, vPart_two, vPart_str, vPart_bool, vPart_int, vPart_list, vField_eptr, vField_ptr, Nat.reduceEqDiff, Nat.zero_add, Nat.add_zero, if_true, if_false, decide_true, decide_false, Bool.not_true, Bool.not_false, List.getElem?_cons_zero, List.getElem?_cons_succ, Int.ofNat_lt, eq_self]
  refine (c35 encMeta (fun m => many6 m.2) hb52 (Nat.lt_of_le_of_lt hml (by decide)) fun m hm => c52 (hg.metas m hm) hc hd).callB ?_
  cases h3 : ms.any fun m => many6 m.2 with
  | true =>
    simp only [bindO_some_eq, bindO_none_eq, bindS_some, condW_true, condW_false, guardG_true, guardG_false, guardG_tf, guardG_ft, guardG_skip, pv_v, pv_loc, lookP_cons, lookE_cons, vPick_true, vPick_false, vUn_not, vExtract_tuple, vBin_lss, vBin_leq, vBin_gtr, vBin_geq, vBin_eql, vBin_neq, vBin_eql_str, vBin_neq_str, vLen_str, vLen_list, vLen_sref, vLoad_eptr, vPart_agg, vPart_two, vPart_str, vPart_bool, vPart_int, vPart_list, vField_eptr, vField_ptr, Nat.reduceEqDiff, Nat.zero_add, Nat.add_zero, if_true, if_false, decide_true, decide_false, Bool.not_true, Bool.not_false, List.getElem?_cons_zero, List.getElem?_cons_succ, Int.ofNat_lt, eq_self]
    exact fin false _ hp (by rw [hs, h1, h2, h3]; rfl)
  | false =>
  simp only [bindO_some_eq, bindO_none_eq, bindS_some, condW_true, condW_false, guardG_true, guardG_false, guardG_tf, guardG_ft, guardG_skip, pv_v, pv_loc, lookP_cons, lookE_cons, vPick_true, vPick_false, vUn_not, vExtract_tuple, vBin_lss, vBin_leq, vBin_gtr, vBin_geq, vBin_eql, vBin_neq, vBin_eql_str, vBin_neq_str, vLen_str, vLen_list, vLen_sref, vLoad_eptr, vPart_agg, vPart_two, vPart_str, vPart_bool, vPart_int, vPart_list, vField_eptr, vField_ptr, Nat.reduceEqDiff, Nat.zero_add, Nat.add_zero, if_true, if_false, decide_true, decide_false, Bool.not_true, Bool.not_false, List.getElem?_cons_zero, List.getElem?_cons_succ, Int.ofNat_lt, eq_self]
  refine (c53 encRule (fun r => long8 r.1 || many6 r.2) hb54 (Nat.lt_of_le_of_lt hrl (by decide)) fun r hr => c54 (hg.rules r hr) hc hd).callB ?_
  simp only [bindO_some_eq, bindO_none_eq, bindS_some, condW_true, condW_false, guardG_true, guardG_false, guardG_tf, guardG_ft, guardG_skip, pv_v, pv_loc, lookP_cons, lookE_cons, vPick_true, vPick_false, vUn_not, vExtract_tuple, vBin_lss, vBin_leq, vBin_gtr, vBin_geq, vBin_eql, vBin_neq, vBin_eql_str, vBin_neq_str, vLen_str, vLen_list, vLen_sref, vLoad_eptr, vPart_agg, vPart_two, vPart_str, vPart_bool, vPart_int, vPart_list, vField_eptr, vField_ptr, Nat.reduceEqDiff, Nat.zero_add, Nat.add_zero, if_true, if_false, decide_true, decide_false, Bool.not_true, Bool.not_false, List.getElem?_cons_zero, List.getElem?_cons_succ, Int.ofNat_lt, eq_self]
  exact fin _ _ hp (by rw [hs, h1, h2, h3]; rfl)

/-! ### As the reference's -/

/-- A slice that has grown. -/
def reK {α : Type} (xs : List α) : Sl α := (match xs with
  | [] => .nil
  | _ => .part, xs)

theorem growV_sl {α : Type} (enc : α → PV) (xs : List α) : growV (xs.map enc) = pvSl enc (reK xs) := by
  cases xs <;> rfl

def refParts (l : Sl Part) : Sl Part := reK l.2
def refLists (ls : Lists) : Lists := reK (ls.2.map refParts)
def refMeta (m : Meta19) : Meta19 := (m.1, refLists m.2)
def refRule (r : Rule19) : Rule19 := (refParts r.1, refLists r.2)
def refGram (g : Gram) : Gram := (reK (g.1.2.map refMeta), reK (g.2.2.map refRule))

theorem c25' {l : Sl Part} (hl : l.2.length < 1048577) (σ : St) : Ret W 25 [pvParts l] σ (pvParts (refParts l)) := by
  have := c25 hl (lk := l.1) σ
  rw [growV_sl] at this
  exact this

theorem c70 {ls : Lists} (hl : OkLists ls) (σ : St) : Ret W 70 [pvLists ls] σ (pvLists (refLists ls)) := by
  refine ret_of fun R hR => ?_
  rw [fn70_eq]
  unfold fn70
  obtain ⟨k, ls⟩ := ls
  have hlen := hl.len
  simp only at hlen
  have hv : pvLists (k, ls) = .list k (ls.map pvParts) := rfl
  rw [hv]
  refine CutW_of ?_
  simp only [List.length_map, bindO_some_eq, bindO_none_eq, bindS_some, condW_true, condW_false, guardG_true, guardG_false, guardG_tf, guardG_ft, guardG_skip, pv_v, pv_loc, lookP_cons, lookE_cons, vPick_true, vPick_false, vUn_not, vExtract_tuple, vBin_lss, vBin_leq, vBin_gtr, vBin_geq, vBin_eql, vBin_neq, vBin_eql_str, vBin_neq_str, vLen_str, vLen_list, vLen_sref, vLoad_eptr, vPart_agg, vPart_two, vPart_str, vPart_bool, vPart_int, vPart_list, vField_eptr, vField_ptr, Nat.reduceEqDiff, Nat.zero_add, Nat.add_zero, if_true, if_false, decide_true, decide_false, Bool.not_true, Bool.not_false, List.getElem?_cons_zero, List.getElem?_cons_succ, Int.ofNat_lt, eq_self]
  refine Lfp_up ls.length (fun i x σ' => ∃ v, x = lookP [(3, v), (6, .list k (ls.map pvParts)), (7, .int .i64 ls.length), (8, .int .i64 i)] ∧ Grow σ.length 1 σ' v (((ls.take i).map refParts).map pvParts) ∧ σ <+: σ') ?_ ⟨_, rfl, .nil _ _ _, List.prefix_rfl⟩
  rintro Φ i x σ' hi ⟨v, rfl, hg, hp⟩ next
  simp only [bindO_some_eq, bindO_none_eq, bindS_some, condW_true, condW_false, guardG_true, guardG_false, guardG_tf, guardG_ft, guardG_skip, pv_v, pv_loc, lookP_cons, lookE_cons, vPick_true, vPick_false, vUn_not, vExtract_tuple, vBin_lss, vBin_leq, vBin_gtr, vBin_geq, vBin_eql, vBin_neq, vBin_eql_str, vBin_neq_str, vLen_str, vLen_list, vLen_sref, vLoad_eptr, vPart_agg, vPart_two, vPart_str, vPart_bool, vPart_int, vPart_list, vField_eptr, vField_ptr, Nat.reduceEqDiff, Nat.zero_add, Nat.add_zero, if_true, if_false, decide_true, decide_false, Bool.not_true, Bool.not_false, List.getElem?_cons_zero, List.getElem?_cons_succ, Int.ofNat_lt, eq_self]
  by_cases hlt : i < ls.length
  · have hgi : ls[i]? = some ls[i] := by simp [hlt]
    have hmem : ls[i] ∈ ls := by simp
    generalize ls[i] = l at hgi hmem
    have hll := (hl.mem l hmem).len
    simp only [hlt, encParts.index hgi, encParts.part, bindO_some_eq, bindO_none_eq, bindS_some, condW_true, condW_false, guardG_true, guardG_false, guardG_tf, guardG_ft, guardG_skip, pv_v, pv_loc, lookP_cons, lookE_cons, vPick_true, vPick_false, vUn_not, vExtract_tuple, vBin_lss, vBin_leq, vBin_gtr, vBin_geq, vBin_eql, vBin_neq, vBin_eql_str, vBin_neq_str, vLen_str, vLen_list, vLen_sref, vLoad_eptr, vPart_agg, vPart_two, vPart_str, vPart_bool, vPart_int, vPart_list, vField_eptr, vField_ptr, Nat.reduceEqDiff, Nat.zero_add, Nat.add_zero, if_true, if_false, decide_true, decide_false, Bool.not_true, Bool.not_false, List.getElem?_cons_zero, List.getElem?_cons_succ, Int.ofNat_lt, eq_self]
    refine (c25' (by omega) σ').callB ?_
    have htk : ((ls.take (i + 1)).map refParts).map pvParts = ((ls.take i).map refParts).map pvParts ++ [pvParts (refParts l)] := by rw [List.take_add_one, hgi]; simp
    obtain ⟨v', σ'', e1, e2, e3, _⟩ := hg.app (by_ := 24) (y := .list .full [pvParts (refParts l)]) hp rfl (by simpa using sizedParts _) (by simp; omega)
    simp only [vBuildSl_one (sizedParts (refParts l)), e1, bindO_some_eq, bindO_none_eq, bindS_some, condW_true, condW_false, guardG_true, guardG_false, guardG_tf, guardG_ft, guardG_skip, pv_v, pv_loc, lookP_cons, lookE_cons, vPick_true, vPick_false, vUn_not, vExtract_tuple, vBin_lss, vBin_leq, vBin_gtr, vBin_geq, vBin_eql, vBin_neq, vBin_eql_str, vBin_neq_str, vLen_str, vLen_list, vLen_sref, vLoad_eptr, vPart_agg, vPart_two, vPart_str, vPart_bool, vPart_int, vPart_list, vField_eptr, vField_ptr, Nat.reduceEqDiff, Nat.zero_add, Nat.add_zero, if_true, if_false, decide_true, decide_false, Bool.not_true, Bool.not_false, List.getElem?_cons_zero, List.getElem?_cons_succ, Int.ofNat_lt, eq_self]
    rw [vBin_add _ (by omega) (by omega)]
    exact next _ _ hlt ⟨v', by simp, by rw [htk]; exact e2, e3⟩
  · obtain rfl : i = ls.length := by omega
    rw [List.take_length] at hg
    simp only [hlt, bindO_some_eq, bindO_none_eq, bindS_some, condW_true, condW_false, guardG_true, guardG_false, guardG_tf, guardG_ft, guardG_skip, pv_v, pv_loc, lookP_cons, lookE_cons, vPick_true, vPick_false, vUn_not, vExtract_tuple, vBin_lss, vBin_leq, vBin_gtr, vBin_geq, vBin_eql, vBin_neq, vBin_eql_str, vBin_neq_str, vLen_str, vLen_list, vLen_sref, vLoad_eptr, vPart_agg, vPart_two, vPart_str, vPart_bool, vPart_int, vPart_list, vField_eptr, vField_ptr, Nat.reduceEqDiff, Nat.zero_add, Nat.add_zero, if_true, if_false, decide_true, decide_false, Bool.not_true, Bool.not_false, List.getElem?_cons_zero, List.getElem?_cons_succ, Int.ofNat_lt, eq_self]
    refine weakW_clean hp (hg.frz fun y hy => ?_) (v' := growV ((ls.map refParts).map pvParts)) ?_
    · obtain ⟨p, _, rfl⟩ := List.mem_map.1 hy
      exact .base _ (underParts _ p)
    · rw [growV_sl]
      exact hR

theorem vPut_fst {a b x : PV} (hx : x.cells? = some [x]) : vPut 1 (.agg [a, b]) 0 x = some (.agg [x, b]) := by
  unfold vPut
  rw [hx]
  rfl

theorem vPut_snd {a b x : PV} (hx : x.cells? = some [x]) : vPut 1 (.agg [a, b]) 1 x = some (.agg [a, x]) := by
  unfold vPut
  rw [hx]
  rfl

theorem grow_cell {n0 sz : Nat} {σ : St} {x : PV} {ys : List PV} (h : Grow n0 sz σ x ys) : x.cells? = some [x] := by
  rcases h with ⟨rfl, _⟩ | ⟨b, g, _, rfl, _⟩ <;> rfl

theorem grow_pre {n0 sz : Nat} {σ σ' : St} {x : PV} {ys : List PV} (h : Grow n0 sz σ x ys) (hp : σ <+: σ') : Grow n0 sz σ' x ys := by
  rcases h with h | ⟨b, g, h1, h2, h3, h4⟩
  · exact .inl h
  · obtain ⟨t, rfl⟩ := hp
    exact .inr ⟨b, g, h1, h2, by rw [List.getElem?_append_left (List.getElem?_eq_some_iff.1 h3).1]; exact h3, h4⟩

theorem vPart_gr {n0 sz : Nat} {σ : St} {x : PV} {ys : List PV} (h : Grow n0 sz σ x ys) : vPart false 1 x 0 = some x := by
  rcases h with ⟨rfl, _⟩ | ⟨b, g, _, rfl, _⟩ <;> rfl

theorem grow_less {n0 n1 sz : Nat} {σ : St} {x : PV} {ys : List PV} (h : Grow n0 sz σ x ys) (hn : n1 ≤ n0) : Grow n1 sz σ x ys := by
  rcases h with h | ⟨b, g, h1, h2, h3, h4⟩
  · exact .inl h
  · exact .inr ⟨b, g, Nat.le_trans hn h1, h2, h3, h4⟩

theorem c17 {g : Gram} (hg : OkGram g) (σ : St) : Ret W 17 [pvGram g] σ (pvGram (refGram g)) := by
  refine ret_of fun R hR => ?_
  rw [fn17_eq]
  unfold fn17
  obtain ⟨⟨mk, ms⟩, rk, rs⟩ := g
  have hml := hg.ml
  have hrl := hg.rl
  simp only at hml hrl
  have hG : pvGram ((mk, ms), rk, rs) = .agg [.list mk (ms.map pvMeta), .list rk (rs.map pvRule)] := rfl
  have hbox : opC.vBoxAny (.agg [.list mk (ms.map pvMeta), .list rk (rs.map pvRule)]) = some (2, .agg [.list mk (ms.map pvMeta), .list rk (rs.map pvRule)]) := rfl
  rw [hG]
  simp only [hbox, bindO_some_eq, bindO_none_eq, bindS_some, condW_true, condW_false, guardG_true, guardG_false, guardG_tf, guardG_ft, guardG_skip, pv_v, pv_loc, lookP_cons, lookE_cons, vPick_true, vPick_false, vUn_not, vExtract_tuple, vBin_lss, vBin_leq, vBin_gtr, vBin_geq, vBin_eql, vBin_neq, vBin_eql_str, vBin_neq_str, vLen_str, vLen_list, vLen_sref, vLoad_eptr, vPart_agg, vPart_two, vPart_str, vPart_bool, vPart_int, vPart_list, vField_eptr, vField_ptr, Nat.reduceEqDiff, Nat.zero_add, Nat.add_zero, if_true, if_false, decide_true, decide_false, Bool.not_true, Bool.not_false, List.getElem?_cons_zero, List.getElem?_cons_succ, Int.ofNat_lt, eq_self]
  refine CutW_of ?_
  simp only [List.length_map, bindO_some_eq, bindO_none_eq, bindS_some, condW_true, condW_false, guardG_true, guardG_false, guardG_tf, guardG_ft, guardG_skip, pv_v, pv_loc, lookP_cons, lookE_cons, vPick_true, vPick_false, vUn_not, vExtract_tuple, vBin_lss, vBin_leq, vBin_gtr, vBin_geq, vBin_eql, vBin_neq, vBin_eql_str, vBin_neq_str, vLen_str, vLen_list, vLen_sref, vLoad_eptr, vPart_agg, vPart_two, vPart_str, vPart_bool, vPart_int, vPart_list, vField_eptr, vField_ptr, Nat.reduceEqDiff, Nat.zero_add, Nat.add_zero, if_true, if_false, decide_true, decide_false, Bool.not_true, Bool.not_false, List.getElem?_cons_zero, List.getElem?_cons_succ, Int.ofNat_lt, eq_self]
  refine Lfp_up ms.length (fun i x σ' => ∃ v, x = lookP [(9, .list mk (ms.map pvMeta)), (10, .int .i64 ms.length), (11, .int .i64 i), (1, .agg [.list mk (ms.map pvMeta), .list rk (rs.map pvRule)]), (2, .agg [.list .nil [], .list .nil []]), (3, .agg [v, .list .nil []])] ∧ Grow σ.length 2 σ' v (((ms.take i).map refMeta).map pvMeta) ∧ σ <+: σ') ?_ ⟨_, rfl, .nil _ _ _, List.prefix_rfl⟩
  rintro Φ i x σ' hi ⟨v, rfl, hgr, hp⟩ next
  simp only [bindO_some_eq, bindO_none_eq, bindS_some, condW_true, condW_false, guardG_true, guardG_false, guardG_tf, guardG_ft, guardG_skip, pv_v, pv_loc, lookP_cons, lookE_cons, vPick_true, vPick_false, vUn_not, vExtract_tuple, vBin_lss, vBin_leq, vBin_gtr, vBin_geq, vBin_eql, vBin_neq, vBin_eql_str, vBin_neq_str, vLen_str, vLen_list, vLen_sref, vLoad_eptr, vPart_agg, vPart_two, vPart_str, vPart_bool, vPart_int, vPart_list, vField_eptr, vField_ptr, Nat.reduceEqDiff, Nat.zero_add, Nat.add_zero, if_true, if_false, decide_true, decide_false, Bool.not_true, Bool.not_false, List.getElem?_cons_zero, List.getElem?_cons_succ, Int.ofNat_lt, eq_self]
  by_cases hlt : i < ms.length
  · have hgi : ms[i]? = some ms[i] := by simp [hlt]
    have hmem : ms[i] ∈ ms := by simp
    generalize ms[i] = m at hgi hmem
    have hm := hg.metas m hmem
    have hput : vPut 2 (.agg [.str [], .list .nil []]) 0 (pvMeta m) = some (pvMeta m) := rfl
    simp only [hlt, encMeta.index hgi, encMeta.part, hput, bindO_some_eq, bindO_none_eq, bindS_some, condW_true, condW_false, guardG_true, guardG_false, guardG_tf, guardG_ft, guardG_skip, pv_v, pv_loc, lookP_cons, lookE_cons, vPick_true, vPick_false, vUn_not, vExtract_tuple, vBin_lss, vBin_leq, vBin_gtr, vBin_geq, vBin_eql, vBin_neq, vBin_eql_str, vBin_neq_str, vLen_str, vLen_list, vLen_sref, vLoad_eptr, vPart_agg, vPart_two, vPart_str, vPart_bool, vPart_int, vPart_list, vField_eptr, vField_ptr, Nat.reduceEqDiff, Nat.zero_add, Nat.add_zero, if_true, if_false, decide_true, decide_false, Bool.not_true, Bool.not_false, List.getElem?_cons_zero, List.getElem?_cons_succ, Int.ofNat_lt, eq_self]
    have hpm : pvMeta m = .agg [.str m.1, pvLists m.2] := rfl
    rw [hpm]
    simp only [bindO_some_eq, bindO_none_eq, bindS_some, condW_true, condW_false, guardG_true, guardG_false, guardG_tf, guardG_ft, guardG_skip, pv_v, pv_loc, lookP_cons, lookE_cons, vPick_true, vPick_false, vUn_not, vExtract_tuple, vBin_lss, vBin_leq, vBin_gtr, vBin_geq, vBin_eql, vBin_neq, vBin_eql_str, vBin_neq_str, vLen_str, vLen_list, vLen_sref, vLoad_eptr, vPart_agg, vPart_two, vPart_str, vPart_bool, vPart_int, vPart_list, vField_eptr, vField_ptr, Nat.reduceEqDiff, Nat.zero_add, Nat.add_zero, if_true, if_false, decide_true, decide_false, Bool.not_true, Bool.not_false, List.getElem?_cons_zero, List.getElem?_cons_succ, Int.ofNat_lt, eq_self]
    refine (c70 hm.alts σ').callB ?_
    have hbd : vBuild [.str [], .list .nil []] [(0, 1, .str m.1), (1, 1, pvLists (refLists m.2))] = some [.str m.1, pvLists (refLists m.2)] := rfl
    have hrm : PV.agg [.str m.1, pvLists (refLists m.2)] = pvMeta (refMeta m) := rfl
    have htk : ((ms.take (i + 1)).map refMeta).map pvMeta = ((ms.take i).map refMeta).map pvMeta ++ [pvMeta (refMeta m)] := by rw [List.take_add_one, hgi]; simp
    obtain ⟨v', σ'', e1, e2, e3, _⟩ := hgr.app (by_ := 40) (y := .list .full [pvMeta (refMeta m)]) hp rfl (by simpa using sizedMeta _) (by simp; omega)
    simp only [hbd, hrm, vBuildSl_one (sizedMeta (refMeta m)), e1, vPut_fst (grow_cell e2), bindO_some_eq, bindO_none_eq, bindS_some, condW_true, condW_false, guardG_true, guardG_false, guardG_tf, guardG_ft, guardG_skip, pv_v, pv_loc, lookP_cons, lookE_cons, vPick_true, vPick_false, vUn_not, vExtract_tuple, vBin_lss, vBin_leq, vBin_gtr, vBin_geq, vBin_eql, vBin_neq, vBin_eql_str, vBin_neq_str, vLen_str, vLen_list, vLen_sref, vLoad_eptr, vPart_agg, vPart_two, vPart_str, vPart_bool, vPart_int, vPart_list, vField_eptr, vField_ptr, Nat.reduceEqDiff, Nat.zero_add, Nat.add_zero, if_true, if_false, decide_true, decide_false, Bool.not_true, Bool.not_false, List.getElem?_cons_zero, List.getElem?_cons_succ, Int.ofNat_lt, eq_self]
    rw [vBin_add _ (by omega) (by omega)]
    exact next _ _ hlt ⟨v', by simp, by rw [htk]; exact e2, e3⟩
  obtain rfl : i = ms.length := by omega
  rw [List.take_length] at hgr
  simp only [hlt, bindO_some_eq, bindO_none_eq, bindS_some, condW_true, condW_false, guardG_true, guardG_false, guardG_tf, guardG_ft, guardG_skip, pv_v, pv_loc, lookP_cons, lookE_cons, vPick_true, vPick_false, vUn_not, vExtract_tuple, vBin_lss, vBin_leq, vBin_gtr, vBin_geq, vBin_eql, vBin_neq, vBin_eql_str, vBin_neq_str, vLen_str, vLen_list, vLen_sref, vLoad_eptr, vPart_agg, vPart_two, vPart_str, vPart_bool, vPart_int, vPart_list, vField_eptr, vField_ptr, Nat.reduceEqDiff, Nat.zero_add, Nat.add_zero, if_true, if_false, decide_true, decide_false, Bool.not_true, Bool.not_false, List.getElem?_cons_zero, List.getElem?_cons_succ, Int.ofNat_lt, eq_self]
  clear next hlt hi
  refine CutW_of ?_
  simp only [List.length_map, bindO_some_eq, bindO_none_eq, bindS_some, condW_true, condW_false, guardG_true, guardG_false, guardG_tf, guardG_ft, guardG_skip, pv_v, pv_loc, lookP_cons, lookE_cons, vPick_true, vPick_false, vUn_not, vExtract_tuple, vBin_lss, vBin_leq, vBin_gtr, vBin_geq, vBin_eql, vBin_neq, vBin_eql_str, vBin_neq_str, vLen_str, vLen_list, vLen_sref, vLoad_eptr, vPart_agg, vPart_two, vPart_str, vPart_bool, vPart_int, vPart_list, vField_eptr, vField_ptr, Nat.reduceEqDiff, Nat.zero_add, Nat.add_zero, if_true, if_false, decide_true, decide_false, Bool.not_true, Bool.not_false, List.getElem?_cons_zero, List.getElem?_cons_succ, Int.ofNat_lt, eq_self]
  refine Lfp_up rs.length (fun i x σ'' => ∃ w, x = lookP [(28, .list rk (rs.map pvRule)), (29, .int .i64 rs.length), (30, .int .i64 i), (2, .agg [.list .nil [], .list .nil []]), (3, .agg [v, w])] ∧ Grow σ'.length 2 σ'' w (((rs.take i).map refRule).map pvRule) ∧ σ' <+: σ'') ?_ ⟨_, rfl, .nil _ _ _, List.prefix_rfl⟩
  rintro Φ2 i x σ2 hi ⟨w, rfl, hgw, hp2⟩ next
  simp only [bindO_some_eq, bindO_none_eq, bindS_some, condW_true, condW_false, guardG_true, guardG_false, guardG_tf, guardG_ft, guardG_skip, pv_v, pv_loc, lookP_cons, lookE_cons, vPick_true, vPick_false, vUn_not, vExtract_tuple, vBin_lss, vBin_leq, vBin_gtr, vBin_geq, vBin_eql, vBin_neq, vBin_eql_str, vBin_neq_str, vLen_str, vLen_list, vLen_sref, vLoad_eptr, vPart_agg, vPart_two, vPart_str, vPart_bool, vPart_int, vPart_list, vField_eptr, vField_ptr, Nat.reduceEqDiff, Nat.zero_add, Nat.add_zero, if_true, if_false, decide_true, decide_false, Bool.not_true, Bool.not_false, List.getElem?_cons_zero, List.getElem?_cons_succ, Int.ofNat_lt, eq_self]
  by_cases hlt : i < rs.length
  · have hgi : rs[i]? = some rs[i] := by simp [hlt]
    have hmem : rs[i] ∈ rs := by simp
    generalize rs[i] = r at hgi hmem
    have hr := hg.rules r hmem
    have hput : vPut 2 (.agg [.list .nil [], .list .nil []]) 0 (pvRule r) = some (pvRule r) := rfl
    simp only [hlt, encRule.index hgi, encRule.part, hput, bindO_some_eq, bindO_none_eq, bindS_some, condW_true, condW_false, guardG_true, guardG_false, guardG_tf, guardG_ft, guardG_skip, pv_v, pv_loc, lookP_cons, lookE_cons, vPick_true, vPick_false, vUn_not, vExtract_tuple, vBin_lss, vBin_leq, vBin_gtr, vBin_geq, vBin_eql, vBin_neq, vBin_eql_str, vBin_neq_str, vLen_str, vLen_list, vLen_sref, vLoad_eptr, vPart_agg, vPart_two, vPart_str, vPart_bool, vPart_int, vPart_list, vField_eptr, vField_ptr, Nat.reduceEqDiff, Nat.zero_add, Nat.add_zero, if_true, if_false, decide_true, decide_false, Bool.not_true, Bool.not_false, List.getElem?_cons_zero, List.getElem?_cons_succ, Int.ofNat_lt, eq_self]
    have hpr : pvRule r = .agg [pvParts r.1, pvLists r.2] := rfl
    rw [hpr]
    simp only [bindO_some_eq, bindO_none_eq, bindS_some, condW_true, condW_false, guardG_true, guardG_false, guardG_tf, guardG_ft, guardG_skip, pv_v, pv_loc, lookP_cons, lookE_cons, vPick_true, vPick_false, vUn_not, vExtract_tuple, vBin_lss, vBin_leq, vBin_gtr, vBin_geq, vBin_eql, vBin_neq, vBin_eql_str, vBin_neq_str, vLen_str, vLen_list, vLen_sref, vLoad_eptr, vPart_agg, vPart_two, vPart_str, vPart_bool, vPart_int, vPart_list, vField_eptr, vField_ptr, Nat.reduceEqDiff, Nat.zero_add, Nat.add_zero, if_true, if_false, decide_true, decide_false, Bool.not_true, Bool.not_false, List.getElem?_cons_zero, List.getElem?_cons_succ, Int.ofNat_lt, eq_self]
    have := hr.left.len
    refine (c25' (by omega) σ2).callB ?_
    refine (c70 hr.right σ2).callB ?_
    have hbd : vBuild [.list .nil [], .list .nil []] [(0, 1, pvParts (refParts r.1)), (1, 1, pvLists (refLists r.2))] = some [pvParts (refParts r.1), pvLists (refLists r.2)] := rfl
    have hrm : PV.agg [pvParts (refParts r.1), pvLists (refLists r.2)] = pvRule (refRule r) := rfl
    have htk : ((rs.take (i + 1)).map refRule).map pvRule = ((rs.take i).map refRule).map pvRule ++ [pvRule (refRule r)] := by rw [List.take_add_one, hgi]; simp
    obtain ⟨v', σ'', e1, e2, e3, _⟩ := hgw.app (by_ := 48) (y := .list .full [pvRule (refRule r)]) hp2 rfl (by simpa using sizedRule _) (by simp; omega)
    simp only [hbd, hrm, vBuildSl_one (sizedRule (refRule r)), e1, vPut_snd (grow_cell e2), bindO_some_eq, bindO_none_eq, bindS_some, condW_true, condW_false, guardG_true, guardG_false, guardG_tf, guardG_ft, guardG_skip, pv_v, pv_loc, lookP_cons, lookE_cons, vPick_true, vPick_false, vUn_not, vExtract_tuple, vBin_lss, vBin_leq, vBin_gtr, vBin_geq, vBin_eql, vBin_neq, vBin_eql_str, vBin_neq_str, vLen_str, vLen_list, vLen_sref, vLoad_eptr, vPart_agg, vPart_two, vPart_str, vPart_bool, vPart_int, vPart_list, vField_eptr, vField_ptr, Nat.reduceEqDiff, Nat.zero_add, Nat.add_zero, if_true, if_false, decide_true, decide_false, Bool.not_true, Bool.not_false, List.getElem?_cons_zero, List.getElem?_cons_succ, Int.ofNat_lt, eq_self]
    rw [vBin_add _ (by omega) (by omega)]
    exact next _ _ hlt ⟨v', by simp, by rw [htk]; exact e2, e3⟩
  obtain rfl : i = rs.length := by omega
  rw [List.take_length] at hgw
  have hput : vPut 2 (.agg [.list .nil [], .list .nil []]) 0 (.agg [v, w]) = some (.agg [v, w]) := rfl
  simp only [hlt, hput, bindO_some_eq, bindO_none_eq, bindS_some, condW_true, condW_false, guardG_true, guardG_false, guardG_tf, guardG_ft, guardG_skip, pv_v, pv_loc, lookP_cons, lookE_cons, vPick_true, vPick_false, vUn_not, vExtract_tuple, vBin_lss, vBin_leq, vBin_gtr, vBin_geq, vBin_eql, vBin_neq, vBin_eql_str, vBin_neq_str, vLen_str, vLen_list, vLen_sref, vLoad_eptr, vPart_agg, vPart_two, vPart_str, vPart_bool, vPart_int, vPart_list, vField_eptr, vField_ptr, Nat.reduceEqDiff, Nat.zero_add, Nat.add_zero, if_true, if_false, decide_true, decide_false, Bool.not_true, Bool.not_false, List.getElem?_cons_zero, List.getElem?_cons_succ, Int.ofNat_lt, eq_self]
  show weakW σ (.agg [v, w]) σ2 _
  refine weakW_clean (hp.trans hp2) (v' := pvGram (refGram ((mk, ms), rk, rs))) ?_ hR
  have f1 : Frz σ2 σ.length v (growV ((ms.map refMeta).map pvMeta)) := (grow_pre hgr hp2).frz fun y hy => by
    obtain ⟨p, _, rfl⟩ := List.mem_map.1 hy
    exact .base _ (underMeta _ p)
  have f2 : Frz σ2 σ.length w (growV ((rs.map refRule).map pvRule)) := (grow_less hgw hp.length_le).frz fun y hy => by
    obtain ⟨p, _, rfl⟩ := List.mem_map.1 hy
    exact .base _ (underRule _ p)
  rw [growV_sl] at f1 f2
  refine .agg _ _ rfl fun i a b ha hb => ?_
  match i with
  | 0 => simp at ha hb; subst ha hb; exact f1
  | 1 => simp at ha hb; subst ha hb; exact f2
  | i + 2 => simp at ha

/-! ### The reference's grammar is checked alike -/

theorem reK_snd {α : Type} (xs : List α) : (reK xs).2 = xs := rfl
theorem longL_ref (l : Sl Part) : longL (refParts l) = longL l := rfl
theorem badL_ref (d : Bool) (l : Sl Part) : badL d (refParts l) = badL d l := rfl
theorem unkL_ref (ns : List Str) (l : Sl Part) : unkL ns (refParts l) = unkL ns l := rfl
theorem anyL_ref (q : Sl Part → Bool) (hq : ∀ l, q (refParts l) = q l) (ls : Lists) : (refLists ls).2.any q = ls.2.any q := by
  show (ls.2.map refParts).any q = _
  rw [List.any_map]
  congr 1
  funext l
  exact hq l
theorem longM_ref (m : Meta19) : longM (refMeta m) = longM m := by
  have h : (refMeta m).2.2.any longL = m.2.2.any longL := anyL_ref _ longL_ref m.2
  have h2 : (refMeta m).2.2.length = m.2.2.length := by simp [refMeta, refLists, reK]
  simp only [longM, h, h2]
theorem longR_ref (r : Rule19) : longR (refRule r) = longR r := by
  have h : (refRule r).2.2.any longL = r.2.2.any longL := anyL_ref _ longL_ref r.2
  have h2 : (refRule r).2.2.length = r.2.2.length := by simp [refRule, refLists, reK]
  have h3 : (refRule r).1.2.length = r.1.2.length := rfl
  simp only [longR, h, h2, h3]
theorem metasErr_ref : ∀ (ms : List Meta19) (seen : List Str), metasErr (ms.map refMeta) seen = metasErr ms seen
  | [], _ => rfl
  | m :: ms, seen => by
    have h : (refMeta m).2.2.any (badL false) = m.2.2.any (badL false) := anyL_ref _ (badL_ref false) m.2
    have h2 : (refMeta m).2.2.length = m.2.2.length := by simp [refMeta, refLists, reK]
    have h3 : (refMeta m).1 = m.1 := rfl
    simp only [List.map_cons, metasErr, h, h2, h3, metasErr_ref ms]
theorem listsErr_ref : ∀ (ls : List (Sl Part)), listsErr (ls.map refParts) = listsErr ls
  | [] => rfl
  | l :: ls => by
    have h2 : (refParts l).2.length = l.2.length := rfl
    simp only [List.map_cons, listsErr, badL_ref, h2, listsErr_ref ls]
theorem ruleAll_ref (r : Rule19) : ruleAll (refRule r) = (ruleAll r).map refParts := rfl
theorem rulesErr_ref : ∀ (rs : List Rule19), rulesErr (rs.map refRule) = rulesErr rs
  | [] => rfl
  | r :: rs => by simp only [List.map_cons, rulesErr, ruleAll_ref, listsErr_ref, rulesErr_ref rs]
theorem names_ref (g : Gram) : names (refGram g) = names g := by
  show (g.1.2.map refMeta).map (·.1) = _
  rw [List.map_map]
  rfl

theorem checkG_ref (g : Gram) : checkG (refGram g) = checkG g := by
  have h1 : (refGram g).1.2 = g.1.2.map refMeta := rfl
  have h2 : (refGram g).2.2 = g.2.2.map refRule := rfl
  have a1 : ∀ q : Meta19 → Bool, (∀ m, q (refMeta m) = q m) → (g.1.2.map refMeta).any q = g.1.2.any q := fun q hq => by
    rw [List.any_map]; congr 1; funext m; exact hq m
  have a2 : ∀ q : Rule19 → Bool, (∀ m, q (refRule m) = q m) → (g.2.2.map refRule).any q = g.2.2.any q := fun q hq => by
    rw [List.any_map]; congr 1; funext m; exact hq m
  simp only [checkG, tooLong, names_ref, h1, h2, List.length_map, metasErr_ref, rulesErr_ref, a1 longM longM_ref, a2 longR longR_ref]
  rw [a1 (fun m => m.2.2.any (unkL (names g))) fun m => anyL_ref _ (unkL_ref (names g)) m.2]
  rw [a2 (fun r => (ruleAll r).any (unkL (names g))) fun r => by
    show ((ruleAll r).map refParts).any _ = _
    rw [List.any_map]
    rfl]
  rfl

theorem okParts_ref {l : Sl Part} (h : OkParts l) : OkParts (refParts l) := ⟨h.len, h.txt⟩
theorem okLists_ref {ls : Lists} (h : OkLists ls) : OkLists (refLists ls) := ⟨by simpa [refLists, reK] using h.len, fun p hp => by
  obtain ⟨q, hq, rfl⟩ := List.mem_map.1 (show p ∈ ls.2.map refParts from hp)
  exact okParts_ref (h.mem q hq)⟩
theorem okGram_ref {g : Gram} (h : OkGram g) : OkGram (refGram g) := ⟨by simpa [refGram, reK] using h.ml, by simpa [refGram, reK] using h.rl,
  fun p hp => by
    obtain ⟨q, hq, rfl⟩ := List.mem_map.1 (show p ∈ g.1.2.map refMeta from hp)
    exact ⟨(h.metas q hq).txt, okLists_ref (h.metas q hq).alts⟩,
  fun p hp => by
    obtain ⟨q, hq, rfl⟩ := List.mem_map.1 (show p ∈ g.2.2.map refRule from hp)
    exact ⟨okParts_ref (h.rules q hq).left, okLists_ref (h.rules q hq).right⟩⟩

theorem smallG_len {g : Gram} (h : smallG g = true) : (g.1.2.length : Int) ≤ 8 ∧ (g.2.2.length : Int) ≤ 20 := by
  simp only [smallG, Bool.and_eq_true, decide_eq_true_eq] at h
  exact ⟨h.1, h.2.1⟩

/-- The law, the examples' run taken as given. -/
theorem c3 (hawake : ∀ σ : St, σ = [] → Ret W 13 [] σ (.bool true)) {g : Gram} (hg : OkGram g) : Ret W 3 [pvGram g] [] (.bool true) := by
  refine ret_of fun R hR => ?_
  rw [fn3_eq]
  unfold fn3
  have hbox : opC.vBoxAny (pvGram g) = some (2, pvGram g) := rfl
  have hpt : vPart true 2 (pvGram g) 0 = some (pvGram g) := rfl
  have hp0 : vPart false 1 (pvGram g) 0 = some (pvSl pvMeta g.1) := rfl
  have hp1 : vPart false 1 (pvGram g) 1 = some (pvSl pvRule g.2) := rfl
  have hl0 : vLen .sl (pvSl pvMeta g.1) [] = some (.int .i64 g.1.2.length) := by simp [pvSl]
  have hl1 : vLen .sl (pvSl pvRule g.2) [] = some (.int .i64 g.2.2.length) := by simp [pvSl]
  simp only [hbox, bindO_some_eq, bindO_none_eq, bindS_some, condW_true, condW_false, guardG_true, guardG_false, guardG_tf, guardG_ft, guardG_skip, pv_v, pv_loc, lookP_cons, lookE_cons, vPick_true, vPick_false, vUn_not, vExtract_tuple, vBin_lss, vBin_leq, vBin_gtr, vBin_geq, vBin_eql, vBin_neq, vBin_eql_str, vBin_neq_str, vLen_str, vLen_list, vLen_sref, vLoad_eptr, vPart_agg, vPart_two, vPart_str, vPart_bool, vPart_int, vPart_list, vField_eptr, vField_ptr, Nat.reduceEqDiff, Nat.zero_add, Nat.add_zero, if_true, if_false, decide_true, decide_false, Bool.not_true, Bool.not_false, List.getElem?_cons_zero, List.getElem?_cons_succ, Int.ofNat_lt, eq_self]
  refine (hawake [] rfl).callB ?_
  simp only [hpt, bindO_some_eq, bindO_none_eq, bindS_some, condW_true, condW_false, guardG_true, guardG_false, guardG_tf, guardG_ft, guardG_skip, pv_v, pv_loc, lookP_cons, lookE_cons, vPick_true, vPick_false, vUn_not, vExtract_tuple, vBin_lss, vBin_leq, vBin_gtr, vBin_geq, vBin_eql, vBin_neq, vBin_eql_str, vBin_neq_str, vLen_str, vLen_list, vLen_sref, vLoad_eptr, vPart_agg, vPart_two, vPart_str, vPart_bool, vPart_int, vPart_list, vField_eptr, vField_ptr, Nat.reduceEqDiff, Nat.zero_add, Nat.add_zero, if_true, if_false, decide_true, decide_false, Bool.not_true, Bool.not_false, List.getElem?_cons_zero, List.getElem?_cons_succ, Int.ofNat_lt, eq_self]
  refine (c14 hg []).callB ?_
  cases h : smallG g with
  | true =>
    simp only [hpt, bindO_some_eq, bindO_none_eq, bindS_some, condW_true, condW_false, guardG_true, guardG_false, guardG_tf, guardG_ft, guardG_skip, pv_v, pv_loc, lookP_cons, lookE_cons, vPick_true, vPick_false, vUn_not, vExtract_tuple, vBin_lss, vBin_leq, vBin_gtr, vBin_geq, vBin_eql, vBin_neq, vBin_eql_str, vBin_neq_str, vLen_str, vLen_list, vLen_sref, vLoad_eptr, vPart_agg, vPart_two, vPart_str, vPart_bool, vPart_int, vPart_list, vField_eptr, vField_ptr, Nat.reduceEqDiff, Nat.zero_add, Nat.add_zero, if_true, if_false, decide_true, decide_false, Bool.not_true, Bool.not_false, List.getElem?_cons_zero, List.getElem?_cons_succ, Int.ofNat_lt, eq_self]
    refine (c15 hg []).callB ?_
    refine (c17 hg []).callB ?_
    refine (c16 (okGram_ref hg) []).callB ?_
    simp only [checkG_ref, BEq.rfl, bindO_some_eq, bindO_none_eq, bindS_some, condW_true, condW_false, guardG_true, guardG_false, guardG_tf, guardG_ft, guardG_skip, pv_v, pv_loc, lookP_cons, lookE_cons, vPick_true, vPick_false, vUn_not, vExtract_tuple, vBin_lss, vBin_leq, vBin_gtr, vBin_geq, vBin_eql, vBin_neq, vBin_eql_str, vBin_neq_str, vLen_str, vLen_list, vLen_sref, vLoad_eptr, vPart_agg, vPart_two, vPart_str, vPart_bool, vPart_int, vPart_list, vField_eptr, vField_ptr, Nat.reduceEqDiff, Nat.zero_add, Nat.add_zero, if_true, if_false, decide_true, decide_false, Bool.not_true, Bool.not_false, List.getElem?_cons_zero, List.getElem?_cons_succ, Int.ofNat_lt, eq_self]
    exact weakW_keep hR
  | false =>
    simp only [hp0, hp1, hl0, hl1, bindO_some_eq, bindO_none_eq, bindS_some, condW_true, condW_false, guardG_true, guardG_false, guardG_tf, guardG_ft, guardG_skip, pv_v, pv_loc, lookP_cons, lookE_cons, vPick_true, vPick_false, vUn_not, vExtract_tuple, vBin_lss, vBin_leq, vBin_gtr, vBin_geq, vBin_eql, vBin_neq, vBin_eql_str, vBin_neq_str, vLen_str, vLen_list, vLen_sref, vLoad_eptr, vPart_agg, vPart_two, vPart_str, vPart_bool, vPart_int, vPart_list, vField_eptr, vField_ptr, Nat.reduceEqDiff, Nat.zero_add, Nat.add_zero, if_true, if_false, decide_true, decide_false, Bool.not_true, Bool.not_false, List.getElem?_cons_zero, List.getElem?_cons_succ, Int.ofNat_lt, eq_self]
    cases h1 : decide ((g.1.2.length : Int) ≤ 100) with
    | true =>
      simp only [hp1, hl1, bindO_some_eq, bindO_none_eq, bindS_some, condW_true, condW_false, guardG_true, guardG_false, guardG_tf, guardG_ft, guardG_skip, pv_v, pv_loc, lookP_cons, lookE_cons, vPick_true, vPick_false, vUn_not, vExtract_tuple, vBin_lss, vBin_leq, vBin_gtr, vBin_geq, vBin_eql, vBin_neq, vBin_eql_str, vBin_neq_str, vLen_str, vLen_list, vLen_sref, vLoad_eptr, vPart_agg, vPart_two, vPart_str, vPart_bool, vPart_int, vPart_list, vField_eptr, vField_ptr, Nat.reduceEqDiff, Nat.zero_add, Nat.add_zero, if_true, if_false, decide_true, decide_false, Bool.not_true, Bool.not_false, List.getElem?_cons_zero, List.getElem?_cons_succ, Int.ofNat_lt, eq_self]
      cases h2 : decide ((g.2.2.length : Int) ≤ 500) with
      | true =>
        simp only [bindO_some_eq, bindO_none_eq, bindS_some, condW_true, condW_false, guardG_true, guardG_false, guardG_tf, guardG_ft, guardG_skip, pv_v, pv_loc, lookP_cons, lookE_cons, vPick_true, vPick_false, vUn_not, vExtract_tuple, vBin_lss, vBin_leq, vBin_gtr, vBin_geq, vBin_eql, vBin_neq, vBin_eql_str, vBin_neq_str, vLen_str, vLen_list, vLen_sref, vLoad_eptr, vPart_agg, vPart_two, vPart_str, vPart_bool, vPart_int, vPart_list, vField_eptr, vField_ptr, Nat.reduceEqDiff, Nat.zero_add, Nat.add_zero, if_true, if_false, decide_true, decide_false, Bool.not_true, Bool.not_false, List.getElem?_cons_zero, List.getElem?_cons_succ, Int.ofNat_lt, eq_self]
        exact weakW_keep hR
      | false =>
        simp only [hpt, bindO_some_eq, bindO_none_eq, bindS_some, condW_true, condW_false, guardG_true, guardG_false, guardG_tf, guardG_ft, guardG_skip, pv_v, pv_loc, lookP_cons, lookE_cons, vPick_true, vPick_false, vUn_not, vExtract_tuple, vBin_lss, vBin_leq, vBin_gtr, vBin_geq, vBin_eql, vBin_neq, vBin_eql_str, vBin_neq_str, vLen_str, vLen_list, vLen_sref, vLoad_eptr, vPart_agg, vPart_two, vPart_str, vPart_bool, vPart_int, vPart_list, vField_eptr, vField_ptr, Nat.reduceEqDiff, Nat.zero_add, Nat.add_zero, if_true, if_false, decide_true, decide_false, Bool.not_true, Bool.not_false, List.getElem?_cons_zero, List.getElem?_cons_succ, Int.ofNat_lt, eq_self]
        refine (c15 hg []).callB ?_
        have : checkG g = 3 := by
          have : tooLong g = true := by
            rw [decide_eq_false_iff_not] at h2
            simp [tooLong]
            omega
          simp only [checkG, this, if_true]
        simp only [this, BEq.rfl, bindO_some_eq, bindO_none_eq, bindS_some, condW_true, condW_false, guardG_true, guardG_false, guardG_tf, guardG_ft, guardG_skip, pv_v, pv_loc, lookP_cons, lookE_cons, vPick_true, vPick_false, vUn_not, vExtract_tuple, vBin_lss, vBin_leq, vBin_gtr, vBin_geq, vBin_eql, vBin_neq, vBin_eql_str, vBin_neq_str, vLen_str, vLen_list, vLen_sref, vLoad_eptr, vPart_agg, vPart_two, vPart_str, vPart_bool, vPart_int, vPart_list, vField_eptr, vField_ptr, Nat.reduceEqDiff, Nat.zero_add, Nat.add_zero, if_true, if_false, decide_true, decide_false, Bool.not_true, Bool.not_false, List.getElem?_cons_zero, List.getElem?_cons_succ, Int.ofNat_lt, eq_self]
        exact weakW_keep hR
    | false =>
      simp only [hpt, bindO_some_eq, bindO_none_eq, bindS_some, condW_true, condW_false, guardG_true, guardG_false, guardG_tf, guardG_ft, guardG_skip, pv_v, pv_loc, lookP_cons, lookE_cons, vPick_true, vPick_false, vUn_not, vExtract_tuple, vBin_lss, vBin_leq, vBin_gtr, vBin_geq, vBin_eql, vBin_neq, vBin_eql_str, vBin_neq_str, vLen_str, vLen_list, vLen_sref, vLoad_eptr, vPart_agg, vPart_two, vPart_str, vPart_bool, vPart_int, vPart_list, vField_eptr, vField_ptr, Nat.reduceEqDiff, Nat.zero_add, Nat.add_zero, if_true, if_false, decide_true, decide_false, Bool.not_true, Bool.not_false, List.getElem?_cons_zero, List.getElem?_cons_succ, Int.ofNat_lt, eq_self]
      refine (c15 hg []).callB ?_
      have : checkG g = 3 := by
        have : tooLong g = true := by
          rw [decide_eq_false_iff_not] at h1
          simp [tooLong]
          omega
        simp only [checkG, this, if_true]
      simp only [this, BEq.rfl, bindO_some_eq, bindO_none_eq, bindS_some, condW_true, condW_false, guardG_true, guardG_false, guardG_tf, guardG_ft, guardG_skip, pv_v, pv_loc, lookP_cons, lookE_cons, vPick_true, vPick_false, vUn_not, vExtract_tuple, vBin_lss, vBin_leq, vBin_gtr, vBin_geq, vBin_eql, vBin_neq, vBin_eql_str, vBin_neq_str, vLen_str, vLen_list, vLen_sref, vLoad_eptr, vPart_agg, vPart_two, vPart_str, vPart_bool, vPart_int, vPart_list, vField_eptr, vField_ptr, Nat.reduceEqDiff, Nat.zero_add, Nat.add_zero, if_true, if_false, decide_true, decide_false, Bool.not_true, Bool.not_false, List.getElem?_cons_zero, List.getElem?_cons_succ, Int.ofNat_lt, eq_self]
      exact weakW_keep hR

end Go.Proofs.YtiniifbmeobmgaaGreatDoor
