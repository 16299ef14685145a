/- The package's Check. -/
import Derived.Test.YtiniifbmeobmgaaGreatDoorSpecH
set_option linter.unusedVariables false
set_option linter.unusedSimpArgs false
namespace Go.Proofs.YtiniifbmeobmgaaGreatDoor
open Go Go.Abs

theorem newMapW_eq (σ : St) (K : PV → St → Prop) : newMapW σ K = K (.mref σ.length) (σ ++ [Blk.map 0 []]) := rfl

theorem new_store1 {σ : St} {z x : PV} (hx : x.cells? = some [x]) (hz : z = .nilmap ∨ z = .nilfunc) : vStore 1 (.ptr σ.length 0 0 0) x (σ ++ [.arr 0 1 [z]]) = some (σ ++ [.arr 0 1 [x]]) := by
  have hp : vPut 1 z 0 x = some x := by
    unfold vPut
    rw [hx]
    simp only [List.length_singleton, if_true]
    rcases hz with rfl | rfl <;> simp
  simp [vStore, hp]

theorem drop_cons {α : Type} {l : List α} {i : Nat} {a : α} (h : l[i]? = some a) : l.drop i = a :: l.drop (i + 1) := by
  rw [List.drop_eq_getElem_cons (List.getElem?_eq_some_iff.1 h).1, (List.getElem?_eq_some_iff.1 h).2]

theorem any_take_false {α : Type} {q : α → Bool} {l : List α} {i : Nat} {a : α} (h : (l.take i).any q = false) (ha : l[i]? = some a) (hq : q a = false) : (l.take (i + 1)).any q = false := by
  rw [List.take_add_one, ha, List.any_append, h]
  simp [hq]

theorem any_of_get {α : Type} {q : α → Bool} {l : List α} {i : Nat} {a : α} (ha : l[i]? = some a) (hq : q a = true) : l.any q = true := List.any_eq_true.2 ⟨a, List.mem_of_getElem? ha, hq⟩

theorem c15 {g : Gram} (hg : OkGram g) (σ : St) : Ret W 15 [pvGram g] σ (.int .i64 (checkG g)) := by
  refine ret_of fun R hR => ?_
  rw [fn15_eq]
  unfold fn15
  have fin : ∀ (e : Int) (σ' : St), σ <+: σ' → checkG g = e → weakW σ (.int .i64 e) σ' fun v σ => R (.ret v) σ := fun e σ' hp he => weakW_clean hp (.base _ (.int _ _)) (by rw [he] at hR; exact hR)
  obtain ⟨⟨mk, ms⟩, rk, rs⟩ := g
  have hml := hg.ml
  have hrl := hg.rl
  simp only at hml hrl
  have hbox : opC.vBoxAny (.agg [pvSl pvMeta (mk, ms), pvSl pvRule (rk, rs)]) = some (2, .agg [pvSl pvMeta (mk, ms), pvSl pvRule (rk, rs)]) := rfl
  simp only [pvGram, hbox, bindO_some_eq, bindO_none_eq, bindS_some, condW_true, condW_false, guardG_true, guardG_false, guardG_tf, guardG_ft, guardG_skip, pv_v, pv_loc, lookP_cons, lookE_cons, vPick_true, vPick_false, vUn_not, vExtract_tuple, vBin_lss, vBin_leq, vBin_gtr, vBin_geq, vBin_eql, vBin_neq, vBin_eql_str, vBin_neq_str, vLen_str, vLen_list, vLen_sref, vLoad_eptr, vPart_agg, vPart_two, vPart_str, vPart_bool, vPart_int, vPart_list, vField_eptr, vField_ptr, Nat.reduceEqDiff, Nat.zero_add, Nat.add_zero, if_true, if_false, decide_true, decide_false, Bool.not_true, Bool.not_false, List.getElem?_cons_zero, List.getElem?_cons_succ, Int.ofNat_lt, eq_self]
  have hp1 : ∀ k (l : List PV), vPart false 1 (.list k l) 0 = some (.list k l) := fun _ _ => rfl
  simp only [pvSl, List.length_map, bindO_some_eq, bindO_none_eq, bindS_some, condW_true, condW_false, guardG_true, guardG_false, guardG_tf, guardG_ft, guardG_skip, pv_v, pv_loc, lookP_cons, lookE_cons, vPick_true, vPick_false, vUn_not, vExtract_tuple, vBin_lss, vBin_leq, vBin_gtr, vBin_geq, vBin_eql, vBin_neq, vBin_eql_str, vBin_neq_str, vLen_str, vLen_list, vLen_sref, vLoad_eptr, vPart_agg, vPart_two, vPart_str, vPart_bool, vPart_int, vPart_list, vField_eptr, vField_ptr, Nat.reduceEqDiff, Nat.zero_add, Nat.add_zero, if_true, if_false, decide_true, decide_false, Bool.not_true, Bool.not_false, List.getElem?_cons_zero, List.getElem?_cons_succ, Int.ofNat_lt, eq_self]
  -- too long
  have notlong : (decide ((ms.length : Int) > 100) || (decide ((rs.length : Int) > 500) || (ms.any longM || rs.any longR))) = true → checkG ((mk, ms), rk, rs) = 3 := fun h => by simp only [checkG, tooLong, h, if_true]
  cases h1 : decide ((ms.length : Int) > 100) with
  | true =>
    simp only [bindO_some_eq, bindO_none_eq, bindS_some, condW_true, condW_false, guardG_true, guardG_false, guardG_tf, guardG_ft, guardG_skip, pv_v, pv_loc, lookP_cons, lookE_cons, vPick_true, vPick_false, vUn_not, vExtract_tuple, vBin_lss, vBin_leq, vBin_gtr, vBin_geq, vBin_eql, vBin_neq, vBin_eql_str, vBin_neq_str, vLen_str, vLen_list, vLen_sref, vLoad_eptr, vPart_agg, vPart_two, vPart_str, vPart_bool, vPart_int, vPart_list, vField_eptr, vField_ptr, Nat.reduceEqDiff, Nat.zero_add, Nat.add_zero, if_true, if_false, decide_true, decide_false, Bool.not_true, Bool.not_false, List.getElem?_cons_zero, List.getElem?_cons_succ, Int.ofNat_lt, eq_self]
    exact fin 3 σ List.prefix_rfl (notlong (by simp [h1]))
  | false =>
  simp only [bindO_some_eq, bindO_none_eq, bindS_some, condW_true, condW_false, guardG_true, guardG_false, guardG_tf, guardG_ft, guardG_skip, pv_v, pv_loc, lookP_cons, lookE_cons, vPick_true, vPick_false, vUn_not, vExtract_tuple, vBin_lss, vBin_leq, vBin_gtr, vBin_geq, vBin_eql, vBin_neq, vBin_eql_str, vBin_neq_str, vLen_str, vLen_list, vLen_sref, vLoad_eptr, vPart_agg, vPart_two, vPart_str, vPart_bool, vPart_int, vPart_list, vField_eptr, vField_ptr, Nat.reduceEqDiff, Nat.zero_add, Nat.add_zero, if_true, if_false, decide_true, decide_false, Bool.not_true, Bool.not_false, List.getElem?_cons_zero, List.getElem?_cons_succ, Int.ofNat_lt, eq_self]
  cases h2 : decide ((rs.length : Int) > 500) with
  | true =>
    simp only [bindO_some_eq, bindO_none_eq, bindS_some, condW_true, condW_false, guardG_true, guardG_false, guardG_tf, guardG_ft, guardG_skip, pv_v, pv_loc, lookP_cons, lookE_cons, vPick_true, vPick_false, vUn_not, vExtract_tuple, vBin_lss, vBin_leq, vBin_gtr, vBin_geq, vBin_eql, vBin_neq, vBin_eql_str, vBin_neq_str, vLen_str, vLen_list, vLen_sref, vLoad_eptr, vPart_agg, vPart_two, vPart_str, vPart_bool, vPart_int, vPart_list, vField_eptr, vField_ptr, Nat.reduceEqDiff, Nat.zero_add, Nat.add_zero, if_true, if_false, decide_true, decide_false, Bool.not_true, Bool.not_false, List.getElem?_cons_zero, List.getElem?_cons_succ, Int.ofNat_lt, eq_self]
    exact fin 3 σ List.prefix_rfl (notlong (by simp [h2]))
  | false =>
  simp only [bindO_some_eq, bindO_none_eq, bindS_some, condW_true, condW_false, guardG_true, guardG_false, guardG_tf, guardG_ft, guardG_skip, pv_v, pv_loc, lookP_cons, lookE_cons, vPick_true, vPick_false, vUn_not, vExtract_tuple, vBin_lss, vBin_leq, vBin_gtr, vBin_geq, vBin_eql, vBin_neq, vBin_eql_str, vBin_neq_str, vLen_str, vLen_list, vLen_sref, vLoad_eptr, vPart_agg, vPart_two, vPart_str, vPart_bool, vPart_int, vPart_list, vField_eptr, vField_ptr, Nat.reduceEqDiff, Nat.zero_add, Nat.add_zero, if_true, if_false, decide_true, decide_false, Bool.not_true, Bool.not_false, List.getElem?_cons_zero, List.getElem?_cons_succ, Int.ofNat_lt, eq_self]
  refine (c35 encMeta longM hb55 (Nat.lt_of_le_of_lt hml (by decide)) fun m hm => c55 (hg.metas m hm) _).callB ?_
  cases h3 : ms.any longM with
  | true =>
    simp only [bindO_some_eq, bindO_none_eq, bindS_some, condW_true, condW_false, guardG_true, guardG_false, guardG_tf, guardG_ft, guardG_skip, pv_v, pv_loc, lookP_cons, lookE_cons, vPick_true, vPick_false, vUn_not, vExtract_tuple, vBin_lss, vBin_leq, vBin_gtr, vBin_geq, vBin_eql, vBin_neq, vBin_eql_str, vBin_neq_str, vLen_str, vLen_list, vLen_sref, vLoad_eptr, vPart_agg, vPart_two, vPart_str, vPart_bool, vPart_int, vPart_list, vField_eptr, vField_ptr, Nat.reduceEqDiff, Nat.zero_add, Nat.add_zero, if_true, if_false, decide_true, decide_false, Bool.not_true, Bool.not_false, List.getElem?_cons_zero, List.getElem?_cons_succ, Int.ofNat_lt, eq_self]
    exact fin 3 σ List.prefix_rfl (notlong (by simp [h3]))
  | false =>
  simp only [bindO_some_eq, bindO_none_eq, bindS_some, condW_true, condW_false, guardG_true, guardG_false, guardG_tf, guardG_ft, guardG_skip, pv_v, pv_loc, lookP_cons, lookE_cons, vPick_true, vPick_false, vUn_not, vExtract_tuple, vBin_lss, vBin_leq, vBin_gtr, vBin_geq, vBin_eql, vBin_neq, vBin_eql_str, vBin_neq_str, vLen_str, vLen_list, vLen_sref, vLoad_eptr, vPart_agg, vPart_two, vPart_str, vPart_bool, vPart_int, vPart_list, vField_eptr, vField_ptr, Nat.reduceEqDiff, Nat.zero_add, Nat.add_zero, if_true, if_false, decide_true, decide_false, Bool.not_true, Bool.not_false, List.getElem?_cons_zero, List.getElem?_cons_succ, Int.ofNat_lt, eq_self]
  refine (c53 encRule longR hb56 (Nat.lt_of_le_of_lt hrl (by decide)) fun r hr => c56 (hg.rules r hr) _).callB ?_
  cases h4 : rs.any longR with
  | true =>
    simp only [bindO_some_eq, bindO_none_eq, bindS_some, condW_true, condW_false, guardG_true, guardG_false, guardG_tf, guardG_ft, guardG_skip, pv_v, pv_loc, lookP_cons, lookE_cons, vPick_true, vPick_false, vUn_not, vExtract_tuple, vBin_lss, vBin_leq, vBin_gtr, vBin_geq, vBin_eql, vBin_neq, vBin_eql_str, vBin_neq_str, vLen_str, vLen_list, vLen_sref, vLoad_eptr, vPart_agg, vPart_two, vPart_str, vPart_bool, vPart_int, vPart_list, vField_eptr, vField_ptr, Nat.reduceEqDiff, Nat.zero_add, Nat.add_zero, if_true, if_false, decide_true, decide_false, Bool.not_true, Bool.not_false, List.getElem?_cons_zero, List.getElem?_cons_succ, Int.ofNat_lt, eq_self]
    exact fin 3 σ List.prefix_rfl (notlong (by simp [h4]))
  | false =>
  have hlong : tooLong ((mk, ms), rk, rs) = false := by simp [tooLong, h1, h2, h3, h4]
  have hch : checkG ((mk, ms), rk, rs) = if metasErr ms [] = 0 then
      if rulesErr rs = 0 then
        if ms.any (fun m => m.2.2.any (unkL (ms.map (·.1)))) then 4
        else if rs.any (fun r => (ruleAll r).any (unkL (ms.map (·.1)))) then 4 else 0
      else rulesErr rs
    else metasErr ms [] := by
    simp only [checkG, hlong, Bool.false_eq_true, if_false, names]
    rfl
  simp only [newMapW_eq, newW_eq, bindO_some_eq, bindO_none_eq, bindS_some, condW_true, condW_false, guardG_true, guardG_false, guardG_tf, guardG_ft, guardG_skip, pv_v, pv_loc, lookP_cons, lookE_cons, vPick_true, vPick_false, vUn_not, vExtract_tuple, vBin_lss, vBin_leq, vBin_gtr, vBin_geq, vBin_eql, vBin_neq, vBin_eql_str, vBin_neq_str, vLen_str, vLen_list, vLen_sref, vLoad_eptr, vPart_agg, vPart_two, vPart_str, vPart_bool, vPart_int, vPart_list, vField_eptr, vField_ptr, Nat.reduceEqDiff, Nat.zero_add, Nat.add_zero, if_true, if_false, decide_true, decide_false, Bool.not_true, Bool.not_false, List.getElem?_cons_zero, List.getElem?_cons_succ, Int.ofNat_lt, eq_self]
  have st : vStore 1 (.ptr (σ ++ [Blk.map 0 []]).length 0 0 0) (.mref σ.length) ((σ ++ [Blk.map 0 []]) ++ [Blk.arr 0 1 [.nilmap]]) = some ((σ ++ [Blk.map 0 []]) ++ [Blk.arr 0 1 [.mref σ.length]]) := new_store1 rfl (.inl rfl)
  simp only [st, bindO_some_eq, bindO_none_eq, bindS_some, condW_true, condW_false, guardG_true, guardG_false, guardG_tf, guardG_ft, guardG_skip, pv_v, pv_loc, lookP_cons, lookE_cons, vPick_true, vPick_false, vUn_not, vExtract_tuple, vBin_lss, vBin_leq, vBin_gtr, vBin_geq, vBin_eql, vBin_neq, vBin_eql_str, vBin_neq_str, vLen_str, vLen_list, vLen_sref, vLoad_eptr, vPart_agg, vPart_two, vPart_str, vPart_bool, vPart_int, vPart_list, vField_eptr, vField_ptr, Nat.reduceEqDiff, Nat.zero_add, Nat.add_zero, if_true, if_false, decide_true, decide_false, Bool.not_true, Bool.not_false, List.getElem?_cons_zero, List.getElem?_cons_succ, Int.ofNat_lt, eq_self]
  have hc0 : ((σ ++ [Blk.map 0 []]) ++ [Blk.arr 0 1 [.mref σ.length]])[(σ ++ [Blk.map 0 []]).length]? = some (.arr 0 1 [.mref σ.length]) := new_get _ _
  have hb0 : ((σ ++ [Blk.map 0 []]) ++ [Blk.arr 0 1 [.mref σ.length]])[σ.length]? = some (.map 0 (pvKnown [])) := by
    rw [List.getElem?_append_left (by simp), new_get]
    rfl
  have hpre0 : σ <+: (σ ++ [Blk.map 0 []]) ++ [Blk.arr 0 1 [.mref σ.length]] := pre_app ⟨_, rfl⟩ _
  have hcb : (σ ++ [Blk.map 0 []]).length ≠ σ.length := by simp
  have hbl : σ.length < ((σ ++ [Blk.map 0 []]) ++ [Blk.arr 0 1 [.mref σ.length]]).length := by simp
  generalize hcdef : (σ ++ [Blk.map 0 []]).length = c at hc0 hcb ⊢
  generalize (σ ++ [Blk.map 0 []]) ++ [Blk.arr 0 1 [.mref σ.length]] = σ0 at hc0 hb0 hpre0 hbl
  -- the metarules
  refine Lfp_up ms.length (fun i x σ' => x = lookP [(3, .ptr c 0 0 0), (37, .list mk (ms.map pvMeta)), (38, .int .i64 ms.length), (39, .int .i64 i), (1, .agg [.list mk (ms.map pvMeta), .list rk (rs.map pvRule)])] ∧ σ <+: σ' ∧ σ'[c]? = some (.arr 0 1 [.mref σ.length]) ∧
      (∃ v, σ'[σ.length]? = some (.map v (pvKnown ((ms.take i).map (·.1))))) ∧ metasErr ms [] = metasErr (ms.drop i) ((ms.take i).map (·.1))) ?_ ⟨rfl, hpre0, hc0, ⟨0, hb0⟩, rfl⟩
  rintro Φ i x σ1 hi ⟨rfl, hpre, hc, ⟨v, hb⟩, hme⟩ next
  simp only [bindO_some_eq, bindO_none_eq, bindS_some, condW_true, condW_false, guardG_true, guardG_false, guardG_tf, guardG_ft, guardG_skip, pv_v, pv_loc, lookP_cons, lookE_cons, vPick_true, vPick_false, vUn_not, vExtract_tuple, vBin_lss, vBin_leq, vBin_gtr, vBin_geq, vBin_eql, vBin_neq, vBin_eql_str, vBin_neq_str, vLen_str, vLen_list, vLen_sref, vLoad_eptr, vPart_agg, vPart_two, vPart_str, vPart_bool, vPart_int, vPart_list, vField_eptr, vField_ptr, Nat.reduceEqDiff, Nat.zero_add, Nat.add_zero, if_true, if_false, decide_true, decide_false, Bool.not_true, Bool.not_false, List.getElem?_cons_zero, List.getElem?_cons_succ, Int.ofNat_lt, eq_self]
  by_cases hlt : i < ms.length
  · have hgi : ms[i]? = some ms[i] := by simp [hlt]
    have hmem : ms[i] ∈ ms := by simp
    generalize ms[i] = m at hgi hmem
    have hm := hg.metas m hmem
    have hput : vPut 2 (.agg [.str [], .list .nil []]) 0 (pvMeta m) = some (pvMeta m) := rfl
    rw [drop_cons hgi, metasErr] at hme
    have hld : vLoad false 1 (.ptr c 0 0 0) σ1 = some (.mref σ.length) := by simp [vLoad, hc, vPart, PV.cells?]
    simp only [hlt, encMeta.index hgi, encMeta.part, hput, bindO_some_eq, bindO_none_eq, bindS_some, condW_true, condW_false, guardG_true, guardG_false, guardG_tf, guardG_ft, guardG_skip, pv_v, pv_loc, lookP_cons, lookE_cons, vPick_true, vPick_false, vUn_not, vExtract_tuple, vBin_lss, vBin_leq, vBin_gtr, vBin_geq, vBin_eql, vBin_neq, vBin_eql_str, vBin_neq_str, vLen_str, vLen_list, vLen_sref, vLoad_eptr, vPart_agg, vPart_two, vPart_str, vPart_bool, vPart_int, vPart_list, vField_eptr, vField_ptr, Nat.reduceEqDiff, Nat.zero_add, Nat.add_zero, if_true, if_false, decide_true, decide_false, Bool.not_true, Bool.not_false, List.getElem?_cons_zero, List.getElem?_cons_succ, Int.ofNat_lt, eq_self]
    obtain ⟨n, ak, als⟩ := m
    have hn : okS n := Nat.lt_of_le_of_lt hm.txt (by decide)
    simp only [pvMeta, bindO_some_eq, bindO_none_eq, bindS_some, condW_true, condW_false, guardG_true, guardG_false, guardG_tf, guardG_ft, guardG_skip, pv_v, pv_loc, lookP_cons, lookE_cons, vPick_true, vPick_false, vUn_not, vExtract_tuple, vBin_lss, vBin_leq, vBin_gtr, vBin_geq, vBin_eql, vBin_neq, vBin_eql_str, vBin_neq_str, vLen_str, vLen_list, vLen_sref, vLoad_eptr, vPart_agg, vPart_two, vPart_str, vPart_bool, vPart_int, vPart_list, vField_eptr, vField_ptr, Nat.reduceEqDiff, Nat.zero_add, Nat.add_zero, if_true, if_false, decide_true, decide_false, Bool.not_true, Bool.not_false, List.getElem?_cons_zero, List.getElem?_cons_succ, Int.ofNat_lt, eq_self]
    refine (c57 hn _).callB ?_
    cases e1 : isMeta n with
    | false =>
      simp only [bindO_some_eq, bindO_none_eq, bindS_some, condW_true, condW_false, guardG_true, guardG_false, guardG_tf, guardG_ft, guardG_skip, pv_v, pv_loc, lookP_cons, lookE_cons, vPick_true, vPick_false, vUn_not, vExtract_tuple, vBin_lss, vBin_leq, vBin_gtr, vBin_geq, vBin_eql, vBin_neq, vBin_eql_str, vBin_neq_str, vLen_str, vLen_list, vLen_sref, vLoad_eptr, vPart_agg, vPart_two, vPart_str, vPart_bool, vPart_int, vPart_list, vField_eptr, vField_ptr, Nat.reduceEqDiff, Nat.zero_add, Nat.add_zero, if_true, if_false, decide_true, decide_false, Bool.not_true, Bool.not_false, List.getElem?_cons_zero, List.getElem?_cons_succ, Int.ofNat_lt, eq_self]
      refine fin 8 _ hpre ?_
      rw [hch, hme]
      simp [e1]
    | true =>
    simp only [hld, lookup_known hb, bindO_some_eq, bindO_none_eq, bindS_some, condW_true, condW_false, guardG_true, guardG_false, guardG_tf, guardG_ft, guardG_skip, pv_v, pv_loc, lookP_cons, lookE_cons, vPick_true, vPick_false, vUn_not, vExtract_tuple, vBin_lss, vBin_leq, vBin_gtr, vBin_geq, vBin_eql, vBin_neq, vBin_eql_str, vBin_neq_str, vLen_str, vLen_list, vLen_sref, vLoad_eptr, vPart_agg, vPart_two, vPart_str, vPart_bool, vPart_int, vPart_list, vField_eptr, vField_ptr, Nat.reduceEqDiff, Nat.zero_add, Nat.add_zero, if_true, if_false, decide_true, decide_false, Bool.not_true, Bool.not_false, List.getElem?_cons_zero, List.getElem?_cons_succ, Int.ofNat_lt, eq_self]
    cases e2 : ((ms.take i).map (·.1)).contains n with
    | true =>
      simp only [bindO_some_eq, bindO_none_eq, bindS_some, condW_true, condW_false, guardG_true, guardG_false, guardG_tf, guardG_ft, guardG_skip, pv_v, pv_loc, lookP_cons, lookE_cons, vPick_true, vPick_false, vUn_not, vExtract_tuple, vBin_lss, vBin_leq, vBin_gtr, vBin_geq, vBin_eql, vBin_neq, vBin_eql_str, vBin_neq_str, vLen_str, vLen_list, vLen_sref, vLoad_eptr, vPart_agg, vPart_two, vPart_str, vPart_bool, vPart_int, vPart_list, vField_eptr, vField_ptr, Nat.reduceEqDiff, Nat.zero_add, Nat.add_zero, if_true, if_false, decide_true, decide_false, Bool.not_true, Bool.not_false, List.getElem?_cons_zero, List.getElem?_cons_succ, Int.ofNat_lt, eq_self]
      refine fin 5 _ hpre ?_
      rw [hch, hme]
      simp only [e1, e2]
      simp
    | false =>
    simp only [pvLists, pvSl, List.length_map, bindO_some_eq, bindO_none_eq, bindS_some, condW_true, condW_false, guardG_true, guardG_false, guardG_tf, guardG_ft, guardG_skip, pv_v, pv_loc, lookP_cons, lookE_cons, vPick_true, vPick_false, vUn_not, vExtract_tuple, vBin_lss, vBin_leq, vBin_gtr, vBin_geq, vBin_eql, vBin_neq, vBin_eql_str, vBin_neq_str, vLen_str, vLen_list, vLen_sref, vLoad_eptr, vPart_agg, vPart_two, vPart_str, vPart_bool, vPart_int, vPart_list, vField_eptr, vField_ptr, Nat.reduceEqDiff, Nat.zero_add, Nat.add_zero, if_true, if_false, decide_true, decide_false, Bool.not_true, Bool.not_false, List.getElem?_cons_zero, List.getElem?_cons_succ, Int.ofNat_lt, eq_self]
    have hlz : (((als.length : Int) == 0) = true) ↔ als.length = 0 := by simp
    cases e3 : ((als.length : Int) == 0) with
    | true =>
      have e3' := hlz.1 e3
      simp only [bindO_some_eq, bindO_none_eq, bindS_some, condW_true, condW_false, guardG_true, guardG_false, guardG_tf, guardG_ft, guardG_skip, pv_v, pv_loc, lookP_cons, lookE_cons, vPick_true, vPick_false, vUn_not, vExtract_tuple, vBin_lss, vBin_leq, vBin_gtr, vBin_geq, vBin_eql, vBin_neq, vBin_eql_str, vBin_neq_str, vLen_str, vLen_list, vLen_sref, vLoad_eptr, vPart_agg, vPart_two, vPart_str, vPart_bool, vPart_int, vPart_list, vField_eptr, vField_ptr, Nat.reduceEqDiff, Nat.zero_add, Nat.add_zero, if_true, if_false, decide_true, decide_false, Bool.not_true, Bool.not_false, List.getElem?_cons_zero, List.getElem?_cons_succ, Int.ofNat_lt, eq_self]
      refine fin 12 _ hpre ?_
      rw [hch, hme]
      simp only [e1, e2, e3']
      simp
    | false =>
    have e3' : ¬ als.length = 0 := fun h => by rw [hlz.2 h] at e3; cases e3
    simp only [bindO_some_eq, bindO_none_eq, bindS_some, condW_true, condW_false, guardG_true, guardG_false, guardG_tf, guardG_ft, guardG_skip, pv_v, pv_loc, lookP_cons, lookE_cons, vPick_true, vPick_false, vUn_not, vExtract_tuple, vBin_lss, vBin_leq, vBin_gtr, vBin_geq, vBin_eql, vBin_neq, vBin_eql_str, vBin_neq_str, vLen_str, vLen_list, vLen_sref, vLoad_eptr, vPart_agg, vPart_two, vPart_str, vPart_bool, vPart_int, vPart_list, vField_eptr, vField_ptr, Nat.reduceEqDiff, Nat.zero_add, Nat.add_zero, if_true, if_false, decide_true, decide_false, Bool.not_true, Bool.not_false, List.getElem?_cons_zero, List.getElem?_cons_succ, Int.ofNat_lt, eq_self]
    refine (c51 encParts (badL false) hb58 (Nat.lt_of_le_of_lt hm.alts.len (by decide)) fun l hl => c58 (hm.alts.mem l hl) _).callB ?_
    cases e4 : als.any (badL false) with
    | true =>
      simp only [bindO_some_eq, bindO_none_eq, bindS_some, condW_true, condW_false, guardG_true, guardG_false, guardG_tf, guardG_ft, guardG_skip, pv_v, pv_loc, lookP_cons, lookE_cons, vPick_true, vPick_false, vUn_not, vExtract_tuple, vBin_lss, vBin_leq, vBin_gtr, vBin_geq, vBin_eql, vBin_neq, vBin_eql_str, vBin_neq_str, vLen_str, vLen_list, vLen_sref, vLoad_eptr, vPart_agg, vPart_two, vPart_str, vPart_bool, vPart_int, vPart_list, vField_eptr, vField_ptr, Nat.reduceEqDiff, Nat.zero_add, Nat.add_zero, if_true, if_false, decide_true, decide_false, Bool.not_true, Bool.not_false, List.getElem?_cons_zero, List.getElem?_cons_succ, Int.ofNat_lt, eq_self]
      refine fin 8 _ hpre ?_
      rw [hch, hme]
      simp only [e1, e2, e3', e4]
      simp
    | false =>
    simp only [hld, set_known hb e2, bindO_some_eq, bindO_none_eq, bindS_some, condW_true, condW_false, guardG_true, guardG_false, guardG_tf, guardG_ft, guardG_skip, pv_v, pv_loc, lookP_cons, lookE_cons, vPick_true, vPick_false, vUn_not, vExtract_tuple, vBin_lss, vBin_leq, vBin_gtr, vBin_geq, vBin_eql, vBin_neq, vBin_eql_str, vBin_neq_str, vLen_str, vLen_list, vLen_sref, vLoad_eptr, vPart_agg, vPart_two, vPart_str, vPart_bool, vPart_int, vPart_list, vField_eptr, vField_ptr, Nat.reduceEqDiff, Nat.zero_add, Nat.add_zero, if_true, if_false, decide_true, decide_false, Bool.not_true, Bool.not_false, List.getElem?_cons_zero, List.getElem?_cons_succ, Int.ofNat_lt, eq_self]
    rw [vBin_add _ (by omega) (by omega)]
    have hbl1 : σ.length < σ1.length := (List.getElem?_eq_some_iff.1 hb).1
    have htk : (ms.take (i + 1)).map (·.1) = (ms.take i).map (·.1) ++ [n] := by rw [List.take_add_one, hgi]; simp
    refine next _ _ hlt ⟨by simp, pre_set hpre (Nat.le_refl _) _, by rw [List.getElem?_set_ne (Ne.symm hcb)]; exact hc, ⟨v + 1, by rw [htk]; simp [hbl1]⟩, ?_⟩
    rw [hme, htk]
    simp only [e1, e2, e3', e4]
    simp
  · obtain rfl : i = ms.length := by omega
    rw [List.drop_length, metasErr] at hme
    rw [List.take_length] at hb
    rw [hme] at hch
    simp only [if_true] at hch
    simp only [hlt, pvSl, List.length_map, bindO_some_eq, bindO_none_eq, bindS_some, condW_true, condW_false, guardG_true, guardG_false, guardG_tf, guardG_ft, guardG_skip, pv_v, pv_loc, lookP_cons, lookE_cons, vPick_true, vPick_false, vUn_not, vExtract_tuple, vBin_lss, vBin_leq, vBin_gtr, vBin_geq, vBin_eql, vBin_neq, vBin_eql_str, vBin_neq_str, vLen_str, vLen_list, vLen_sref, vLoad_eptr, vPart_agg, vPart_two, vPart_str, vPart_bool, vPart_int, vPart_list, vField_eptr, vField_ptr, Nat.reduceEqDiff, Nat.zero_add, Nat.add_zero, if_true, if_false, decide_true, decide_false, Bool.not_true, Bool.not_false, List.getElem?_cons_zero, List.getElem?_cons_succ, Int.ofNat_lt, eq_self]
    -- the rules
    refine Lfp_up rs.length (fun i x σ' => x = lookP [(3, .ptr c 0 0 0), (67, .list rk (rs.map pvRule)), (68, .int .i64 rs.length), (69, .int .i64 i), (1, .agg [.list mk (ms.map pvMeta), .list rk (rs.map pvRule)])] ∧ σ' = σ1 ∧ rulesErr rs = rulesErr (rs.drop i)) ?_ ⟨rfl, rfl, rfl⟩
    rintro Φ2 i x σ2 hi ⟨rfl, rfl, hre⟩ next2
    simp only [bindO_some_eq, bindO_none_eq, bindS_some, condW_true, condW_false, guardG_true, guardG_false, guardG_tf, guardG_ft, guardG_skip, pv_v, pv_loc, lookP_cons, lookE_cons, vPick_true, vPick_false, vUn_not, vExtract_tuple, vBin_lss, vBin_leq, vBin_gtr, vBin_geq, vBin_eql, vBin_neq, vBin_eql_str, vBin_neq_str, vLen_str, vLen_list, vLen_sref, vLoad_eptr, vPart_agg, vPart_two, vPart_str, vPart_bool, vPart_int, vPart_list, vField_eptr, vField_ptr, Nat.reduceEqDiff, Nat.zero_add, Nat.add_zero, if_true, if_false, decide_true, decide_false, Bool.not_true, Bool.not_false, List.getElem?_cons_zero, List.getElem?_cons_succ, Int.ofNat_lt, eq_self]
    by_cases hlt : i < rs.length
    · have hgi : rs[i]? = some rs[i] := by simp [hlt]
      have hmem : rs[i] ∈ rs := by simp
      generalize rs[i] = r at hgi hmem
      have hr := hg.rules r hmem
      have hput : vPut 2 (.agg [.list .nil [], .list .nil []]) 0 (pvRule r) = some (pvRule r) := rfl
      have hpt : vPart true 2 (pvRule r) 0 = some (pvRule r) := rfl
      rw [drop_cons hgi, rulesErr] at hre
      simp only [hlt, encRule.index hgi, encRule.part, hput, hpt, bindO_some_eq, bindO_none_eq, bindS_some, condW_true, condW_false, guardG_true, guardG_false, guardG_tf, guardG_ft, guardG_skip, pv_v, pv_loc, lookP_cons, lookE_cons, vPick_true, vPick_false, vUn_not, vExtract_tuple, vBin_lss, vBin_leq, vBin_gtr, vBin_geq, vBin_eql, vBin_neq, vBin_eql_str, vBin_neq_str, vLen_str, vLen_list, vLen_sref, vLoad_eptr, vPart_agg, vPart_two, vPart_str, vPart_bool, vPart_int, vPart_list, vField_eptr, vField_ptr, Nat.reduceEqDiff, Nat.zero_add, Nat.add_zero, if_true, if_false, decide_true, decide_false, Bool.not_true, Bool.not_false, List.getElem?_cons_zero, List.getElem?_cons_succ, Int.ofNat_lt, eq_self]
      refine (c60 hr _).callB ?_
      have hall : (ruleAll r).length ≤ 1048577 := by
        have := hr.right.len
        simp only [ruleAll, List.length_cons]
        omega
      simp only [pvLists, pvSl, allV, List.length_map, bindO_some_eq, bindO_none_eq, bindS_some, condW_true, condW_false, guardG_true, guardG_false, guardG_tf, guardG_ft, guardG_skip, pv_v, pv_loc, lookP_cons, lookE_cons, vPick_true, vPick_false, vUn_not, vExtract_tuple, vBin_lss, vBin_leq, vBin_gtr, vBin_geq, vBin_eql, vBin_neq, vBin_eql_str, vBin_neq_str, vLen_str, vLen_list, vLen_sref, vLoad_eptr, vPart_agg, vPart_two, vPart_str, vPart_bool, vPart_int, vPart_list, vField_eptr, vField_ptr, Nat.reduceEqDiff, Nat.zero_add, Nat.add_zero, if_true, if_false, decide_true, decide_false, Bool.not_true, Bool.not_false, List.getElem?_cons_zero, List.getElem?_cons_succ, Int.ofNat_lt, eq_self]
      refine Lfp_up (ruleAll r).length (fun j x σ' => x = lookP [(3, .ptr c 0 0 0), (67, .list rk (rs.map pvRule)), (68, .int .i64 rs.length), (69, .int .i64 i), (74, .list (if r.2.2 = [] then .full else .part) ((ruleAll r).map pvParts)), (75, .int .i64 (ruleAll r).length), (76, .int .i64 j), (1, .agg [.list mk (ms.map pvMeta), .list rk (rs.map pvRule)])] ∧ σ' = σ2 ∧ listsErr (ruleAll r) = listsErr ((ruleAll r).drop j)) ?_ ⟨rfl, rfl, rfl⟩
      rintro Φ3 j x σ3 hj ⟨rfl, rfl, hle⟩ next3
      simp only [bindO_some_eq, bindO_none_eq, bindS_some, condW_true, condW_false, guardG_true, guardG_false, guardG_tf, guardG_ft, guardG_skip, pv_v, pv_loc, lookP_cons, lookE_cons, vPick_true, vPick_false, vUn_not, vExtract_tuple, vBin_lss, vBin_leq, vBin_gtr, vBin_geq, vBin_eql, vBin_neq, vBin_eql_str, vBin_neq_str, vLen_str, vLen_list, vLen_sref, vLoad_eptr, vPart_agg, vPart_two, vPart_str, vPart_bool, vPart_int, vPart_list, vField_eptr, vField_ptr, Nat.reduceEqDiff, Nat.zero_add, Nat.add_zero, if_true, if_false, decide_true, decide_false, Bool.not_true, Bool.not_false, List.getElem?_cons_zero, List.getElem?_cons_succ, Int.ofNat_lt, eq_self]
      by_cases hjlt : j < (ruleAll r).length
      · have hgj : (ruleAll r)[j]? = some (ruleAll r)[j] := by simp [hjlt]
        have hmj : (ruleAll r)[j] ∈ ruleAll r := by simp
        generalize (ruleAll r)[j] = l at hgj hmj
        have hl : OkParts l := by
          rcases List.mem_cons.1 hmj with rfl | h
          · exact hr.left
          · exact hr.right.mem l h
        rw [drop_cons hgj, listsErr] at hle
        simp only [hjlt, encParts.index hgj, encParts.part, bindO_some_eq, bindO_none_eq, bindS_some, condW_true, condW_false, guardG_true, guardG_false, guardG_tf, guardG_ft, guardG_skip, pv_v, pv_loc, lookP_cons, lookE_cons, vPick_true, vPick_false, vUn_not, vExtract_tuple, vBin_lss, vBin_leq, vBin_gtr, vBin_geq, vBin_eql, vBin_neq, vBin_eql_str, vBin_neq_str, vLen_str, vLen_list, vLen_sref, vLoad_eptr, vPart_agg, vPart_two, vPart_str, vPart_bool, vPart_int, vPart_list, vField_eptr, vField_ptr, Nat.reduceEqDiff, Nat.zero_add, Nat.add_zero, if_true, if_false, decide_true, decide_false, Bool.not_true, Bool.not_false, List.getElem?_cons_zero, List.getElem?_cons_succ, Int.ofNat_lt, eq_self]
        obtain ⟨lk, l⟩ := l
        simp only [pvParts, pvSl, List.length_map, bindO_some_eq, bindO_none_eq, bindS_some, condW_true, condW_false, guardG_true, guardG_false, guardG_tf, guardG_ft, guardG_skip, pv_v, pv_loc, lookP_cons, lookE_cons, vPick_true, vPick_false, vUn_not, vExtract_tuple, vBin_lss, vBin_leq, vBin_gtr, vBin_geq, vBin_eql, vBin_neq, vBin_eql_str, vBin_neq_str, vLen_str, vLen_list, vLen_sref, vLoad_eptr, vPart_agg, vPart_two, vPart_str, vPart_bool, vPart_int, vPart_list, vField_eptr, vField_ptr, Nat.reduceEqDiff, Nat.zero_add, Nat.add_zero, if_true, if_false, decide_true, decide_false, Bool.not_true, Bool.not_false, List.getElem?_cons_zero, List.getElem?_cons_succ, Int.ofNat_lt, eq_self]
        have hlz : (((l.length : Int) == 0) = true) ↔ l.length = 0 := by simp
        cases e3 : ((l.length : Int) == 0) with
        | true =>
          have e3' := hlz.1 e3
          simp only [e3', if_true] at hle
          simp only [bindO_some_eq, bindO_none_eq, bindS_some, condW_true, condW_false, guardG_true, guardG_false, guardG_tf, guardG_ft, guardG_skip, pv_v, pv_loc, lookP_cons, lookE_cons, vPick_true, vPick_false, vUn_not, vExtract_tuple, vBin_lss, vBin_leq, vBin_gtr, vBin_geq, vBin_eql, vBin_neq, vBin_eql_str, vBin_neq_str, vLen_str, vLen_list, vLen_sref, vLoad_eptr, vPart_agg, vPart_two, vPart_str, vPart_bool, vPart_int, vPart_list, vField_eptr, vField_ptr, Nat.reduceEqDiff, Nat.zero_add, Nat.add_zero, if_true, if_false, decide_true, decide_false, Bool.not_true, Bool.not_false, List.getElem?_cons_zero, List.getElem?_cons_succ, Int.ofNat_lt, eq_self]
          refine fin 12 _ hpre ?_
          rw [hch, hre, hle]
          simp
        | false =>
        have e3' : ¬ l.length = 0 := fun h => by rw [hlz.2 h] at e3; cases e3
        simp only [e3', if_false] at hle
        simp only [bindO_some_eq, bindO_none_eq, bindS_some, condW_true, condW_false, guardG_true, guardG_false, guardG_tf, guardG_ft, guardG_skip, pv_v, pv_loc, lookP_cons, lookE_cons, vPick_true, vPick_false, vUn_not, vExtract_tuple, vBin_lss, vBin_leq, vBin_gtr, vBin_geq, vBin_eql, vBin_neq, vBin_eql_str, vBin_neq_str, vLen_str, vLen_list, vLen_sref, vLoad_eptr, vPart_agg, vPart_two, vPart_str, vPart_bool, vPart_int, vPart_list, vField_eptr, vField_ptr, Nat.reduceEqDiff, Nat.zero_add, Nat.add_zero, if_true, if_false, decide_true, decide_false, Bool.not_true, Bool.not_false, List.getElem?_cons_zero, List.getElem?_cons_succ, Int.ofNat_lt, eq_self]
        refine (c59 (Nat.lt_of_le_of_lt hl.len (by decide)) hl.okS).callB ?_
        have hbl' : badL true (lk, l) = l.any (badPart true) := rfl
        rw [hbl'] at hle
        cases e4 : l.any (badPart true) with
        | true =>
          rw [e4] at hle
          simp only [if_true] at hle
          simp only [bindO_some_eq, bindO_none_eq, bindS_some, condW_true, condW_false, guardG_true, guardG_false, guardG_tf, guardG_ft, guardG_skip, pv_v, pv_loc, lookP_cons, lookE_cons, vPick_true, vPick_false, vUn_not, vExtract_tuple, vBin_lss, vBin_leq, vBin_gtr, vBin_geq, vBin_eql, vBin_neq, vBin_eql_str, vBin_neq_str, vLen_str, vLen_list, vLen_sref, vLoad_eptr, vPart_agg, vPart_two, vPart_str, vPart_bool, vPart_int, vPart_list, vField_eptr, vField_ptr, Nat.reduceEqDiff, Nat.zero_add, Nat.add_zero, if_true, if_false, decide_true, decide_false, Bool.not_true, Bool.not_false, List.getElem?_cons_zero, List.getElem?_cons_succ, Int.ofNat_lt, eq_self]
          refine fin 8 _ hpre ?_
          rw [hch, hre, hle]
          simp
        | false =>
        rw [e4] at hle
        simp only [Bool.false_eq_true, if_false] at hle
        simp only [bindO_some_eq, bindO_none_eq, bindS_some, condW_true, condW_false, guardG_true, guardG_false, guardG_tf, guardG_ft, guardG_skip, pv_v, pv_loc, lookP_cons, lookE_cons, vPick_true, vPick_false, vUn_not, vExtract_tuple, vBin_lss, vBin_leq, vBin_gtr, vBin_geq, vBin_eql, vBin_neq, vBin_eql_str, vBin_neq_str, vLen_str, vLen_list, vLen_sref, vLoad_eptr, vPart_agg, vPart_two, vPart_str, vPart_bool, vPart_int, vPart_list, vField_eptr, vField_ptr, Nat.reduceEqDiff, Nat.zero_add, Nat.add_zero, if_true, if_false, decide_true, decide_false, Bool.not_true, Bool.not_false, List.getElem?_cons_zero, List.getElem?_cons_succ, Int.ofNat_lt, eq_self]
        rw [vBin_add _ (by omega) (by omega)]
        exact next3 _ _ hjlt ⟨by simp, rfl, hle⟩
      · obtain rfl : j = (ruleAll r).length := by omega
        rw [List.drop_length, listsErr] at hle
        rw [hle] at hre
        simp only [if_true] at hre
        simp only [hjlt, bindO_some_eq, bindO_none_eq, bindS_some, condW_true, condW_false, guardG_true, guardG_false, guardG_tf, guardG_ft, guardG_skip, pv_v, pv_loc, lookP_cons, lookE_cons, vPick_true, vPick_false, vUn_not, vExtract_tuple, vBin_lss, vBin_leq, vBin_gtr, vBin_geq, vBin_eql, vBin_neq, vBin_eql_str, vBin_neq_str, vLen_str, vLen_list, vLen_sref, vLoad_eptr, vPart_agg, vPart_two, vPart_str, vPart_bool, vPart_int, vPart_list, vField_eptr, vField_ptr, Nat.reduceEqDiff, Nat.zero_add, Nat.add_zero, if_true, if_false, decide_true, decide_false, Bool.not_true, Bool.not_false, List.getElem?_cons_zero, List.getElem?_cons_succ, Int.ofNat_lt, eq_self]
        rw [vBin_add _ (by omega) (by omega)]
        exact next2 _ _ hlt ⟨by simp, rfl, hre⟩
    · obtain rfl : i = rs.length := by omega
      rw [List.drop_length, rulesErr] at hre
      rw [hre] at hch
      simp only [if_true] at hch
      simp only [hlt, pvSl, List.length_map, bindO_some_eq, bindO_none_eq, bindS_some, condW_true, condW_false, guardG_true, guardG_false, guardG_tf, guardG_ft, guardG_skip, pv_v, pv_loc, lookP_cons, lookE_cons, vPick_true, vPick_false, vUn_not, vExtract_tuple, vBin_lss, vBin_leq, vBin_gtr, vBin_geq, vBin_eql, vBin_neq, vBin_eql_str, vBin_neq_str, vLen_str, vLen_list, vLen_sref, vLoad_eptr, vPart_agg, vPart_two, vPart_str, vPart_bool, vPart_int, vPart_list, vField_eptr, vField_ptr, Nat.reduceEqDiff, Nat.zero_add, Nat.add_zero, if_true, if_false, decide_true, decide_false, Bool.not_true, Bool.not_false, List.getElem?_cons_zero, List.getElem?_cons_succ, Int.ofNat_lt, eq_self]
      -- names of the metarules' alternatives
      refine Lfp_up ms.length (fun i x σ' => x = lookP [(10, .func 61 [.ptr c 0 0 0]), (90, .list mk (ms.map pvMeta)), (91, .int .i64 ms.length), (92, .int .i64 i), (1, .agg [.list mk (ms.map pvMeta), .list rk (rs.map pvRule)])] ∧ σ' = σ2 ∧ (ms.take i).any (fun m => m.2.2.any (unkL (ms.map (·.1)))) = false) ?_ ⟨rfl, rfl, rfl⟩
      rintro Φ4 i x σ4 hi ⟨rfl, rfl, hno⟩ next4
      simp only [bindO_some_eq, bindO_none_eq, bindS_some, condW_true, condW_false, guardG_true, guardG_false, guardG_tf, guardG_ft, guardG_skip, pv_v, pv_loc, lookP_cons, lookE_cons, vPick_true, vPick_false, vUn_not, vExtract_tuple, vBin_lss, vBin_leq, vBin_gtr, vBin_geq, vBin_eql, vBin_neq, vBin_eql_str, vBin_neq_str, vLen_str, vLen_list, vLen_sref, vLoad_eptr, vPart_agg, vPart_two, vPart_str, vPart_bool, vPart_int, vPart_list, vField_eptr, vField_ptr, Nat.reduceEqDiff, Nat.zero_add, Nat.add_zero, if_true, if_false, decide_true, decide_false, Bool.not_true, Bool.not_false, List.getElem?_cons_zero, List.getElem?_cons_succ, Int.ofNat_lt, eq_self]
      by_cases hlt : i < ms.length
      · have hgi : ms[i]? = some ms[i] := by simp [hlt]
        have hmem : ms[i] ∈ ms := by simp
        generalize ms[i] = m at hgi hmem
        have hm := hg.metas m hmem
        have hput : vPut 2 (.agg [.str [], .list .nil []]) 0 (pvMeta m) = some (pvMeta m) := rfl
        simp only [hlt, encMeta.index hgi, encMeta.part, hput, bindO_some_eq, bindO_none_eq, bindS_some, condW_true, condW_false, guardG_true, guardG_false, guardG_tf, guardG_ft, guardG_skip, pv_v, pv_loc, lookP_cons, lookE_cons, vPick_true, vPick_false, vUn_not, vExtract_tuple, vBin_lss, vBin_leq, vBin_gtr, vBin_geq, vBin_eql, vBin_neq, vBin_eql_str, vBin_neq_str, vLen_str, vLen_list, vLen_sref, vLoad_eptr, vPart_agg, vPart_two, vPart_str, vPart_bool, vPart_int, vPart_list, vField_eptr, vField_ptr, Nat.reduceEqDiff, Nat.zero_add, Nat.add_zero, if_true, if_false, decide_true, decide_false, Bool.not_true, Bool.not_false, List.getElem?_cons_zero, List.getElem?_cons_succ, Int.ofNat_lt, eq_self]
        obtain ⟨n, ak, als⟩ := m
        simp only [pvMeta, pvLists, pvSl, bindO_some_eq, bindO_none_eq, bindS_some, condW_true, condW_false, guardG_true, guardG_false, guardG_tf, guardG_ft, guardG_skip, pv_v, pv_loc, lookP_cons, lookE_cons, vPick_true, vPick_false, vUn_not, vExtract_tuple, vBin_lss, vBin_leq, vBin_gtr, vBin_geq, vBin_eql, vBin_neq, vBin_eql_str, vBin_neq_str, vLen_str, vLen_list, vLen_sref, vLoad_eptr, vPart_agg, vPart_two, vPart_str, vPart_bool, vPart_int, vPart_list, vField_eptr, vField_ptr, Nat.reduceEqDiff, Nat.zero_add, Nat.add_zero, if_true, if_false, decide_true, decide_false, Bool.not_true, Bool.not_false, List.getElem?_cons_zero, List.getElem?_cons_succ, Int.ofNat_lt, eq_self]
        refine (c51 encParts (unkL (ms.map (·.1))) hb61 (Nat.lt_of_le_of_lt hm.alts.len (by decide)) fun l hl => c61 (hm.alts.mem l hl) hc hb).callB ?_
        cases e4 : als.any (unkL (ms.map (·.1))) with
        | true =>
          simp only [bindO_some_eq, bindO_none_eq, bindS_some, condW_true, condW_false, guardG_true, guardG_false, guardG_tf, guardG_ft, guardG_skip, pv_v, pv_loc, lookP_cons, lookE_cons, vPick_true, vPick_false, vUn_not, vExtract_tuple, vBin_lss, vBin_leq, vBin_gtr, vBin_geq, vBin_eql, vBin_neq, vBin_eql_str, vBin_neq_str, vLen_str, vLen_list, vLen_sref, vLoad_eptr, vPart_agg, vPart_two, vPart_str, vPart_bool, vPart_int, vPart_list, vField_eptr, vField_ptr, Nat.reduceEqDiff, Nat.zero_add, Nat.add_zero, if_true, if_false, decide_true, decide_false, Bool.not_true, Bool.not_false, List.getElem?_cons_zero, List.getElem?_cons_succ, Int.ofNat_lt, eq_self]
          refine fin 4 _ hpre ?_
          rw [hch, if_pos]
          exact any_of_get hgi e4
        | false =>
        simp only [bindO_some_eq, bindO_none_eq, bindS_some, condW_true, condW_false, guardG_true, guardG_false, guardG_tf, guardG_ft, guardG_skip, pv_v, pv_loc, lookP_cons, lookE_cons, vPick_true, vPick_false, vUn_not, vExtract_tuple, vBin_lss, vBin_leq, vBin_gtr, vBin_geq, vBin_eql, vBin_neq, vBin_eql_str, vBin_neq_str, vLen_str, vLen_list, vLen_sref, vLoad_eptr, vPart_agg, vPart_two, vPart_str, vPart_bool, vPart_int, vPart_list, vField_eptr, vField_ptr, Nat.reduceEqDiff, Nat.zero_add, Nat.add_zero, if_true, if_false, decide_true, decide_false, Bool.not_true, Bool.not_false, List.getElem?_cons_zero, List.getElem?_cons_succ, Int.ofNat_lt, eq_self]
        rw [vBin_add _ (by omega) (by omega)]
        exact next4 _ _ hlt ⟨by simp, rfl, any_take_false hno hgi e4⟩
      · obtain rfl : i = ms.length := by omega
        rw [List.take_length] at hno
        rw [hno] at hch
        simp only [Bool.false_eq_true, if_false] at hch
        simp only [hlt, pvSl, List.length_map, bindO_some_eq, bindO_none_eq, bindS_some, condW_true, condW_false, guardG_true, guardG_false, guardG_tf, guardG_ft, guardG_skip, pv_v, pv_loc, lookP_cons, lookE_cons, vPick_true, vPick_false, vUn_not, vExtract_tuple, vBin_lss, vBin_leq, vBin_gtr, vBin_geq, vBin_eql, vBin_neq, vBin_eql_str, vBin_neq_str, vLen_str, vLen_list, vLen_sref, vLoad_eptr, vPart_agg, vPart_two, vPart_str, vPart_bool, vPart_int, vPart_list, vField_eptr, vField_ptr, Nat.reduceEqDiff, Nat.zero_add, Nat.add_zero, if_true, if_false, decide_true, decide_false, Bool.not_true, Bool.not_false, List.getElem?_cons_zero, List.getElem?_cons_succ, Int.ofNat_lt, eq_self]
        -- names of the rules
        refine Lfp_up rs.length (fun i x σ' => x = lookP [(10, .func 61 [.ptr c 0 0 0]), (102, .list rk (rs.map pvRule)), (103, .int .i64 rs.length), (104, .int .i64 i)] ∧ σ' = σ4 ∧ (rs.take i).any (fun r => (ruleAll r).any (unkL (ms.map (·.1)))) = false) ?_ ⟨rfl, rfl, rfl⟩
        rintro Φ5 i x σ5 hi ⟨rfl, rfl, hno5⟩ next5
        simp only [bindO_some_eq, bindO_none_eq, bindS_some, condW_true, condW_false, guardG_true, guardG_false, guardG_tf, guardG_ft, guardG_skip, pv_v, pv_loc, lookP_cons, lookE_cons, vPick_true, vPick_false, vUn_not, vExtract_tuple, vBin_lss, vBin_leq, vBin_gtr, vBin_geq, vBin_eql, vBin_neq, vBin_eql_str, vBin_neq_str, vLen_str, vLen_list, vLen_sref, vLoad_eptr, vPart_agg, vPart_two, vPart_str, vPart_bool, vPart_int, vPart_list, vField_eptr, vField_ptr, Nat.reduceEqDiff, Nat.zero_add, Nat.add_zero, if_true, if_false, decide_true, decide_false, Bool.not_true, Bool.not_false, List.getElem?_cons_zero, List.getElem?_cons_succ, Int.ofNat_lt, eq_self]
        by_cases hlt : i < rs.length
        · have hgi : rs[i]? = some rs[i] := by simp [hlt]
          have hmem : rs[i] ∈ rs := by simp
          generalize rs[i] = r at hgi hmem
          have hr := hg.rules r hmem
          have hput : vPut 2 (.agg [.list .nil [], .list .nil []]) 0 (pvRule r) = some (pvRule r) := rfl
          have hpt : vPart true 2 (pvRule r) 0 = some (pvRule r) := rfl
          simp only [hlt, encRule.index hgi, encRule.part, hput, hpt, bindO_some_eq, bindO_none_eq, bindS_some, condW_true, condW_false, guardG_true, guardG_false, guardG_tf, guardG_ft, guardG_skip, pv_v, pv_loc, lookP_cons, lookE_cons, vPick_true, vPick_false, vUn_not, vExtract_tuple, vBin_lss, vBin_leq, vBin_gtr, vBin_geq, vBin_eql, vBin_neq, vBin_eql_str, vBin_neq_str, vLen_str, vLen_list, vLen_sref, vLoad_eptr, vPart_agg, vPart_two, vPart_str, vPart_bool, vPart_int, vPart_list, vField_eptr, vField_ptr, Nat.reduceEqDiff, Nat.zero_add, Nat.add_zero, if_true, if_false, decide_true, decide_false, Bool.not_true, Bool.not_false, List.getElem?_cons_zero, List.getElem?_cons_succ, Int.ofNat_lt, eq_self]
          refine (c60 hr _).callB ?_
          have hall : (ruleAll r).length ≤ 1048577 := by
            have := hr.right.len
            simp only [ruleAll, List.length_cons]
            omega
          simp only [pvLists, pvSl, allV, bindO_some_eq, bindO_none_eq, bindS_some, condW_true, condW_false, guardG_true, guardG_false, guardG_tf, guardG_ft, guardG_skip, pv_v, pv_loc, lookP_cons, lookE_cons, vPick_true, vPick_false, vUn_not, vExtract_tuple, vBin_lss, vBin_leq, vBin_gtr, vBin_geq, vBin_eql, vBin_neq, vBin_eql_str, vBin_neq_str, vLen_str, vLen_list, vLen_sref, vLoad_eptr, vPart_agg, vPart_two, vPart_str, vPart_bool, vPart_int, vPart_list, vField_eptr, vField_ptr, Nat.reduceEqDiff, Nat.zero_add, Nat.add_zero, if_true, if_false, decide_true, decide_false, Bool.not_true, Bool.not_false, List.getElem?_cons_zero, List.getElem?_cons_succ, Int.ofNat_lt, eq_self]
          refine (c51 encParts (unkL (ms.map (·.1))) hb61 (by omega) fun l hl => c61 (by
            rcases List.mem_cons.1 hl with rfl | h
            · exact hr.left
            · exact hr.right.mem l h) hc hb).callB ?_
          cases e4 : (ruleAll r).any (unkL (ms.map (·.1))) with
          | true =>
            simp only [bindO_some_eq, bindO_none_eq, bindS_some, condW_true, condW_false, guardG_true, guardG_false, guardG_tf, guardG_ft, guardG_skip, pv_v, pv_loc, lookP_cons, lookE_cons, vPick_true, vPick_false, vUn_not, vExtract_tuple, vBin_lss, vBin_leq, vBin_gtr, vBin_geq, vBin_eql, vBin_neq, vBin_eql_str, vBin_neq_str, vLen_str, vLen_list, vLen_sref, vLoad_eptr, vPart_agg, vPart_two, vPart_str, vPart_bool, vPart_int, vPart_list, vField_eptr, vField_ptr, Nat.reduceEqDiff, Nat.zero_add, Nat.add_zero, if_true, if_false, decide_true, decide_false, Bool.not_true, Bool.not_false, List.getElem?_cons_zero, List.getElem?_cons_succ, Int.ofNat_lt, eq_self]
            refine fin 4 _ hpre ?_
            rw [hch, if_pos]
            exact any_of_get hgi e4
          | false =>
          simp only [bindO_some_eq, bindO_none_eq, bindS_some, condW_true, condW_false, guardG_true, guardG_false, guardG_tf, guardG_ft, guardG_skip, pv_v, pv_loc, lookP_cons, lookE_cons, vPick_true, vPick_false, vUn_not, vExtract_tuple, vBin_lss, vBin_leq, vBin_gtr, vBin_geq, vBin_eql, vBin_neq, vBin_eql_str, vBin_neq_str, vLen_str, vLen_list, vLen_sref, vLoad_eptr, vPart_agg, vPart_two, vPart_str, vPart_bool, vPart_int, vPart_list, vField_eptr, vField_ptr, Nat.reduceEqDiff, Nat.zero_add, Nat.add_zero, if_true, if_false, decide_true, decide_false, Bool.not_true, Bool.not_false, List.getElem?_cons_zero, List.getElem?_cons_succ, Int.ofNat_lt, eq_self]
          rw [vBin_add _ (by omega) (by omega)]
          exact next5 _ _ hlt ⟨by simp, rfl, any_take_false hno5 hgi e4⟩
        · obtain rfl : i = rs.length := by omega
          rw [List.take_length] at hno5
          simp only [hlt, bindO_some_eq, bindO_none_eq, bindS_some, condW_true, condW_false, guardG_true, guardG_false, guardG_tf, guardG_ft, guardG_skip, pv_v, pv_loc, lookP_cons, lookE_cons, vPick_true, vPick_false, vUn_not, vExtract_tuple, vBin_lss, vBin_leq, vBin_gtr, vBin_geq, vBin_eql, vBin_neq, vBin_eql_str, vBin_neq_str, vLen_str, vLen_list, vLen_sref, vLoad_eptr, vPart_agg, vPart_two, vPart_str, vPart_bool, vPart_int, vPart_list, vField_eptr, vField_ptr, Nat.reduceEqDiff, Nat.zero_add, Nat.add_zero, if_true, if_false, decide_true, decide_false, Bool.not_true, Bool.not_false, List.getElem?_cons_zero, List.getElem?_cons_succ, Int.ofNat_lt, eq_self]
          refine fin 0 _ hpre ?_
          rw [hch, hno5]
          simp

end Go.Proofs.YtiniifbmeobmgaaGreatDoor
