/- The reference's Check: it answers what the package's does. -/
import Derived.Test.YtiniifbmeobmgaaGreatDoorSpecI
set_option linter.unusedVariables false
set_option linter.unusedSimpArgs false
namespace Go.Proofs.YtiniifbmeobmgaaGreatDoor
open Go Go.Abs

theorem c65 {l : Lists} (hl : l.2.length < 4611686018427387904) (σ : St) : Ret W 65 [pvLists l] σ (.bool (l.2.any longL || decide ((l.2.length : Int) > 64))) := by
  refine ret_of fun R hR => ?_
  rw [fn65_eq]
  unfold fn65
  obtain ⟨k, ls⟩ := l
  simp only at hl hR
  refine CutW_of ?_
  refine Lfp_up ls.length (fun i x σ' => x = lookP [(0, .list k (ls.map pvParts)), (3, .int .i64 i)] ∧ σ' = σ ∧ (ls.take i).any longL = false) ?_ ⟨rfl, rfl, rfl⟩
  rintro Φ i x σ' hi ⟨rfl, rfl, hp⟩ next
  simp only [List.length_map, bindO_some_eq, bindO_none_eq, bindS_some, condW_true, condW_false, guardG_true, guardG_false, guardG_tf, guardG_ft, guardG_skip, pv_v, pv_loc, lookP_cons, lookE_cons, vPick_true, vPick_false, vUn_not, vExtract_tuple, vBin_lss, vBin_leq, vBin_gtr, vBin_geq, vBin_eql, vBin_neq, vBin_eql_str, vBin_neq_str, vLen_str, vLen_list, vLen_sref, vLoad_eptr, vPart_agg, vPart_two, vPart_str, vPart_bool, vPart_int, vPart_list, vField_eptr, vField_ptr, Nat.reduceEqDiff, Nat.zero_add, Nat.add_zero, if_true, if_false, decide_true, decide_false, Bool.not_true, Bool.not_false, List.getElem?_cons_zero, List.getElem?_cons_succ, Int.ofNat_lt, eq_self]
  by_cases hlt : i < ls.length
  · have hgi : ls[i]? = some ls[i] := by simp [hlt]
    generalize ls[i] = p at hgi
    obtain ⟨pk, p⟩ := p
    simp only [hlt, encParts.index hgi, encParts.part, bindO_some_eq, bindO_none_eq, bindS_some, condW_true, condW_false, guardG_true, guardG_false, guardG_tf, guardG_ft, guardG_skip, pv_v, pv_loc, lookP_cons, lookE_cons, vPick_true, vPick_false, vUn_not, vExtract_tuple, vBin_lss, vBin_leq, vBin_gtr, vBin_geq, vBin_eql, vBin_neq, vBin_eql_str, vBin_neq_str, vLen_str, vLen_list, vLen_sref, vLoad_eptr, vPart_agg, vPart_two, vPart_str, vPart_bool, vPart_int, vPart_list, vField_eptr, vField_ptr, Nat.reduceEqDiff, Nat.zero_add, Nat.add_zero, if_true, if_false, decide_true, decide_false, Bool.not_true, Bool.not_false, List.getElem?_cons_zero, List.getElem?_cons_succ, Int.ofNat_lt, eq_self]
    simp only [pvParts, pvSl, List.length_map, bindO_some_eq, bindO_none_eq, bindS_some, condW_true, condW_false, guardG_true, guardG_false, guardG_tf, guardG_ft, guardG_skip, pv_v, pv_loc, lookP_cons, lookE_cons, vPick_true, vPick_false, vUn_not, vExtract_tuple, vBin_lss, vBin_leq, vBin_gtr, vBin_geq, vBin_eql, vBin_neq, vBin_eql_str, vBin_neq_str, vLen_str, vLen_list, vLen_sref, vLoad_eptr, vPart_agg, vPart_two, vPart_str, vPart_bool, vPart_int, vPart_list, vField_eptr, vField_ptr, Nat.reduceEqDiff, Nat.zero_add, Nat.add_zero, if_true, if_false, decide_true, decide_false, Bool.not_true, Bool.not_false, List.getElem?_cons_zero, List.getElem?_cons_succ, Int.ofNat_lt, eq_self]
    cases e : decide ((p.length : Int) > 64) with
    | true =>
      simp only [bindO_some_eq, bindO_none_eq, bindS_some, condW_true, condW_false, guardG_true, guardG_false, guardG_tf, guardG_ft, guardG_skip, pv_v, pv_loc, lookP_cons, lookE_cons, vPick_true, vPick_false, vUn_not, vExtract_tuple, vBin_lss, vBin_leq, vBin_gtr, vBin_geq, vBin_eql, vBin_neq, vBin_eql_str, vBin_neq_str, vLen_str, vLen_list, vLen_sref, vLoad_eptr, vPart_agg, vPart_two, vPart_str, vPart_bool, vPart_int, vPart_list, vField_eptr, vField_ptr, Nat.reduceEqDiff, Nat.zero_add, Nat.add_zero, if_true, if_false, decide_true, decide_false, Bool.not_true, Bool.not_false, List.getElem?_cons_zero, List.getElem?_cons_succ, Int.ofNat_lt, eq_self]
      refine weakW_keep ?_
      rw [any_of_get hgi (q := longL) e] at hR
      exact hR
    | false =>
      simp only [bindO_some_eq, bindO_none_eq, bindS_some, condW_true, condW_false, guardG_true, guardG_false, guardG_tf, guardG_ft, guardG_skip, pv_v, pv_loc, lookP_cons, lookE_cons, vPick_true, vPick_false, vUn_not, vExtract_tuple, vBin_lss, vBin_leq, vBin_gtr, vBin_geq, vBin_eql, vBin_neq, vBin_eql_str, vBin_neq_str, vLen_str, vLen_list, vLen_sref, vLoad_eptr, vPart_agg, vPart_two, vPart_str, vPart_bool, vPart_int, vPart_list, vField_eptr, vField_ptr, Nat.reduceEqDiff, Nat.zero_add, Nat.add_zero, if_true, if_false, decide_true, decide_false, Bool.not_true, Bool.not_false, List.getElem?_cons_zero, List.getElem?_cons_succ, Int.ofNat_lt, eq_self]
      rw [vBin_add _ (by omega) (by omega)]
      exact next _ _ hlt ⟨by simp, rfl, any_take_false hp hgi e⟩
  · obtain rfl : i = ls.length := by omega
    rw [List.take_length] at hp
    simp only [hlt, List.length_map, bindO_some_eq, bindO_none_eq, bindS_some, condW_true, condW_false, guardG_true, guardG_false, guardG_tf, guardG_ft, guardG_skip, pv_v, pv_loc, lookP_cons, lookE_cons, vPick_true, vPick_false, vUn_not, vExtract_tuple, vBin_lss, vBin_leq, vBin_gtr, vBin_geq, vBin_eql, vBin_neq, vBin_eql_str, vBin_neq_str, vLen_str, vLen_list, vLen_sref, vLoad_eptr, vPart_agg, vPart_two, vPart_str, vPart_bool, vPart_int, vPart_list, vField_eptr, vField_ptr, Nat.reduceEqDiff, Nat.zero_add, Nat.add_zero, if_true, if_false, decide_true, decide_false, Bool.not_true, Bool.not_false, List.getElem?_cons_zero, List.getElem?_cons_succ, Int.ofNat_lt, eq_self]
    refine weakW_keep ?_
    rw [hp] at hR
    exact hR

theorem c67 {g : Gram} (hg : g.1.2.length ≤ 1048576) {n : Str} (σ : St) : Ret W 67 [pvGram g, .str n] σ (.int .i64 (idxOf (fun m => m.1 == n) g.1.2 0)) := by
  refine ret_of fun R hR => ?_
  rw [fn67_eq]
  unfold fn67
  obtain ⟨⟨mk, ms⟩, rk, rs⟩ := g
  simp only at hg hR
  have hbox : opC.vBoxAny (.agg [pvSl pvMeta (mk, ms), pvSl pvRule (rk, rs)]) = some (2, .agg [pvSl pvMeta (mk, ms), pvSl pvRule (rk, rs)]) := rfl
  simp only [pvGram, hbox, bindO_some_eq, bindO_none_eq, bindS_some, condW_true, condW_false, guardG_true, guardG_false, guardG_tf, guardG_ft, guardG_skip, pv_v, pv_loc, lookP_cons, lookE_cons, vPick_true, vPick_false, vUn_not, vExtract_tuple, vBin_lss, vBin_leq, vBin_gtr, vBin_geq, vBin_eql, vBin_neq, vBin_eql_str, vBin_neq_str, vLen_str, vLen_list, vLen_sref, vLoad_eptr, vPart_agg, vPart_two, vPart_str, vPart_bool, vPart_int, vPart_list, vField_eptr, vField_ptr, Nat.reduceEqDiff, Nat.zero_add, Nat.add_zero, if_true, if_false, decide_true, decide_false, Bool.not_true, Bool.not_false, List.getElem?_cons_zero, List.getElem?_cons_succ, Int.ofNat_lt, eq_self]
  simp only [pvSl]
  refine CutW_of ?_
  refine Lfp_up ms.length (fun i x σ' => x = lookP [(1, .str n), (5, .int .i64 i), (2, .agg [.list mk (ms.map pvMeta), .list rk (rs.map pvRule)])] ∧ σ' = σ ∧ (ms.take i).all (fun m => !(m.1 == n)) = true) ?_ ⟨rfl, rfl, rfl⟩
  rintro Φ i x σ' hi ⟨rfl, rfl, hp⟩ next
  simp only [List.length_map, bindO_some_eq, bindO_none_eq, bindS_some, condW_true, condW_false, guardG_true, guardG_false, guardG_tf, guardG_ft, guardG_skip, pv_v, pv_loc, lookP_cons, lookE_cons, vPick_true, vPick_false, vUn_not, vExtract_tuple, vBin_lss, vBin_leq, vBin_gtr, vBin_geq, vBin_eql, vBin_neq, vBin_eql_str, vBin_neq_str, vLen_str, vLen_list, vLen_sref, vLoad_eptr, vPart_agg, vPart_two, vPart_str, vPart_bool, vPart_int, vPart_list, vField_eptr, vField_ptr, Nat.reduceEqDiff, Nat.zero_add, Nat.add_zero, if_true, if_false, decide_true, decide_false, Bool.not_true, Bool.not_false, List.getElem?_cons_zero, List.getElem?_cons_succ, Int.ofNat_lt, eq_self]
  by_cases hlt : i < ms.length
  · have hgi : ms[i]? = some ms[i] := by simp [hlt]
    generalize ms[i] = m at hgi
    simp only [hlt, encMeta.index hgi, encMeta.part, bindO_some_eq, bindO_none_eq, bindS_some, condW_true, condW_false, guardG_true, guardG_false, guardG_tf, guardG_ft, guardG_skip, pv_v, pv_loc, lookP_cons, lookE_cons, vPick_true, vPick_false, vUn_not, vExtract_tuple, vBin_lss, vBin_leq, vBin_gtr, vBin_geq, vBin_eql, vBin_neq, vBin_eql_str, vBin_neq_str, vLen_str, vLen_list, vLen_sref, vLoad_eptr, vPart_agg, vPart_two, vPart_str, vPart_bool, vPart_int, vPart_list, vField_eptr, vField_ptr, Nat.reduceEqDiff, Nat.zero_add, Nat.add_zero, if_true, if_false, decide_true, decide_false, Bool.not_true, Bool.not_false, List.getElem?_cons_zero, List.getElem?_cons_succ, Int.ofNat_lt, eq_self]
    obtain ⟨t, als⟩ := m
    simp only [pvMeta, bindO_some_eq, bindO_none_eq, bindS_some, condW_true, condW_false, guardG_true, guardG_false, guardG_tf, guardG_ft, guardG_skip, pv_v, pv_loc, lookP_cons, lookE_cons, vPick_true, vPick_false, vUn_not, vExtract_tuple, vBin_lss, vBin_leq, vBin_gtr, vBin_geq, vBin_eql, vBin_neq, vBin_eql_str, vBin_neq_str, vLen_str, vLen_list, vLen_sref, vLoad_eptr, vPart_agg, vPart_two, vPart_str, vPart_bool, vPart_int, vPart_list, vField_eptr, vField_ptr, Nat.reduceEqDiff, Nat.zero_add, Nat.add_zero, if_true, if_false, decide_true, decide_false, Bool.not_true, Bool.not_false, List.getElem?_cons_zero, List.getElem?_cons_succ, Int.ofNat_lt, eq_self]
    cases e : (t == n) with
    | true =>
      simp only [bindO_some_eq, bindO_none_eq, bindS_some, condW_true, condW_false, guardG_true, guardG_false, guardG_tf, guardG_ft, guardG_skip, pv_v, pv_loc, lookP_cons, lookE_cons, vPick_true, vPick_false, vUn_not, vExtract_tuple, vBin_lss, vBin_leq, vBin_gtr, vBin_geq, vBin_eql, vBin_neq, vBin_eql_str, vBin_neq_str, vLen_str, vLen_list, vLen_sref, vLoad_eptr, vPart_agg, vPart_two, vPart_str, vPart_bool, vPart_int, vPart_list, vField_eptr, vField_ptr, Nat.reduceEqDiff, Nat.zero_add, Nat.add_zero, if_true, if_false, decide_true, decide_false, Bool.not_true, Bool.not_false, List.getElem?_cons_zero, List.getElem?_cons_succ, Int.ofNat_lt, eq_self]
      refine weakW_keep ?_
      rw [idxOf_hit (p := fun m : Meta19 => m.1 == n) hgi e hp] at hR
      simpa using hR
    | false =>
      simp only [bindO_some_eq, bindO_none_eq, bindS_some, condW_true, condW_false, guardG_true, guardG_false, guardG_tf, guardG_ft, guardG_skip, pv_v, pv_loc, lookP_cons, lookE_cons, vPick_true, vPick_false, vUn_not, vExtract_tuple, vBin_lss, vBin_leq, vBin_gtr, vBin_geq, vBin_eql, vBin_neq, vBin_eql_str, vBin_neq_str, vLen_str, vLen_list, vLen_sref, vLoad_eptr, vPart_agg, vPart_two, vPart_str, vPart_bool, vPart_int, vPart_list, vField_eptr, vField_ptr, Nat.reduceEqDiff, Nat.zero_add, Nat.add_zero, if_true, if_false, decide_true, decide_false, Bool.not_true, Bool.not_false, List.getElem?_cons_zero, List.getElem?_cons_succ, Int.ofNat_lt, eq_self]
      rw [vBin_add _ (by omega) (by omega)]
      exact next _ _ hlt ⟨by simp, rfl, all_take_succ hp hgi (by simp [e])⟩
  · obtain rfl : i = ms.length := by omega
    rw [List.take_length] at hp
    simp only [hlt, bindO_some_eq, bindO_none_eq, bindS_some, condW_true, condW_false, guardG_true, guardG_false, guardG_tf, guardG_ft, guardG_skip, pv_v, pv_loc, lookP_cons, lookE_cons, vPick_true, vPick_false, vUn_not, vExtract_tuple, vBin_lss, vBin_leq, vBin_gtr, vBin_geq, vBin_eql, vBin_neq, vBin_eql_str, vBin_neq_str, vLen_str, vLen_list, vLen_sref, vLoad_eptr, vPart_agg, vPart_two, vPart_str, vPart_bool, vPart_int, vPart_list, vField_eptr, vField_ptr, Nat.reduceEqDiff, Nat.zero_add, Nat.add_zero, if_true, if_false, decide_true, decide_false, Bool.not_true, Bool.not_false, List.getElem?_cons_zero, List.getElem?_cons_succ, Int.ofNat_lt, eq_self]
    refine weakW_keep ?_
    rw [idxOf_none hp] at hR
    exact hR

theorem idxOf_lt {α : Type} {p : α → Bool} (l : List α) : decide (idxOf p l 0 < 0) = !l.any p := by
  rw [← idxOf_ge l 0, ← decide_not]
  exact decide_eq_decide.2 (by omega)

theorem any_names (ms : List Meta19) (n : Str) : (ms.any fun m => m.1 == n) = (ms.map (·.1)).contains n := by
  induction ms with
  | nil => rfl
  | cons m ms ih =>
    simp only [List.any_cons, List.map_cons, List.contains_cons, ih]
    rw [Bool.beq_comm]

theorem metaOf_of_meta {s : Str} (h : isMeta s = true) : digitEnd s = false := by
  simp only [isMeta, within, inR, Bool.and_eq_true] at h
  obtain ⟨-, h, -⟩ := h
  unfold digitEnd
  cases hl : s.getLast? with
  | none => rfl
  | some c =>
    have := List.all_eq_true.1 h c (List.mem_of_getLast? hl)
    simp only [Bool.and_eq_true, decide_eq_true_eq] at this
    simp
    omega

theorem isParam_of_meta {s : Str} (h : isMeta s = true) : isParam s = true := by
  simp [isParam, metaOf, metaOf_of_meta h, h]

theorem base_eq {s : Str} (h : isParam s = true) : base s = metaOf s := by
  have hne : isMeta [] = false := rfl
  unfold isParam metaOf at h
  unfold base metaOf
  by_cases h1 : 1 < s.length
  · simp only [h1, decide_true, Bool.true_and]
    rw [if_pos h]
  · simp only [h1, decide_false, Bool.false_and, Bool.false_eq_true, if_false]
    cases hd : digitEnd s with
    | false =>
      rw [hd] at h
      simp only [Bool.false_eq_true, if_false] at h ⊢
      rw [if_pos h]
    | true =>
      rw [hd] at h
      simp only [if_true] at h
      match s, h1 with
      | [], _ => cases h
      | [c], _ => cases h
      | a :: b :: l, h1 => exact absurd (by simp) h1

/-- A parameter whose metanotion is not known, als the reference has it. -/
def unkRef (names : List Str) (p : Part) : Bool := p.1 && !names.contains (base p.2)

theorem unk_eq {names : List Str} {d : Bool} {p : Part} (h : badPart d p = false) : unkRef names p = unkPart names p := by
  obtain ⟨m, t⟩ := p
  cases m with
  | false => rfl
  | true =>
    have : isParam t = true := by
      simp only [badPart, Bool.not_true, Bool.false_and, Bool.true_and, Bool.false_or] at h
      cases hm : isMeta t with
      | true => exact isParam_of_meta hm
      | false =>
        rw [hm] at h
        cases hp : isParam t with
        | true => rfl
        | false => rw [hp] at h; simp at h
    simp only [unkRef, unkPart, base_eq this]

theorem unkL_eq {names : List Str} {d : Bool} {l : Sl Part} (h : badL d l = false) : l.2.any (unkRef names) = unkL names l := by
  unfold unkL badL at *
  obtain ⟨k, l⟩ := l
  simp only at h ⊢
  induction l with
  | nil => rfl
  | cons p l ih =>
    simp only [List.any_cons, Bool.or_eq_false_iff] at h ⊢
    rw [unk_eq h.1, ih h.2]

theorem c69 {g : Gram} (hg : g.1.2.length ≤ 1048576) {l : Sl Part} (hl : OkParts l) (σ : St) : Ret W 69 [pvGram g, pvParts l] σ (.int .i64 (if l.2.any (unkRef (names g)) then 4 else 0)) := by
  refine ret_of fun R hR => ?_
  rw [fn69_eq]
  unfold fn69
  have hc67 := fun (n : Str) (σ : St) => c67 hg (n := n) σ
  have hbox : opC.vBoxAny (pvGram g) = some (2, pvGram g) := rfl
  have hpt : vPart true 2 (pvGram g) 0 = some (pvGram g) := rfl
  obtain ⟨lk, ps⟩ := l
  have hlen := hl.len
  simp only at hR hlen
  simp only [hbox, pvParts, pvSl, bindO_some_eq, bindO_none_eq, bindS_some, condW_true, condW_false, guardG_true, guardG_false, guardG_tf, guardG_ft, guardG_skip, pv_v, pv_loc, lookP_cons, lookE_cons, vPick_true, vPick_false, vUn_not, vExtract_tuple, vBin_lss, vBin_leq, vBin_gtr, vBin_geq, vBin_eql, vBin_neq, vBin_eql_str, vBin_neq_str, vLen_str, vLen_list, vLen_sref, vLoad_eptr, vPart_agg, vPart_two, vPart_str, vPart_bool, vPart_int, vPart_list, vField_eptr, vField_ptr, Nat.reduceEqDiff, Nat.zero_add, Nat.add_zero, if_true, if_false, decide_true, decide_false, Bool.not_true, Bool.not_false, List.getElem?_cons_zero, List.getElem?_cons_succ, Int.ofNat_lt, eq_self]
  refine CutW_of ?_
  refine Lfp_up ps.length (fun i x σ' => x = lookP [(1, .list lk (ps.map pvPart)), (5, .int .i64 i), (2, pvGram g)] ∧ σ' = σ ∧ (ps.take i).any (unkRef (names g)) = false) ?_ ⟨rfl, rfl, rfl⟩
  rintro Φ i x σ' hi ⟨rfl, rfl, hp⟩ next
  simp only [List.length_map, bindO_some_eq, bindO_none_eq, bindS_some, condW_true, condW_false, guardG_true, guardG_false, guardG_tf, guardG_ft, guardG_skip, pv_v, pv_loc, lookP_cons, lookE_cons, vPick_true, vPick_false, vUn_not, vExtract_tuple, vBin_lss, vBin_leq, vBin_gtr, vBin_geq, vBin_eql, vBin_neq, vBin_eql_str, vBin_neq_str, vLen_str, vLen_list, vLen_sref, vLoad_eptr, vPart_agg, vPart_two, vPart_str, vPart_bool, vPart_int, vPart_list, vField_eptr, vField_ptr, Nat.reduceEqDiff, Nat.zero_add, Nat.add_zero, if_true, if_false, decide_true, decide_false, Bool.not_true, Bool.not_false, List.getElem?_cons_zero, List.getElem?_cons_succ, Int.ofNat_lt, eq_self]
  by_cases hlt : i < ps.length
  · have hgi : ps[i]? = some ps[i] := by simp [hlt]
    have hmem : ps[i] ∈ ps := by simp
    generalize ps[i] = p at hgi hmem
    have ht := hl.okS p hmem
    simp only [hlt, encPart.index hgi, encPart.part, bindO_some_eq, bindO_none_eq, bindS_some, condW_true, condW_false, guardG_true, guardG_false, guardG_tf, guardG_ft, guardG_skip, pv_v, pv_loc, lookP_cons, lookE_cons, vPick_true, vPick_false, vUn_not, vExtract_tuple, vBin_lss, vBin_leq, vBin_gtr, vBin_geq, vBin_eql, vBin_neq, vBin_eql_str, vBin_neq_str, vLen_str, vLen_list, vLen_sref, vLoad_eptr, vPart_agg, vPart_two, vPart_str, vPart_bool, vPart_int, vPart_list, vField_eptr, vField_ptr, Nat.reduceEqDiff, Nat.zero_add, Nat.add_zero, if_true, if_false, decide_true, decide_false, Bool.not_true, Bool.not_false, List.getElem?_cons_zero, List.getElem?_cons_succ, Int.ofNat_lt, eq_self]
    obtain ⟨m, t⟩ := p
    simp only [pvPart, bindO_some_eq, bindO_none_eq, bindS_some, condW_true, condW_false, guardG_true, guardG_false, guardG_tf, guardG_ft, guardG_skip, pv_v, pv_loc, lookP_cons, lookE_cons, vPick_true, vPick_false, vUn_not, vExtract_tuple, vBin_lss, vBin_leq, vBin_gtr, vBin_geq, vBin_eql, vBin_neq, vBin_eql_str, vBin_neq_str, vLen_str, vLen_list, vLen_sref, vLoad_eptr, vPart_agg, vPart_two, vPart_str, vPart_bool, vPart_int, vPart_list, vField_eptr, vField_ptr, Nat.reduceEqDiff, Nat.zero_add, Nat.add_zero, if_true, if_false, decide_true, decide_false, Bool.not_true, Bool.not_false, List.getElem?_cons_zero, List.getElem?_cons_succ, Int.ofNat_lt, eq_self]
    cases m with
    | false =>
      simp only [bindO_some_eq, bindO_none_eq, bindS_some, condW_true, condW_false, guardG_true, guardG_false, guardG_tf, guardG_ft, guardG_skip, pv_v, pv_loc, lookP_cons, lookE_cons, vPick_true, vPick_false, vUn_not, vExtract_tuple, vBin_lss, vBin_leq, vBin_gtr, vBin_geq, vBin_eql, vBin_neq, vBin_eql_str, vBin_neq_str, vLen_str, vLen_list, vLen_sref, vLoad_eptr, vPart_agg, vPart_two, vPart_str, vPart_bool, vPart_int, vPart_list, vField_eptr, vField_ptr, Nat.reduceEqDiff, Nat.zero_add, Nat.add_zero, if_true, if_false, decide_true, decide_false, Bool.not_true, Bool.not_false, List.getElem?_cons_zero, List.getElem?_cons_succ, Int.ofNat_lt, eq_self]
      rw [vBin_add _ (by omega) (by omega)]
      exact next _ _ hlt ⟨by simp, rfl, any_take_false hp hgi rfl⟩
    | true =>
      simp only [hpt, bindO_some_eq, bindO_none_eq, bindS_some, condW_true, condW_false, guardG_true, guardG_false, guardG_tf, guardG_ft, guardG_skip, pv_v, pv_loc, lookP_cons, lookE_cons, vPick_true, vPick_false, vUn_not, vExtract_tuple, vBin_lss, vBin_leq, vBin_gtr, vBin_geq, vBin_eql, vBin_neq, vBin_eql_str, vBin_neq_str, vLen_str, vLen_list, vLen_sref, vLoad_eptr, vPart_agg, vPart_two, vPart_str, vPart_bool, vPart_int, vPart_list, vField_eptr, vField_ptr, Nat.reduceEqDiff, Nat.zero_add, Nat.add_zero, if_true, if_false, decide_true, decide_false, Bool.not_true, Bool.not_false, List.getElem?_cons_zero, List.getElem?_cons_succ, Int.ofNat_lt, eq_self]
      refine (c129 ht _).callB ?_
      refine (hc67 _ _).callB ?_
      have hu : unkRef (names g) (true, t) = decide (idxOf (fun m : Meta19 => m.1 == base t) g.1.2 0 < 0) := by
        rw [idxOf_lt, any_names]
        rfl
      simp only [bindO_some_eq, bindO_none_eq, bindS_some, condW_true, condW_false, guardG_true, guardG_false, guardG_tf, guardG_ft, guardG_skip, pv_v, pv_loc, lookP_cons, lookE_cons, vPick_true, vPick_false, vUn_not, vExtract_tuple, vBin_lss, vBin_leq, vBin_gtr, vBin_geq, vBin_eql, vBin_neq, vBin_eql_str, vBin_neq_str, vLen_str, vLen_list, vLen_sref, vLoad_eptr, vPart_agg, vPart_two, vPart_str, vPart_bool, vPart_int, vPart_list, vField_eptr, vField_ptr, Nat.reduceEqDiff, Nat.zero_add, Nat.add_zero, if_true, if_false, decide_true, decide_false, Bool.not_true, Bool.not_false, List.getElem?_cons_zero, List.getElem?_cons_succ, Int.ofNat_lt, eq_self]
      cases e : decide (idxOf (fun m : Meta19 => m.1 == base t) g.1.2 0 < 0) with
      | true =>
        simp only [bindO_some_eq, bindO_none_eq, bindS_some, condW_true, condW_false, guardG_true, guardG_false, guardG_tf, guardG_ft, guardG_skip, pv_v, pv_loc, lookP_cons, lookE_cons, vPick_true, vPick_false, vUn_not, vExtract_tuple, vBin_lss, vBin_leq, vBin_gtr, vBin_geq, vBin_eql, vBin_neq, vBin_eql_str, vBin_neq_str, vLen_str, vLen_list, vLen_sref, vLoad_eptr, vPart_agg, vPart_two, vPart_str, vPart_bool, vPart_int, vPart_list, vField_eptr, vField_ptr, Nat.reduceEqDiff, Nat.zero_add, Nat.add_zero, if_true, if_false, decide_true, decide_false, Bool.not_true, Bool.not_false, List.getElem?_cons_zero, List.getElem?_cons_succ, Int.ofNat_lt, eq_self]
        refine weakW_keep ?_
        rw [any_of_get hgi (hu.trans e)] at hR
        exact hR
      | false =>
        simp only [bindO_some_eq, bindO_none_eq, bindS_some, condW_true, condW_false, guardG_true, guardG_false, guardG_tf, guardG_ft, guardG_skip, pv_v, pv_loc, lookP_cons, lookE_cons, vPick_true, vPick_false, vUn_not, vExtract_tuple, vBin_lss, vBin_leq, vBin_gtr, vBin_geq, vBin_eql, vBin_neq, vBin_eql_str, vBin_neq_str, vLen_str, vLen_list, vLen_sref, vLoad_eptr, vPart_agg, vPart_two, vPart_str, vPart_bool, vPart_int, vPart_list, vField_eptr, vField_ptr, Nat.reduceEqDiff, Nat.zero_add, Nat.add_zero, if_true, if_false, decide_true, decide_false, Bool.not_true, Bool.not_false, List.getElem?_cons_zero, List.getElem?_cons_succ, Int.ofNat_lt, eq_self]
        rw [vBin_add _ (by omega) (by omega)]
        exact next _ _ hlt ⟨by simp, rfl, any_take_false hp hgi (hu.trans e)⟩
  · obtain rfl : i = ps.length := by omega
    rw [List.take_length] at hp
    simp only [hlt, bindO_some_eq, bindO_none_eq, bindS_some, condW_true, condW_false, guardG_true, guardG_false, guardG_tf, guardG_ft, guardG_skip, pv_v, pv_loc, lookP_cons, lookE_cons, vPick_true, vPick_false, vUn_not, vExtract_tuple, vBin_lss, vBin_leq, vBin_gtr, vBin_geq, vBin_eql, vBin_neq, vBin_eql_str, vBin_neq_str, vLen_str, vLen_list, vLen_sref, vLoad_eptr, vPart_agg, vPart_two, vPart_str, vPart_bool, vPart_int, vPart_list, vField_eptr, vField_ptr, Nat.reduceEqDiff, Nat.zero_add, Nat.add_zero, if_true, if_false, decide_true, decide_false, Bool.not_true, Bool.not_false, List.getElem?_cons_zero, List.getElem?_cons_succ, Int.ofNat_lt, eq_self]
    refine weakW_keep ?_
    rw [hp] at hR
    exact hR

theorem metas_good : ∀ {ms : List Meta19} {seen : List Str}, metasErr ms seen = 0 → ∀ m ∈ ms, m.2.2.any (badL false) = false
  | [], _, _, _, h => by cases h
  | m :: ms, seen, h, x, hx => by
    rw [metasErr] at h
    split at h
    · cases h
    split at h
    · cases h
    split at h
    · cases h
    split at h
    · cases h
    rename_i h4
    rcases List.mem_cons.1 hx with rfl | hx
    · simpa using h4
    · exact metas_good h x hx

theorem lists_good : ∀ {ls : List (Sl Part)}, listsErr ls = 0 → ∀ l ∈ ls, badL true l = false
  | [], _, _, h => by cases h
  | l :: ls, h, x, hx => by
    rw [listsErr] at h
    split at h
    · cases h
    split at h
    · cases h
    rename_i h4
    rcases List.mem_cons.1 hx with rfl | hx
    · simpa using h4
    · exact lists_good h x hx

theorem rules_good : ∀ {rs : List Rule19}, rulesErr rs = 0 → ∀ r ∈ rs, listsErr (ruleAll r) = 0
  | [], _, _, h => by cases h
  | r :: rs, h, x, hx => by
    rw [rulesErr] at h
    split at h
    · rename_i h0
      rcases List.mem_cons.1 hx with rfl | hx
      · exact h0
      · exact rules_good h x hx
    · rename_i h0
      exact absurd h h0

/-- A name that stands earlier. -/
theorem twice_eq {ms : List Meta19} {i : Nat} {m : Meta19} (h : ms[i]? = some m) : decide (idxOf (fun x => x.1 == m.1) ms 0 < (i : Int)) = ((ms.take i).map (·.1)).contains m.1 := by
  have hil : i < ms.length := (List.getElem?_eq_some_iff.1 h).1
  have hsplit : ms = ms.take i ++ m :: ms.drop (i + 1) := by
    have h1 := List.take_append_drop i ms
    rw [drop_cons h] at h1
    exact h1.symm
  rw [← any_names]
  cases hany : (ms.take i).any fun x => x.1 == m.1 with
  | true =>
    obtain ⟨x, hx, hxm⟩ := List.any_eq_true.1 hany
    rw [decide_eq_true_eq]
    obtain ⟨j, hj, rfl⟩ := List.mem_take_iff_getElem.1 hx
    have hji : j < i := by omega
    -- the first one is at j or before
    have key : ∀ (l : List Meta19) (n k : Nat) (hk : k < l.length), (l[k].1 == m.1) = true → idxOf (fun x => x.1 == m.1) l n ≤ ((n + k : Nat) : Int) := by
      intro l
      induction l with
      | nil => intro n k hk; simp at hk
      | cons a l ih =>
        intro n k hk hb
        simp only [idxOf]
        split
        · omega
        · cases k with
          | zero =>
            rename_i hna
            exact absurd hb hna
          | succ k =>
            have := ih (n + 1) k (by simpa using hk) (by simpa using hb)
            omega
    have := key ms 0 j (by omega) hxm
    omega
  | false =>
    rw [decide_eq_false_iff_not]
    have hall : (ms.take i).all (fun x => !(x.1 == m.1)) = true := by
      rw [List.all_eq_true]
      intro x hx
      rw [List.any_eq_false] at hany
      simpa using hany x hx
    rw [idxOf_hit (p := fun x : Meta19 => x.1 == m.1) h (by simp) hall]
    omega

theorem app_all {σ : St} {r : Rule19} (hr : OkRule r) : ∃ v σ2, vAppend 1 24 (.list .full [pvParts r.1]) (pvLists r.2) σ = some (v, σ2) ∧ Elems σ2 1 v ((ruleAll r).map pvParts) ∧ σ <+: σ2 := by
  obtain ⟨l, k, ls⟩ := r
  cases ls with
  | nil => exact ⟨_, _, rfl, .list _ _, List.prefix_rfl⟩
  | cons a ls =>
    have hlen := hr.right.len
    simp only [List.length_cons] at hlen
    have e : vAppend 1 24 (.list .full [pvParts l]) (pvLists (k, a :: ls)) σ = some (.sref σ.length 0 1 0 (1 + (a :: ls).length), σ ++ [.arr 0 1 (pvParts l :: (a :: ls).map pvParts)]) := by
      have hroom : roomy (1 + (a :: ls).length) 24 = true := by simp [roomy]; omega
      simp only [vAppend, pvLists, pvSl, vElems]
      simp only [List.map_cons, List.isEmpty_cons, Bool.false_eq_true, if_false, List.length_cons, List.length_nil, List.length_map, Nat.zero_add]
      rw [if_pos ⟨by simp, hroom, rfl, rfl⟩]
      rfl
    refine ⟨_, _, e, ?_, ⟨_, rfl⟩⟩
    have hl : 1 + (a :: ls).length = ((ruleAll (l, k, a :: ls)).map pvParts).length := by simp [ruleAll]; omega
    rw [hl]
    exact .sref _ _ _ _ _ _ (new_get _ _) (by simp [ruleAll]) (by simp [ruleAll, List.take_of_length_le])

theorem c16 {g : Gram} (hg : OkGram g) (σ : St) : Ret W 16 [pvGram g] σ (.int .i64 (checkG g)) := by
  refine ret_of fun R hR => ?_
  rw [fn16_eq]
  unfold fn16
  have fin : ∀ (e : Int) (σ' : St), σ <+: σ' → checkG g = e → weakW σ (.int .i64 e) σ' fun v σ => R (.ret v) σ := fun e σ' hp he => weakW_clean hp (.base _ (.int _ _)) (by rw [he] at hR; exact hR)
  have hc69 := fun {l : Sl Part} (hl : OkParts l) (σ : St) => c69 hg.ml hl σ
  have hc67 := fun (n : Str) (σ : St) => c67 hg.ml (n := n) σ
  have hcheck : checkG g = checkG g := rfl
  obtain ⟨⟨mk, ms⟩, rk, rs⟩ := g
  have hml := hg.ml
  have hrl := hg.rl
  simp only at hml hrl hc67
  have hpt0 : vPart true 2 (.agg [.list mk (ms.map pvMeta), .list rk (rs.map pvRule)]) 0 = some (pvGram ((mk, ms), rk, rs)) := rfl
  have hbox : opC.vBoxAny (.agg [.list mk (ms.map pvMeta), .list rk (rs.map pvRule)]) = some (2, .agg [.list mk (ms.map pvMeta), .list rk (rs.map pvRule)]) := rfl
  have hG : pvGram ((mk, ms), rk, rs) = .agg [.list mk (ms.map pvMeta), .list rk (rs.map pvRule)] := rfl
  rw [hG]
  simp only [hbox, List.length_map, bindO_some_eq, bindO_none_eq, bindS_some, condW_true, condW_false, guardG_true, guardG_false, guardG_tf, guardG_ft, guardG_skip, pv_v, pv_loc, lookP_cons, lookE_cons, vPick_true, vPick_false, vUn_not, vExtract_tuple, vBin_lss, vBin_leq, vBin_gtr, vBin_geq, vBin_eql, vBin_neq, vBin_eql_str, vBin_neq_str, vLen_str, vLen_list, vLen_sref, vLoad_eptr, vPart_agg, vPart_two, vPart_str, vPart_bool, vPart_int, vPart_list, vField_eptr, vField_ptr, Nat.reduceEqDiff, Nat.zero_add, Nat.add_zero, if_true, if_false, decide_true, decide_false, Bool.not_true, Bool.not_false, List.getElem?_cons_zero, List.getElem?_cons_succ, Int.ofNat_lt, eq_self]
  -- too long
  have notlong : (decide ((ms.length : Int) > 100) || (decide ((rs.length : Int) > 500) || (ms.any longM || rs.any longR))) = true → checkG ((mk, ms), rk, rs) = 3 := fun h => by simp only [checkG, tooLong, h, if_true]
  cases h1 : decide ((ms.length : Int) > 100) with
  | true =>
    simp only [bindO_some_eq, bindO_none_eq, bindS_some, condW_true, condW_false, guardG_true, guardG_false, guardG_tf, guardG_ft, guardG_skip, pv_v, pv_loc, lookP_cons, lookE_cons, vPick_true, vPick_false, vUn_not, vExtract_tuple, vBin_lss, vBin_leq, vBin_gtr, vBin_geq, vBin_eql, vBin_neq, vBin_eql_str, vBin_neq_str, vLen_str, vLen_list, vLen_sref, vLoad_eptr, vPart_agg, vPart_two, vPart_str, vPart_bool, vPart_int, vPart_list, vField_eptr, vField_ptr, Nat.reduceEqDiff, Nat.zero_add, Nat.add_zero, if_true, if_false, decide_true, decide_false, Bool.not_true, Bool.not_false, List.getElem?_cons_zero, List.getElem?_cons_succ, Int.ofNat_lt, eq_self]
    exact fin 3 σ List.prefix_rfl (notlong (by simp [h1]))
  | false =>
  simp only [List.length_map, bindO_some_eq, bindO_none_eq, bindS_some, condW_true, condW_false, guardG_true, guardG_false, guardG_tf, guardG_ft, guardG_skip, pv_v, pv_loc, lookP_cons, lookE_cons, vPick_true, vPick_false, vUn_not, vExtract_tuple, vBin_lss, vBin_leq, vBin_gtr, vBin_geq, vBin_eql, vBin_neq, vBin_eql_str, vBin_neq_str, vLen_str, vLen_list, vLen_sref, vLoad_eptr, vPart_agg, vPart_two, vPart_str, vPart_bool, vPart_int, vPart_list, vField_eptr, vField_ptr, Nat.reduceEqDiff, Nat.zero_add, Nat.add_zero, if_true, if_false, decide_true, decide_false, Bool.not_true, Bool.not_false, List.getElem?_cons_zero, List.getElem?_cons_succ, Int.ofNat_lt, eq_self]
  cases h2 : decide ((rs.length : Int) > 500) with
  | true =>
    simp only [bindO_some_eq, bindO_none_eq, bindS_some, condW_true, condW_false, guardG_true, guardG_false, guardG_tf, guardG_ft, guardG_skip, pv_v, pv_loc, lookP_cons, lookE_cons, vPick_true, vPick_false, vUn_not, vExtract_tuple, vBin_lss, vBin_leq, vBin_gtr, vBin_geq, vBin_eql, vBin_neq, vBin_eql_str, vBin_neq_str, vLen_str, vLen_list, vLen_sref, vLoad_eptr, vPart_agg, vPart_two, vPart_str, vPart_bool, vPart_int, vPart_list, vField_eptr, vField_ptr, Nat.reduceEqDiff, Nat.zero_add, Nat.add_zero, if_true, if_false, decide_true, decide_false, Bool.not_true, Bool.not_false, List.getElem?_cons_zero, List.getElem?_cons_succ, Int.ofNat_lt, eq_self]
    exact fin 3 σ List.prefix_rfl (notlong (by simp [h2]))
  | false =>
  simp only [bindO_some_eq, bindO_none_eq, bindS_some, condW_true, condW_false, guardG_true, guardG_false, guardG_tf, guardG_ft, guardG_skip, pv_v, pv_loc, lookP_cons, lookE_cons, vPick_true, vPick_false, vUn_not, vExtract_tuple, vBin_lss, vBin_leq, vBin_gtr, vBin_geq, vBin_eql, vBin_neq, vBin_eql_str, vBin_neq_str, vLen_str, vLen_list, vLen_sref, vLoad_eptr, vPart_agg, vPart_two, vPart_str, vPart_bool, vPart_int, vPart_list, vField_eptr, vField_ptr, Nat.reduceEqDiff, Nat.zero_add, Nat.add_zero, if_true, if_false, decide_true, decide_false, Bool.not_true, Bool.not_false, List.getElem?_cons_zero, List.getElem?_cons_succ, Int.ofNat_lt, eq_self]
  -- long metarules
  refine CutW_of ?_
  refine Lfp_up ms.length (fun i x σ' => x = lookP [(3, .int .i64 i), (1, .agg [.list mk (ms.map pvMeta), .list rk (rs.map pvRule)])] ∧ σ' = σ ∧ (ms.take i).any longM = false) ?_ ⟨rfl, rfl, rfl⟩
  rintro Φ1 i x σ' hi ⟨rfl, rfl, hp1⟩ next1
  simp only [List.length_map, bindO_some_eq, bindO_none_eq, bindS_some, condW_true, condW_false, guardG_true, guardG_false, guardG_tf, guardG_ft, guardG_skip, pv_v, pv_loc, lookP_cons, lookE_cons, vPick_true, vPick_false, vUn_not, vExtract_tuple, vBin_lss, vBin_leq, vBin_gtr, vBin_geq, vBin_eql, vBin_neq, vBin_eql_str, vBin_neq_str, vLen_str, vLen_list, vLen_sref, vLoad_eptr, vPart_agg, vPart_two, vPart_str, vPart_bool, vPart_int, vPart_list, vField_eptr, vField_ptr, Nat.reduceEqDiff, Nat.zero_add, Nat.add_zero, if_true, if_false, decide_true, decide_false, Bool.not_true, Bool.not_false, List.getElem?_cons_zero, List.getElem?_cons_succ, Int.ofNat_lt, eq_self]
  by_cases hlt : i < ms.length
  · have hgi : ms[i]? = some ms[i] := by simp [hlt]
    have hmem : ms[i] ∈ ms := by simp
    generalize ms[i] = m at hgi hmem
    have hm := hg.metas m hmem
    simp only [hlt, encMeta.index hgi, bindO_some_eq, bindO_none_eq, bindS_some, condW_true, condW_false, guardG_true, guardG_false, guardG_tf, guardG_ft, guardG_skip, pv_v, pv_loc, lookP_cons, lookE_cons, vPick_true, vPick_false, vUn_not, vExtract_tuple, vBin_lss, vBin_leq, vBin_gtr, vBin_geq, vBin_eql, vBin_neq, vBin_eql_str, vBin_neq_str, vLen_str, vLen_list, vLen_sref, vLoad_eptr, vPart_agg, vPart_two, vPart_str, vPart_bool, vPart_int, vPart_list, vField_eptr, vField_ptr, Nat.reduceEqDiff, Nat.zero_add, Nat.add_zero, if_true, if_false, decide_true, decide_false, Bool.not_true, Bool.not_false, List.getElem?_cons_zero, List.getElem?_cons_succ, Int.ofNat_lt, eq_self]
    have hmm : (m.2.2.any longL || decide ((m.2.2.length : Int) > 64)) = longM m := Bool.or_comm _ _
    have hpm : pvMeta m = .agg [.str m.1, pvLists m.2] := rfl
    rw [hpm]
    simp only [bindO_some_eq, bindO_none_eq, bindS_some, condW_true, condW_false, guardG_true, guardG_false, guardG_tf, guardG_ft, guardG_skip, pv_v, pv_loc, lookP_cons, lookE_cons, vPick_true, vPick_false, vUn_not, vExtract_tuple, vBin_lss, vBin_leq, vBin_gtr, vBin_geq, vBin_eql, vBin_neq, vBin_eql_str, vBin_neq_str, vLen_str, vLen_list, vLen_sref, vLoad_eptr, vPart_agg, vPart_two, vPart_str, vPart_bool, vPart_int, vPart_list, vField_eptr, vField_ptr, Nat.reduceEqDiff, Nat.zero_add, Nat.add_zero, if_true, if_false, decide_true, decide_false, Bool.not_true, Bool.not_false, List.getElem?_cons_zero, List.getElem?_cons_succ, Int.ofNat_lt, eq_self]
    refine (c65 (Nat.lt_of_le_of_lt hm.alts.len (by decide)) _).callB ?_
    rw [hmm]
    cases e : longM m with
    | true =>
      simp only [bindO_some_eq, bindO_none_eq, bindS_some, condW_true, condW_false, guardG_true, guardG_false, guardG_tf, guardG_ft, guardG_skip, pv_v, pv_loc, lookP_cons, lookE_cons, vPick_true, vPick_false, vUn_not, vExtract_tuple, vBin_lss, vBin_leq, vBin_gtr, vBin_geq, vBin_eql, vBin_neq, vBin_eql_str, vBin_neq_str, vLen_str, vLen_list, vLen_sref, vLoad_eptr, vPart_agg, vPart_two, vPart_str, vPart_bool, vPart_int, vPart_list, vField_eptr, vField_ptr, Nat.reduceEqDiff, Nat.zero_add, Nat.add_zero, if_true, if_false, decide_true, decide_false, Bool.not_true, Bool.not_false, List.getElem?_cons_zero, List.getElem?_cons_succ, Int.ofNat_lt, eq_self]
      exact fin 3 _ List.prefix_rfl (notlong (by rw [any_of_get hgi e]; simp))
    | false =>
      simp only [bindO_some_eq, bindO_none_eq, bindS_some, condW_true, condW_false, guardG_true, guardG_false, guardG_tf, guardG_ft, guardG_skip, pv_v, pv_loc, lookP_cons, lookE_cons, vPick_true, vPick_false, vUn_not, vExtract_tuple, vBin_lss, vBin_leq, vBin_gtr, vBin_geq, vBin_eql, vBin_neq, vBin_eql_str, vBin_neq_str, vLen_str, vLen_list, vLen_sref, vLoad_eptr, vPart_agg, vPart_two, vPart_str, vPart_bool, vPart_int, vPart_list, vField_eptr, vField_ptr, Nat.reduceEqDiff, Nat.zero_add, Nat.add_zero, if_true, if_false, decide_true, decide_false, Bool.not_true, Bool.not_false, List.getElem?_cons_zero, List.getElem?_cons_succ, Int.ofNat_lt, eq_self]
      rw [vBin_add _ (by omega) (by omega)]
      exact next1 _ _ hlt ⟨by simp, rfl, any_take_false hp1 hgi e⟩
  obtain rfl : i = ms.length := by omega
  rw [List.take_length] at hp1
  simp only [hlt, bindO_some_eq, bindO_none_eq, bindS_some, condW_true, condW_false, guardG_true, guardG_false, guardG_tf, guardG_ft, guardG_skip, pv_v, pv_loc, lookP_cons, lookE_cons, vPick_true, vPick_false, vUn_not, vExtract_tuple, vBin_lss, vBin_leq, vBin_gtr, vBin_geq, vBin_eql, vBin_neq, vBin_eql_str, vBin_neq_str, vLen_str, vLen_list, vLen_sref, vLoad_eptr, vPart_agg, vPart_two, vPart_str, vPart_bool, vPart_int, vPart_list, vField_eptr, vField_ptr, Nat.reduceEqDiff, Nat.zero_add, Nat.add_zero, if_true, if_false, decide_true, decide_false, Bool.not_true, Bool.not_false, List.getElem?_cons_zero, List.getElem?_cons_succ, Int.ofNat_lt, eq_self]
  clear next1 hlt hi
  -- long rules
  refine CutW_of ?_
  refine Lfp_up rs.length (fun i x σ'' => x = lookP [(4, .int .i64 i), (1, .agg [.list mk (ms.map pvMeta), .list rk (rs.map pvRule)])] ∧ σ'' = σ' ∧ (rs.take i).any longR = false) ?_ ⟨rfl, rfl, rfl⟩
  rintro Φ2 i x σ' hi ⟨rfl, rfl, hp2⟩ next2
  simp only [List.length_map, bindO_some_eq, bindO_none_eq, bindS_some, condW_true, condW_false, guardG_true, guardG_false, guardG_tf, guardG_ft, guardG_skip, pv_v, pv_loc, lookP_cons, lookE_cons, vPick_true, vPick_false, vUn_not, vExtract_tuple, vBin_lss, vBin_leq, vBin_gtr, vBin_geq, vBin_eql, vBin_neq, vBin_eql_str, vBin_neq_str, vLen_str, vLen_list, vLen_sref, vLoad_eptr, vPart_agg, vPart_two, vPart_str, vPart_bool, vPart_int, vPart_list, vField_eptr, vField_ptr, Nat.reduceEqDiff, Nat.zero_add, Nat.add_zero, if_true, if_false, decide_true, decide_false, Bool.not_true, Bool.not_false, List.getElem?_cons_zero, List.getElem?_cons_succ, Int.ofNat_lt, eq_self]
  by_cases hlt : i < rs.length
  · have hgi : rs[i]? = some rs[i] := by simp [hlt]
    have hmem : rs[i] ∈ rs := by simp
    generalize rs[i] = r at hgi hmem
    have hr := hg.rules r hmem
    have hpr : pvRule r = .agg [pvParts r.1, pvLists r.2] := rfl
    simp only [hlt, encRule.index hgi, bindO_some_eq, bindO_none_eq, bindS_some, condW_true, condW_false, guardG_true, guardG_false, guardG_tf, guardG_ft, guardG_skip, pv_v, pv_loc, lookP_cons, lookE_cons, vPick_true, vPick_false, vUn_not, vExtract_tuple, vBin_lss, vBin_leq, vBin_gtr, vBin_geq, vBin_eql, vBin_neq, vBin_eql_str, vBin_neq_str, vLen_str, vLen_list, vLen_sref, vLoad_eptr, vPart_agg, vPart_two, vPart_str, vPart_bool, vPart_int, vPart_list, vField_eptr, vField_ptr, Nat.reduceEqDiff, Nat.zero_add, Nat.add_zero, if_true, if_false, decide_true, decide_false, Bool.not_true, Bool.not_false, List.getElem?_cons_zero, List.getElem?_cons_succ, Int.ofNat_lt, eq_self]
    rw [hpr]
    simp only [bindO_some_eq, bindO_none_eq, bindS_some, condW_true, condW_false, guardG_true, guardG_false, guardG_tf, guardG_ft, guardG_skip, pv_v, pv_loc, lookP_cons, lookE_cons, vPick_true, vPick_false, vUn_not, vExtract_tuple, vBin_lss, vBin_leq, vBin_gtr, vBin_geq, vBin_eql, vBin_neq, vBin_eql_str, vBin_neq_str, vLen_str, vLen_list, vLen_sref, vLoad_eptr, vPart_agg, vPart_two, vPart_str, vPart_bool, vPart_int, vPart_list, vField_eptr, vField_ptr, Nat.reduceEqDiff, Nat.zero_add, Nat.add_zero, if_true, if_false, decide_true, decide_false, Bool.not_true, Bool.not_false, List.getElem?_cons_zero, List.getElem?_cons_succ, Int.ofNat_lt, eq_self]
    refine (c65 (Nat.lt_of_le_of_lt hr.right.len (by decide)) _).callB ?_
    cases e : (r.2.2.any longL || decide ((r.2.2.length : Int) > 64)) with
    | true =>
      simp only [bindO_some_eq, bindO_none_eq, bindS_some, condW_true, condW_false, guardG_true, guardG_false, guardG_tf, guardG_ft, guardG_skip, pv_v, pv_loc, lookP_cons, lookE_cons, vPick_true, vPick_false, vUn_not, vExtract_tuple, vBin_lss, vBin_leq, vBin_gtr, vBin_geq, vBin_eql, vBin_neq, vBin_eql_str, vBin_neq_str, vLen_str, vLen_list, vLen_sref, vLoad_eptr, vPart_agg, vPart_two, vPart_str, vPart_bool, vPart_int, vPart_list, vField_eptr, vField_ptr, Nat.reduceEqDiff, Nat.zero_add, Nat.add_zero, if_true, if_false, decide_true, decide_false, Bool.not_true, Bool.not_false, List.getElem?_cons_zero, List.getElem?_cons_succ, Int.ofNat_lt, eq_self]
      refine fin 3 _ List.prefix_rfl (notlong ?_)
      have : longR r = true := by
        unfold longR
        cases h5 : r.2.2.any longL with
        | true => simp
        | false => rw [h5, Bool.false_or] at e; rw [e]; rfl
      rw [any_of_get hgi this]
      simp
    | false =>
      simp only [pvParts, pvSl, List.length_map, bindO_some_eq, bindO_none_eq, bindS_some, condW_true, condW_false, guardG_true, guardG_false, guardG_tf, guardG_ft, guardG_skip, pv_v, pv_loc, lookP_cons, lookE_cons, vPick_true, vPick_false, vUn_not, vExtract_tuple, vBin_lss, vBin_leq, vBin_gtr, vBin_geq, vBin_eql, vBin_neq, vBin_eql_str, vBin_neq_str, vLen_str, vLen_list, vLen_sref, vLoad_eptr, vPart_agg, vPart_two, vPart_str, vPart_bool, vPart_int, vPart_list, vField_eptr, vField_ptr, Nat.reduceEqDiff, Nat.zero_add, Nat.add_zero, if_true, if_false, decide_true, decide_false, Bool.not_true, Bool.not_false, List.getElem?_cons_zero, List.getElem?_cons_succ, Int.ofNat_lt, eq_self]
      cases e2 : decide ((r.1.2.length : Int) > 64) with
      | true =>
        simp only [bindO_some_eq, bindO_none_eq, bindS_some, condW_true, condW_false, guardG_true, guardG_false, guardG_tf, guardG_ft, guardG_skip, pv_v, pv_loc, lookP_cons, lookE_cons, vPick_true, vPick_false, vUn_not, vExtract_tuple, vBin_lss, vBin_leq, vBin_gtr, vBin_geq, vBin_eql, vBin_neq, vBin_eql_str, vBin_neq_str, vLen_str, vLen_list, vLen_sref, vLoad_eptr, vPart_agg, vPart_two, vPart_str, vPart_bool, vPart_int, vPart_list, vField_eptr, vField_ptr, Nat.reduceEqDiff, Nat.zero_add, Nat.add_zero, if_true, if_false, decide_true, decide_false, Bool.not_true, Bool.not_false, List.getElem?_cons_zero, List.getElem?_cons_succ, Int.ofNat_lt, eq_self]
        refine fin 3 _ List.prefix_rfl (notlong ?_)
        have : longR r = true := by unfold longR; rw [e2]; simp
        rw [any_of_get hgi this]
        simp
      | false =>
        simp only [bindO_some_eq, bindO_none_eq, bindS_some, condW_true, condW_false, guardG_true, guardG_false, guardG_tf, guardG_ft, guardG_skip, pv_v, pv_loc, lookP_cons, lookE_cons, vPick_true, vPick_false, vUn_not, vExtract_tuple, vBin_lss, vBin_leq, vBin_gtr, vBin_geq, vBin_eql, vBin_neq, vBin_eql_str, vBin_neq_str, vLen_str, vLen_list, vLen_sref, vLoad_eptr, vPart_agg, vPart_two, vPart_str, vPart_bool, vPart_int, vPart_list, vField_eptr, vField_ptr, Nat.reduceEqDiff, Nat.zero_add, Nat.add_zero, if_true, if_false, decide_true, decide_false, Bool.not_true, Bool.not_false, List.getElem?_cons_zero, List.getElem?_cons_succ, Int.ofNat_lt, eq_self]
        rw [vBin_add _ (by omega) (by omega)]
        have : longR r = false := by
          unfold longR
          rw [Bool.or_eq_false_iff] at e
          rw [e.1, e.2, e2]
          rfl
        exact next2 _ _ hlt ⟨by simp, rfl, any_take_false hp2 hgi this⟩
  obtain rfl : i = rs.length := by omega
  rw [List.take_length] at hp2
  simp only [hlt, bindO_some_eq, bindO_none_eq, bindS_some, condW_true, condW_false, guardG_true, guardG_false, guardG_tf, guardG_ft, guardG_skip, pv_v, pv_loc, lookP_cons, lookE_cons, vPick_true, vPick_false, vUn_not, vExtract_tuple, vBin_lss, vBin_leq, vBin_gtr, vBin_geq, vBin_eql, vBin_neq, vBin_eql_str, vBin_neq_str, vLen_str, vLen_list, vLen_sref, vLoad_eptr, vPart_agg, vPart_two, vPart_str, vPart_bool, vPart_int, vPart_list, vField_eptr, vField_ptr, Nat.reduceEqDiff, Nat.zero_add, Nat.add_zero, if_true, if_false, decide_true, decide_false, Bool.not_true, Bool.not_false, List.getElem?_cons_zero, List.getElem?_cons_succ, Int.ofNat_lt, eq_self]
  clear next2 hlt hi
  have hlong : tooLong ((mk, ms), rk, rs) = false := by simp [tooLong, h1, h2, hp1, hp2]
  have hch : checkG ((mk, ms), rk, rs) = if metasErr ms [] = 0 then
      if rulesErr rs = 0 then
        if ms.any (fun m => m.2.2.any (unkL (ms.map (·.1)))) then 4
        else if rs.any (fun r => (ruleAll r).any (unkL (ms.map (·.1)))) then 4 else 0
      else rulesErr rs
    else metasErr ms [] := by
    simp only [checkG, hlong, Bool.false_eq_true, if_false, names]
    rfl
  -- the metarules
  refine CutW_of ?_
  refine Lfp_up ms.length (fun i x σ'' => x = lookP [(5, .int .i64 i), (1, .agg [.list mk (ms.map pvMeta), .list rk (rs.map pvRule)])] ∧ σ'' = σ' ∧ metasErr ms [] = metasErr (ms.drop i) ((ms.take i).map (·.1))) ?_ ⟨rfl, rfl, rfl⟩
  rintro Φ3 i x σ' hi ⟨rfl, rfl, hme⟩ next3
  simp only [List.length_map, bindO_some_eq, bindO_none_eq, bindS_some, condW_true, condW_false, guardG_true, guardG_false, guardG_tf, guardG_ft, guardG_skip, pv_v, pv_loc, lookP_cons, lookE_cons, vPick_true, vPick_false, vUn_not, vExtract_tuple, vBin_lss, vBin_leq, vBin_gtr, vBin_geq, vBin_eql, vBin_neq, vBin_eql_str, vBin_neq_str, vLen_str, vLen_list, vLen_sref, vLoad_eptr, vPart_agg, vPart_two, vPart_str, vPart_bool, vPart_int, vPart_list, vField_eptr, vField_ptr, Nat.reduceEqDiff, Nat.zero_add, Nat.add_zero, if_true, if_false, decide_true, decide_false, Bool.not_true, Bool.not_false, List.getElem?_cons_zero, List.getElem?_cons_succ, Int.ofNat_lt, eq_self]
  by_cases hlt : i < ms.length
  · have hgi : ms[i]? = some ms[i] := by simp [hlt]
    have hmem : ms[i] ∈ ms := by simp
    generalize ms[i] = m at hgi hmem
    have hm := hg.metas m hmem
    have htw := twice_eq hgi
    have hput : vPut 2 (.agg [.str [], .list .nil []]) 0 (pvMeta m) = some (pvMeta m) := rfl
    rw [drop_cons hgi, metasErr] at hme
    simp only [hlt, encMeta.index hgi, encMeta.part, hput, bindO_some_eq, bindO_none_eq, bindS_some, condW_true, condW_false, guardG_true, guardG_false, guardG_tf, guardG_ft, guardG_skip, pv_v, pv_loc, lookP_cons, lookE_cons, vPick_true, vPick_false, vUn_not, vExtract_tuple, vBin_lss, vBin_leq, vBin_gtr, vBin_geq, vBin_eql, vBin_neq, vBin_eql_str, vBin_neq_str, vLen_str, vLen_list, vLen_sref, vLoad_eptr, vPart_agg, vPart_two, vPart_str, vPart_bool, vPart_int, vPart_list, vField_eptr, vField_ptr, Nat.reduceEqDiff, Nat.zero_add, Nat.add_zero, if_true, if_false, decide_true, decide_false, Bool.not_true, Bool.not_false, List.getElem?_cons_zero, List.getElem?_cons_succ, Int.ofNat_lt, eq_self]
    refine CutW_of ?_
    obtain ⟨n, ak, als⟩ := m
    have hn : okS n := Nat.lt_of_le_of_lt hm.txt (by decide)
    simp only [pvMeta, bindO_some_eq, bindO_none_eq, bindS_some, condW_true, condW_false, guardG_true, guardG_false, guardG_tf, guardG_ft, guardG_skip, pv_v, pv_loc, lookP_cons, lookE_cons, vPick_true, vPick_false, vUn_not, vExtract_tuple, vBin_lss, vBin_leq, vBin_gtr, vBin_geq, vBin_eql, vBin_neq, vBin_eql_str, vBin_neq_str, vLen_str, vLen_list, vLen_sref, vLoad_eptr, vPart_agg, vPart_two, vPart_str, vPart_bool, vPart_int, vPart_list, vField_eptr, vField_ptr, Nat.reduceEqDiff, Nat.zero_add, Nat.add_zero, if_true, if_false, decide_true, decide_false, Bool.not_true, Bool.not_false, List.getElem?_cons_zero, List.getElem?_cons_succ, Int.ofNat_lt, eq_self]
    refine (c66 hn _).callB ?_
    cases e1 : isMeta n with
    | false =>
      simp only [bindO_some_eq, bindO_none_eq, bindS_some, condW_true, condW_false, guardG_true, guardG_false, guardG_tf, guardG_ft, guardG_skip, pv_v, pv_loc, lookP_cons, lookE_cons, vPick_true, vPick_false, vUn_not, vExtract_tuple, vBin_lss, vBin_leq, vBin_gtr, vBin_geq, vBin_eql, vBin_neq, vBin_eql_str, vBin_neq_str, vLen_str, vLen_list, vLen_sref, vLoad_eptr, vPart_agg, vPart_two, vPart_str, vPart_bool, vPart_int, vPart_list, vField_eptr, vField_ptr, Nat.reduceEqDiff, Nat.zero_add, Nat.add_zero, if_true, if_false, decide_true, decide_false, Bool.not_true, Bool.not_false, List.getElem?_cons_zero, List.getElem?_cons_succ, Int.ofNat_lt, eq_self]
      refine fin 8 _ List.prefix_rfl ?_
      rw [hch, hme]
      simp [e1]
    | true =>
    simp only [hpt0, bindO_some_eq, bindO_none_eq, bindS_some, condW_true, condW_false, guardG_true, guardG_false, guardG_tf, guardG_ft, guardG_skip, pv_v, pv_loc, lookP_cons, lookE_cons, vPick_true, vPick_false, vUn_not, vExtract_tuple, vBin_lss, vBin_leq, vBin_gtr, vBin_geq, vBin_eql, vBin_neq, vBin_eql_str, vBin_neq_str, vLen_str, vLen_list, vLen_sref, vLoad_eptr, vPart_agg, vPart_two, vPart_str, vPart_bool, vPart_int, vPart_list, vField_eptr, vField_ptr, Nat.reduceEqDiff, Nat.zero_add, Nat.add_zero, if_true, if_false, decide_true, decide_false, Bool.not_true, Bool.not_false, List.getElem?_cons_zero, List.getElem?_cons_succ, Int.ofNat_lt, eq_self]
    refine (hc67 _ _).callB ?_
    simp only at htw
    simp only [htw, bindO_some_eq, bindO_none_eq, bindS_some, condW_true, condW_false, guardG_true, guardG_false, guardG_tf, guardG_ft, guardG_skip, pv_v, pv_loc, lookP_cons, lookE_cons, vPick_true, vPick_false, vUn_not, vExtract_tuple, vBin_lss, vBin_leq, vBin_gtr, vBin_geq, vBin_eql, vBin_neq, vBin_eql_str, vBin_neq_str, vLen_str, vLen_list, vLen_sref, vLoad_eptr, vPart_agg, vPart_two, vPart_str, vPart_bool, vPart_int, vPart_list, vField_eptr, vField_ptr, Nat.reduceEqDiff, Nat.zero_add, Nat.add_zero, if_true, if_false, decide_true, decide_false, Bool.not_true, Bool.not_false, List.getElem?_cons_zero, List.getElem?_cons_succ, Int.ofNat_lt, eq_self]
    cases e2 : ((ms.take i).map (·.1)).contains n with
    | true =>
      simp only [bindO_some_eq, bindO_none_eq, bindS_some, condW_true, condW_false, guardG_true, guardG_false, guardG_tf, guardG_ft, guardG_skip, pv_v, pv_loc, lookP_cons, lookE_cons, vPick_true, vPick_false, vUn_not, vExtract_tuple, vBin_lss, vBin_leq, vBin_gtr, vBin_geq, vBin_eql, vBin_neq, vBin_eql_str, vBin_neq_str, vLen_str, vLen_list, vLen_sref, vLoad_eptr, vPart_agg, vPart_two, vPart_str, vPart_bool, vPart_int, vPart_list, vField_eptr, vField_ptr, Nat.reduceEqDiff, Nat.zero_add, Nat.add_zero, if_true, if_false, decide_true, decide_false, Bool.not_true, Bool.not_false, List.getElem?_cons_zero, List.getElem?_cons_succ, Int.ofNat_lt, eq_self]
      refine fin 5 _ List.prefix_rfl ?_
      rw [hch, hme]
      simp only [e1, e2]
      simp
    | false =>
    simp only [pvLists, pvSl, List.length_map, bindO_some_eq, bindO_none_eq, bindS_some, condW_true, condW_false, guardG_true, guardG_false, guardG_tf, guardG_ft, guardG_skip, pv_v, pv_loc, lookP_cons, lookE_cons, vPick_true, vPick_false, vUn_not, vExtract_tuple, vBin_lss, vBin_leq, vBin_gtr, vBin_geq, vBin_eql, vBin_neq, vBin_eql_str, vBin_neq_str, vLen_str, vLen_list, vLen_sref, vLoad_eptr, vPart_agg, vPart_two, vPart_str, vPart_bool, vPart_int, vPart_list, vField_eptr, vField_ptr, Nat.reduceEqDiff, Nat.zero_add, Nat.add_zero, if_true, if_false, decide_true, decide_false, Bool.not_true, Bool.not_false, List.getElem?_cons_zero, List.getElem?_cons_succ, Int.ofNat_lt, eq_self]
    have hlz : (((als.length : Int) == 0) = true) ↔ als.length = 0 := by simp
    cases e3 : ((als.length : Int) == 0) with
    | true =>
      have e3' := hlz.1 e3
      simp only [bindO_some_eq, bindO_none_eq, bindS_some, condW_true, condW_false, guardG_true, guardG_false, guardG_tf, guardG_ft, guardG_skip, pv_v, pv_loc, lookP_cons, lookE_cons, vPick_true, vPick_false, vUn_not, vExtract_tuple, vBin_lss, vBin_leq, vBin_gtr, vBin_geq, vBin_eql, vBin_neq, vBin_eql_str, vBin_neq_str, vLen_str, vLen_list, vLen_sref, vLoad_eptr, vPart_agg, vPart_two, vPart_str, vPart_bool, vPart_int, vPart_list, vField_eptr, vField_ptr, Nat.reduceEqDiff, Nat.zero_add, Nat.add_zero, if_true, if_false, decide_true, decide_false, Bool.not_true, Bool.not_false, List.getElem?_cons_zero, List.getElem?_cons_succ, Int.ofNat_lt, eq_self]
      refine fin 12 _ List.prefix_rfl ?_
      rw [hch, hme]
      simp only [e1, e2, e3']
      simp
    | false =>
    have e3' : ¬ als.length = 0 := fun h => by rw [hlz.2 h] at e3; cases e3
    simp only [bindO_some_eq, bindO_none_eq, bindS_some, condW_true, condW_false, guardG_true, guardG_false, guardG_tf, guardG_ft, guardG_skip, pv_v, pv_loc, lookP_cons, lookE_cons, vPick_true, vPick_false, vUn_not, vExtract_tuple, vBin_lss, vBin_leq, vBin_gtr, vBin_geq, vBin_eql, vBin_neq, vBin_eql_str, vBin_neq_str, vLen_str, vLen_list, vLen_sref, vLoad_eptr, vPart_agg, vPart_two, vPart_str, vPart_bool, vPart_int, vPart_list, vField_eptr, vField_ptr, Nat.reduceEqDiff, Nat.zero_add, Nat.add_zero, if_true, if_false, decide_true, decide_false, Bool.not_true, Bool.not_false, List.getElem?_cons_zero, List.getElem?_cons_succ, Int.ofNat_lt, eq_self]
    have hal := hm.alts.len
    simp only at hal
    refine Lfp_up als.length (fun j x σ'' => x = lookP [(5, .int .i64 i), (7, .int .i64 j), (1, .agg [.list mk (ms.map pvMeta), .list rk (rs.map pvRule)]), (6, .agg [.str n, .list ak (als.map pvParts)])] ∧ σ'' = σ' ∧ (als.take j).any (badL false) = false) ?_ ⟨rfl, rfl, rfl⟩
    rintro Φ4 j x σ'' hj ⟨rfl, rfl, hpj⟩ next4
    simp only [List.length_map, bindO_some_eq, bindO_none_eq, bindS_some, condW_true, condW_false, guardG_true, guardG_false, guardG_tf, guardG_ft, guardG_skip, pv_v, pv_loc, lookP_cons, lookE_cons, vPick_true, vPick_false, vUn_not, vExtract_tuple, vBin_lss, vBin_leq, vBin_gtr, vBin_geq, vBin_eql, vBin_neq, vBin_eql_str, vBin_neq_str, vLen_str, vLen_list, vLen_sref, vLoad_eptr, vPart_agg, vPart_two, vPart_str, vPart_bool, vPart_int, vPart_list, vField_eptr, vField_ptr, Nat.reduceEqDiff, Nat.zero_add, Nat.add_zero, if_true, if_false, decide_true, decide_false, Bool.not_true, Bool.not_false, List.getElem?_cons_zero, List.getElem?_cons_succ, Int.ofNat_lt, eq_self]
    by_cases hjlt : j < als.length
    · have hgj : als[j]? = some als[j] := by simp [hjlt]
      have hmj : als[j] ∈ als := by simp
      generalize als[j] = l at hgj hmj
      have hl := hm.alts.mem l hmj
      simp only [hjlt, encParts.index hgj, encParts.part, bindO_some_eq, bindO_none_eq, bindS_some, condW_true, condW_false, guardG_true, guardG_false, guardG_tf, guardG_ft, guardG_skip, pv_v, pv_loc, lookP_cons, lookE_cons, vPick_true, vPick_false, vUn_not, vExtract_tuple, vBin_lss, vBin_leq, vBin_gtr, vBin_geq, vBin_eql, vBin_neq, vBin_eql_str, vBin_neq_str, vLen_str, vLen_list, vLen_sref, vLoad_eptr, vPart_agg, vPart_two, vPart_str, vPart_bool, vPart_int, vPart_list, vField_eptr, vField_ptr, Nat.reduceEqDiff, Nat.zero_add, Nat.add_zero, if_true, if_false, decide_true, decide_false, Bool.not_true, Bool.not_false, List.getElem?_cons_zero, List.getElem?_cons_succ, Int.ofNat_lt, eq_self]
      refine (c68 (x := pvParts l) (Nat.lt_of_le_of_lt hl.len (by decide)) hl.okS (.list _ _)).callB ?_
      have hbl : l.2.any (badPart false) = badL false l := rfl
      rw [hbl]
      cases e4 : badL false l with
      | true =>
        simp only [if_true, show ((8 : Int) != 0) = true from rfl, bindO_some_eq, bindO_none_eq, bindS_some, condW_true, condW_false, guardG_true, guardG_false, guardG_tf, guardG_ft, guardG_skip, pv_v, pv_loc, lookP_cons, lookE_cons, vPick_true, vPick_false, vUn_not, vExtract_tuple, vBin_lss, vBin_leq, vBin_gtr, vBin_geq, vBin_eql, vBin_neq, vBin_eql_str, vBin_neq_str, vLen_str, vLen_list, vLen_sref, vLoad_eptr, vPart_agg, vPart_two, vPart_str, vPart_bool, vPart_int, vPart_list, vField_eptr, vField_ptr, Nat.reduceEqDiff, Nat.zero_add, Nat.add_zero, if_true, if_false, decide_true, decide_false, Bool.not_true, Bool.not_false, List.getElem?_cons_zero, List.getElem?_cons_succ, Int.ofNat_lt, eq_self]
        refine fin 8 _ List.prefix_rfl ?_
        rw [hch, hme]
        simp only [e1, e2, e3', any_of_get hgj e4]
        simp
      | false =>
        simp only [Bool.false_eq_true, if_false, show ((0 : Int) != 0) = false from rfl, bindO_some_eq, bindO_none_eq, bindS_some, condW_true, condW_false, guardG_true, guardG_false, guardG_tf, guardG_ft, guardG_skip, pv_v, pv_loc, lookP_cons, lookE_cons, vPick_true, vPick_false, vUn_not, vExtract_tuple, vBin_lss, vBin_leq, vBin_gtr, vBin_geq, vBin_eql, vBin_neq, vBin_eql_str, vBin_neq_str, vLen_str, vLen_list, vLen_sref, vLoad_eptr, vPart_agg, vPart_two, vPart_str, vPart_bool, vPart_int, vPart_list, vField_eptr, vField_ptr, Nat.reduceEqDiff, Nat.zero_add, Nat.add_zero, if_true, if_false, decide_true, decide_false, Bool.not_true, Bool.not_false, List.getElem?_cons_zero, List.getElem?_cons_succ, Int.ofNat_lt, eq_self]
        rw [vBin_add _ (by omega) (by omega)]
        exact next4 _ _ hjlt ⟨by simp, rfl, any_take_false hpj hgj e4⟩
    · obtain rfl : j = als.length := by omega
      rw [List.take_length] at hpj
      simp only [hjlt, bindO_some_eq, bindO_none_eq, bindS_some, condW_true, condW_false, guardG_true, guardG_false, guardG_tf, guardG_ft, guardG_skip, pv_v, pv_loc, lookP_cons, lookE_cons, vPick_true, vPick_false, vUn_not, vExtract_tuple, vBin_lss, vBin_leq, vBin_gtr, vBin_geq, vBin_eql, vBin_neq, vBin_eql_str, vBin_neq_str, vLen_str, vLen_list, vLen_sref, vLoad_eptr, vPart_agg, vPart_two, vPart_str, vPart_bool, vPart_int, vPart_list, vField_eptr, vField_ptr, Nat.reduceEqDiff, Nat.zero_add, Nat.add_zero, if_true, if_false, decide_true, decide_false, Bool.not_true, Bool.not_false, List.getElem?_cons_zero, List.getElem?_cons_succ, Int.ofNat_lt, eq_self]
      rw [vBin_add _ (by omega) (by omega)]
      have htk : (ms.take (i + 1)).map (·.1) = (ms.take i).map (·.1) ++ [n] := by rw [List.take_add_one, hgi]; simp
      refine next3 _ _ hlt ⟨by simp, rfl, ?_⟩
      rw [hme, htk]
      simp only [e1, e2, e3', hpj]
      simp
  obtain rfl : i = ms.length := by omega
  rw [List.drop_length, metasErr] at hme
  rw [hme] at hch
  simp only [if_true] at hch
  simp only [hlt, bindO_some_eq, bindO_none_eq, bindS_some, condW_true, condW_false, guardG_true, guardG_false, guardG_tf, guardG_ft, guardG_skip, pv_v, pv_loc, lookP_cons, lookE_cons, vPick_true, vPick_false, vUn_not, vExtract_tuple, vBin_lss, vBin_leq, vBin_gtr, vBin_geq, vBin_eql, vBin_neq, vBin_eql_str, vBin_neq_str, vLen_str, vLen_list, vLen_sref, vLoad_eptr, vPart_agg, vPart_two, vPart_str, vPart_bool, vPart_int, vPart_list, vField_eptr, vField_ptr, Nat.reduceEqDiff, Nat.zero_add, Nat.add_zero, if_true, if_false, decide_true, decide_false, Bool.not_true, Bool.not_false, List.getElem?_cons_zero, List.getElem?_cons_succ, Int.ofNat_lt, eq_self]
  clear next3 hlt hi
  -- the rules
  refine CutW_of ?_
  refine Lfp_up rs.length (fun i x σ'' => x = lookP [(9, .int .i64 i), (1, .agg [.list mk (ms.map pvMeta), .list rk (rs.map pvRule)])] ∧ σ' <+: σ'' ∧ rulesErr rs = rulesErr (rs.drop i)) ?_ ⟨rfl, List.prefix_rfl, rfl⟩
  rintro Φ5 i x σ1 hi ⟨rfl, hpre, hre⟩ next5
  simp only [List.length_map, bindO_some_eq, bindO_none_eq, bindS_some, condW_true, condW_false, guardG_true, guardG_false, guardG_tf, guardG_ft, guardG_skip, pv_v, pv_loc, lookP_cons, lookE_cons, vPick_true, vPick_false, vUn_not, vExtract_tuple, vBin_lss, vBin_leq, vBin_gtr, vBin_geq, vBin_eql, vBin_neq, vBin_eql_str, vBin_neq_str, vLen_str, vLen_list, vLen_sref, vLoad_eptr, vPart_agg, vPart_two, vPart_str, vPart_bool, vPart_int, vPart_list, vField_eptr, vField_ptr, Nat.reduceEqDiff, Nat.zero_add, Nat.add_zero, if_true, if_false, decide_true, decide_false, Bool.not_true, Bool.not_false, List.getElem?_cons_zero, List.getElem?_cons_succ, Int.ofNat_lt, eq_self]
  by_cases hlt : i < rs.length
  · have hgi : rs[i]? = some rs[i] := by simp [hlt]
    have hmem : rs[i] ∈ rs := by simp
    generalize rs[i] = r at hgi hmem
    have hr := hg.rules r hmem
    rw [drop_cons hgi, rulesErr] at hre
    have hpr : pvRule r = .agg [pvParts r.1, pvLists r.2] := rfl
    simp only [hlt, encRule.index hgi, bindO_some_eq, bindO_none_eq, bindS_some, condW_true, condW_false, guardG_true, guardG_false, guardG_tf, guardG_ft, guardG_skip, pv_v, pv_loc, lookP_cons, lookE_cons, vPick_true, vPick_false, vUn_not, vExtract_tuple, vBin_lss, vBin_leq, vBin_gtr, vBin_geq, vBin_eql, vBin_neq, vBin_eql_str, vBin_neq_str, vLen_str, vLen_list, vLen_sref, vLoad_eptr, vPart_agg, vPart_two, vPart_str, vPart_bool, vPart_int, vPart_list, vField_eptr, vField_ptr, Nat.reduceEqDiff, Nat.zero_add, Nat.add_zero, if_true, if_false, decide_true, decide_false, Bool.not_true, Bool.not_false, List.getElem?_cons_zero, List.getElem?_cons_succ, Int.ofNat_lt, eq_self]
    refine CutW_of ?_
    rw [hpr]
    simp only [vBuildSl_one (sizedParts r.1), encRule.index hgi, bindO_some_eq, bindO_none_eq, bindS_some, condW_true, condW_false, guardG_true, guardG_false, guardG_tf, guardG_ft, guardG_skip, pv_v, pv_loc, lookP_cons, lookE_cons, vPick_true, vPick_false, vUn_not, vExtract_tuple, vBin_lss, vBin_leq, vBin_gtr, vBin_geq, vBin_eql, vBin_neq, vBin_eql_str, vBin_neq_str, vLen_str, vLen_list, vLen_sref, vLoad_eptr, vPart_agg, vPart_two, vPart_str, vPart_bool, vPart_int, vPart_list, vField_eptr, vField_ptr, Nat.reduceEqDiff, Nat.zero_add, Nat.add_zero, if_true, if_false, decide_true, decide_false, Bool.not_true, Bool.not_false, List.getElem?_cons_zero, List.getElem?_cons_succ, Int.ofNat_lt, eq_self]
    have hall : (ruleAll r).length ≤ 1048577 := by
      have := hr.right.len
      simp only [ruleAll, List.length_cons]
      omega
    obtain ⟨v, σ2, e1, e2, e3⟩ := app_all (σ := σ1) hr
    rw [e1]
    simp only [bindS_some]
    have hpre2 : σ' <+: σ2 := hpre.trans e3
    have hlen2 : ∀ σ, vLen .sl v σ = some (.int .i64 (ruleAll r).length) := fun σ => by
      have := e2.len σ
      simpa using this
    refine Lfp_up (ruleAll r).length (fun j x σ'' => x = lookP [(9, .int .i64 i), (10, v), (11, .int .i64 j), (1, .agg [.list mk (ms.map pvMeta), .list rk (rs.map pvRule)])] ∧ σ'' = σ2 ∧ listsErr (ruleAll r) = listsErr ((ruleAll r).drop j)) ?_ ⟨rfl, rfl, rfl⟩
    rintro Φ6 j x σ'' hj ⟨rfl, rfl, hle⟩ next6
    simp only [hlen2, bindO_some_eq, bindO_none_eq, bindS_some, condW_true, condW_false, guardG_true, guardG_false, guardG_tf, guardG_ft, guardG_skip, pv_v, pv_loc, lookP_cons, lookE_cons, vPick_true, vPick_false, vUn_not, vExtract_tuple, vBin_lss, vBin_leq, vBin_gtr, vBin_geq, vBin_eql, vBin_neq, vBin_eql_str, vBin_neq_str, vLen_str, vLen_list, vLen_sref, vLoad_eptr, vPart_agg, vPart_two, vPart_str, vPart_bool, vPart_int, vPart_list, vField_eptr, vField_ptr, Nat.reduceEqDiff, Nat.zero_add, Nat.add_zero, if_true, if_false, decide_true, decide_false, Bool.not_true, Bool.not_false, List.getElem?_cons_zero, List.getElem?_cons_succ, Int.ofNat_lt, eq_self]
    by_cases hjlt : j < (ruleAll r).length
    · have hgj : (ruleAll r)[j]? = some (ruleAll r)[j] := by simp [hjlt]
      have hmj : (ruleAll r)[j] ∈ ruleAll r := by simp
      generalize (ruleAll r)[j] = l at hgj hmj
      have hl : OkParts l := by
        rcases List.mem_cons.1 hmj with rfl | h
        · exact hr.left
        · exact hr.right.mem l h
      rw [drop_cons hgj, listsErr] at hle
      obtain ⟨q, q1, q2, _⟩ := e2.at_ (i := j) (k := .i64) (by rw [List.getElem?_map, hgj]; rfl) (show (pvParts l).cells? = some _ from rfl) rfl
      have q3 : vLoad false 1 q σ'' = some (pvParts l) := q2 false 1
      simp only [hjlt, q1, q3, bindO_some_eq, bindO_none_eq, bindS_some, condW_true, condW_false, guardG_true, guardG_false, guardG_tf, guardG_ft, guardG_skip, pv_v, pv_loc, lookP_cons, lookE_cons, vPick_true, vPick_false, vUn_not, vExtract_tuple, vBin_lss, vBin_leq, vBin_gtr, vBin_geq, vBin_eql, vBin_neq, vBin_eql_str, vBin_neq_str, vLen_str, vLen_list, vLen_sref, vLoad_eptr, vPart_agg, vPart_two, vPart_str, vPart_bool, vPart_int, vPart_list, vField_eptr, vField_ptr, Nat.reduceEqDiff, Nat.zero_add, Nat.add_zero, if_true, if_false, decide_true, decide_false, Bool.not_true, Bool.not_false, List.getElem?_cons_zero, List.getElem?_cons_succ, Int.ofNat_lt, eq_self]
      have hlv : vLen .sl (pvParts l) σ'' = some (.int .i64 l.2.length) := by simp [pvParts, pvSl]
      simp only [hlv, bindO_some_eq, bindO_none_eq, bindS_some, condW_true, condW_false, guardG_true, guardG_false, guardG_tf, guardG_ft, guardG_skip, pv_v, pv_loc, lookP_cons, lookE_cons, vPick_true, vPick_false, vUn_not, vExtract_tuple, vBin_lss, vBin_leq, vBin_gtr, vBin_geq, vBin_eql, vBin_neq, vBin_eql_str, vBin_neq_str, vLen_str, vLen_list, vLen_sref, vLoad_eptr, vPart_agg, vPart_two, vPart_str, vPart_bool, vPart_int, vPart_list, vField_eptr, vField_ptr, Nat.reduceEqDiff, Nat.zero_add, Nat.add_zero, if_true, if_false, decide_true, decide_false, Bool.not_true, Bool.not_false, List.getElem?_cons_zero, List.getElem?_cons_succ, Int.ofNat_lt, eq_self]
      have hlz : (((l.2.length : Int) == 0) = true) ↔ l.2.length = 0 := by simp
      cases e3 : ((l.2.length : Int) == 0) with
      | true =>
        have e3' := hlz.1 e3
        simp only [e3', if_true] at hle
        simp only [bindO_some_eq, bindO_none_eq, bindS_some, condW_true, condW_false, guardG_true, guardG_false, guardG_tf, guardG_ft, guardG_skip, pv_v, pv_loc, lookP_cons, lookE_cons, vPick_true, vPick_false, vUn_not, vExtract_tuple, vBin_lss, vBin_leq, vBin_gtr, vBin_geq, vBin_eql, vBin_neq, vBin_eql_str, vBin_neq_str, vLen_str, vLen_list, vLen_sref, vLoad_eptr, vPart_agg, vPart_two, vPart_str, vPart_bool, vPart_int, vPart_list, vField_eptr, vField_ptr, Nat.reduceEqDiff, Nat.zero_add, Nat.add_zero, if_true, if_false, decide_true, decide_false, Bool.not_true, Bool.not_false, List.getElem?_cons_zero, List.getElem?_cons_succ, Int.ofNat_lt, eq_self]
        refine fin 12 _ hpre2 ?_
        rw [hch, hre, hle]
        simp
      | false =>
      have e3' : ¬ l.2.length = 0 := fun h => by rw [hlz.2 h] at e3; cases e3
      simp only [e3', if_false] at hle
      simp only [q1, q3, bindO_some_eq, bindO_none_eq, bindS_some, condW_true, condW_false, guardG_true, guardG_false, guardG_tf, guardG_ft, guardG_skip, pv_v, pv_loc, lookP_cons, lookE_cons, vPick_true, vPick_false, vUn_not, vExtract_tuple, vBin_lss, vBin_leq, vBin_gtr, vBin_geq, vBin_eql, vBin_neq, vBin_eql_str, vBin_neq_str, vLen_str, vLen_list, vLen_sref, vLoad_eptr, vPart_agg, vPart_two, vPart_str, vPart_bool, vPart_int, vPart_list, vField_eptr, vField_ptr, Nat.reduceEqDiff, Nat.zero_add, Nat.add_zero, if_true, if_false, decide_true, decide_false, Bool.not_true, Bool.not_false, List.getElem?_cons_zero, List.getElem?_cons_succ, Int.ofNat_lt, eq_self]
      refine (c68 (x := pvParts l) (Nat.lt_of_le_of_lt hl.len (by decide)) hl.okS (.list _ _)).callB ?_
      have hbl' : l.2.any (badPart true) = badL true l := rfl
      rw [hbl']
      cases e4 : badL true l with
      | true =>
        rw [e4] at hle
        simp only [if_true] at hle
        simp only [if_true, show ((8 : Int) != 0) = true from rfl, bindO_some_eq, bindO_none_eq, bindS_some, condW_true, condW_false, guardG_true, guardG_false, guardG_tf, guardG_ft, guardG_skip, pv_v, pv_loc, lookP_cons, lookE_cons, vPick_true, vPick_false, vUn_not, vExtract_tuple, vBin_lss, vBin_leq, vBin_gtr, vBin_geq, vBin_eql, vBin_neq, vBin_eql_str, vBin_neq_str, vLen_str, vLen_list, vLen_sref, vLoad_eptr, vPart_agg, vPart_two, vPart_str, vPart_bool, vPart_int, vPart_list, vField_eptr, vField_ptr, Nat.reduceEqDiff, Nat.zero_add, Nat.add_zero, if_true, if_false, decide_true, decide_false, Bool.not_true, Bool.not_false, List.getElem?_cons_zero, List.getElem?_cons_succ, Int.ofNat_lt, eq_self]
        refine fin 8 _ hpre2 ?_
        rw [hch, hre, hle]
        simp
      | false =>
      rw [e4] at hle
      simp only [Bool.false_eq_true, if_false] at hle
      simp only [Bool.false_eq_true, if_false, show ((0 : Int) != 0) = false from rfl, bindO_some_eq, bindO_none_eq, bindS_some, condW_true, condW_false, guardG_true, guardG_false, guardG_tf, guardG_ft, guardG_skip, pv_v, pv_loc, lookP_cons, lookE_cons, vPick_true, vPick_false, vUn_not, vExtract_tuple, vBin_lss, vBin_leq, vBin_gtr, vBin_geq, vBin_eql, vBin_neq, vBin_eql_str, vBin_neq_str, vLen_str, vLen_list, vLen_sref, vLoad_eptr, vPart_agg, vPart_two, vPart_str, vPart_bool, vPart_int, vPart_list, vField_eptr, vField_ptr, Nat.reduceEqDiff, Nat.zero_add, Nat.add_zero, if_true, if_false, decide_true, decide_false, Bool.not_true, Bool.not_false, List.getElem?_cons_zero, List.getElem?_cons_succ, Int.ofNat_lt, eq_self]
      rw [vBin_add _ (by omega) (by omega)]
      exact next6 _ _ hjlt ⟨by simp, rfl, hle⟩
    · obtain rfl : j = (ruleAll r).length := by omega
      rw [List.drop_length, listsErr] at hle
      rw [hle] at hre
      simp only [if_true] at hre
      simp only [hjlt, bindO_some_eq, bindO_none_eq, bindS_some, condW_true, condW_false, guardG_true, guardG_false, guardG_tf, guardG_ft, guardG_skip, pv_v, pv_loc, lookP_cons, lookE_cons, vPick_true, vPick_false, vUn_not, vExtract_tuple, vBin_lss, vBin_leq, vBin_gtr, vBin_geq, vBin_eql, vBin_neq, vBin_eql_str, vBin_neq_str, vLen_str, vLen_list, vLen_sref, vLoad_eptr, vPart_agg, vPart_two, vPart_str, vPart_bool, vPart_int, vPart_list, vField_eptr, vField_ptr, Nat.reduceEqDiff, Nat.zero_add, Nat.add_zero, if_true, if_false, decide_true, decide_false, Bool.not_true, Bool.not_false, List.getElem?_cons_zero, List.getElem?_cons_succ, Int.ofNat_lt, eq_self]
      rw [vBin_add _ (by omega) (by omega)]
      exact next5 _ _ hlt ⟨by simp, hpre2, hre⟩
  obtain rfl : i = rs.length := by omega
  rw [List.drop_length, rulesErr] at hre
  rw [hre] at hch
  simp only [if_true] at hch
  simp only [hlt, bindO_some_eq, bindO_none_eq, bindS_some, condW_true, condW_false, guardG_true, guardG_false, guardG_tf, guardG_ft, guardG_skip, pv_v, pv_loc, lookP_cons, lookE_cons, vPick_true, vPick_false, vUn_not, vExtract_tuple, vBin_lss, vBin_leq, vBin_gtr, vBin_geq, vBin_eql, vBin_neq, vBin_eql_str, vBin_neq_str, vLen_str, vLen_list, vLen_sref, vLoad_eptr, vPart_agg, vPart_two, vPart_str, vPart_bool, vPart_int, vPart_list, vField_eptr, vField_ptr, Nat.reduceEqDiff, Nat.zero_add, Nat.add_zero, if_true, if_false, decide_true, decide_false, Bool.not_true, Bool.not_false, List.getElem?_cons_zero, List.getElem?_cons_succ, Int.ofNat_lt, eq_self]
  clear next5 hlt hi
  -- names of the metarules' alternatives
  refine CutW_of ?_
  refine Lfp_up ms.length (fun i x σ'' => x = lookP [(13, .int .i64 i), (1, .agg [.list mk (ms.map pvMeta), .list rk (rs.map pvRule)])] ∧ σ'' = σ1 ∧ (ms.take i).any (fun m => m.2.2.any (unkL (ms.map (·.1)))) = false) ?_ ⟨rfl, rfl, rfl⟩
  rintro Φ7 i x σ'' hi ⟨rfl, rfl, hno⟩ next7
  simp only [List.length_map, bindO_some_eq, bindO_none_eq, bindS_some, condW_true, condW_false, guardG_true, guardG_false, guardG_tf, guardG_ft, guardG_skip, pv_v, pv_loc, lookP_cons, lookE_cons, vPick_true, vPick_false, vUn_not, vExtract_tuple, vBin_lss, vBin_leq, vBin_gtr, vBin_geq, vBin_eql, vBin_neq, vBin_eql_str, vBin_neq_str, vLen_str, vLen_list, vLen_sref, vLoad_eptr, vPart_agg, vPart_two, vPart_str, vPart_bool, vPart_int, vPart_list, vField_eptr, vField_ptr, Nat.reduceEqDiff, Nat.zero_add, Nat.add_zero, if_true, if_false, decide_true, decide_false, Bool.not_true, Bool.not_false, List.getElem?_cons_zero, List.getElem?_cons_succ, Int.ofNat_lt, eq_self]
  by_cases hlt : i < ms.length
  · have hgi : ms[i]? = some ms[i] := by simp [hlt]
    have hmem : ms[i] ∈ ms := by simp
    generalize ms[i] = m at hgi hmem
    have hm := hg.metas m hmem
    have hgood := metas_good hme m hmem
    simp only [hlt, bindO_some_eq, bindO_none_eq, bindS_some, condW_true, condW_false, guardG_true, guardG_false, guardG_tf, guardG_ft, guardG_skip, pv_v, pv_loc, lookP_cons, lookE_cons, vPick_true, vPick_false, vUn_not, vExtract_tuple, vBin_lss, vBin_leq, vBin_gtr, vBin_geq, vBin_eql, vBin_neq, vBin_eql_str, vBin_neq_str, vLen_str, vLen_list, vLen_sref, vLoad_eptr, vPart_agg, vPart_two, vPart_str, vPart_bool, vPart_int, vPart_list, vField_eptr, vField_ptr, Nat.reduceEqDiff, Nat.zero_add, Nat.add_zero, if_true, if_false, decide_true, decide_false, Bool.not_true, Bool.not_false, List.getElem?_cons_zero, List.getElem?_cons_succ, Int.ofNat_lt, eq_self]
    refine CutW_of ?_
    obtain ⟨n, ak, als⟩ := m
    simp only at hgood
    have hal := hm.alts.len
    simp only at hal
    refine Lfp_up als.length (fun j x σ2 => x = lookP [(13, .int .i64 i), (14, .int .i64 j), (1, .agg [.list mk (ms.map pvMeta), .list rk (rs.map pvRule)])] ∧ σ2 = σ'' ∧ (als.take j).any (unkL (ms.map (·.1))) = false) ?_ ⟨rfl, rfl, rfl⟩
    rintro Φ8 j x σ2 hj ⟨rfl, rfl, hpj⟩ next8
    have hpm : pvMeta (n, ak, als) = .agg [.str n, .list ak (als.map pvParts)] := rfl
    simp only [encMeta.index hgi, bindO_some_eq, bindO_none_eq, bindS_some, condW_true, condW_false, guardG_true, guardG_false, guardG_tf, guardG_ft, guardG_skip, pv_v, pv_loc, lookP_cons, lookE_cons, vPick_true, vPick_false, vUn_not, vExtract_tuple, vBin_lss, vBin_leq, vBin_gtr, vBin_geq, vBin_eql, vBin_neq, vBin_eql_str, vBin_neq_str, vLen_str, vLen_list, vLen_sref, vLoad_eptr, vPart_agg, vPart_two, vPart_str, vPart_bool, vPart_int, vPart_list, vField_eptr, vField_ptr, Nat.reduceEqDiff, Nat.zero_add, Nat.add_zero, if_true, if_false, decide_true, decide_false, Bool.not_true, Bool.not_false, List.getElem?_cons_zero, List.getElem?_cons_succ, Int.ofNat_lt, eq_self]
    rw [hpm]
    simp only [List.length_map, bindO_some_eq, bindO_none_eq, bindS_some, condW_true, condW_false, guardG_true, guardG_false, guardG_tf, guardG_ft, guardG_skip, pv_v, pv_loc, lookP_cons, lookE_cons, vPick_true, vPick_false, vUn_not, vExtract_tuple, vBin_lss, vBin_leq, vBin_gtr, vBin_geq, vBin_eql, vBin_neq, vBin_eql_str, vBin_neq_str, vLen_str, vLen_list, vLen_sref, vLoad_eptr, vPart_agg, vPart_two, vPart_str, vPart_bool, vPart_int, vPart_list, vField_eptr, vField_ptr, Nat.reduceEqDiff, Nat.zero_add, Nat.add_zero, if_true, if_false, decide_true, decide_false, Bool.not_true, Bool.not_false, List.getElem?_cons_zero, List.getElem?_cons_succ, Int.ofNat_lt, eq_self]
    by_cases hjlt : j < als.length
    · have hgj : als[j]? = some als[j] := by simp [hjlt]
      have hmj : als[j] ∈ als := by simp
      generalize als[j] = l at hgj hmj
      have hl := hm.alts.mem l hmj
      have hbl : badL false l = false := by
        rw [List.any_eq_false] at hgood
        simpa using hgood l hmj
      simp only [hjlt, hpt0, encMeta.index hgi, bindO_some_eq, bindO_none_eq, bindS_some, condW_true, condW_false, guardG_true, guardG_false, guardG_tf, guardG_ft, guardG_skip, pv_v, pv_loc, lookP_cons, lookE_cons, vPick_true, vPick_false, vUn_not, vExtract_tuple, vBin_lss, vBin_leq, vBin_gtr, vBin_geq, vBin_eql, vBin_neq, vBin_eql_str, vBin_neq_str, vLen_str, vLen_list, vLen_sref, vLoad_eptr, vPart_agg, vPart_two, vPart_str, vPart_bool, vPart_int, vPart_list, vField_eptr, vField_ptr, Nat.reduceEqDiff, Nat.zero_add, Nat.add_zero, if_true, if_false, decide_true, decide_false, Bool.not_true, Bool.not_false, List.getElem?_cons_zero, List.getElem?_cons_succ, Int.ofNat_lt, eq_self]
      simp only [encParts.index hgj, encParts.part, bindO_some_eq, bindO_none_eq, bindS_some, condW_true, condW_false, guardG_true, guardG_false, guardG_tf, guardG_ft, guardG_skip, pv_v, pv_loc, lookP_cons, lookE_cons, vPick_true, vPick_false, vUn_not, vExtract_tuple, vBin_lss, vBin_leq, vBin_gtr, vBin_geq, vBin_eql, vBin_neq, vBin_eql_str, vBin_neq_str, vLen_str, vLen_list, vLen_sref, vLoad_eptr, vPart_agg, vPart_two, vPart_str, vPart_bool, vPart_int, vPart_list, vField_eptr, vField_ptr, Nat.reduceEqDiff, Nat.zero_add, Nat.add_zero, if_true, if_false, decide_true, decide_false, Bool.not_true, Bool.not_false, List.getElem?_cons_zero, List.getElem?_cons_succ, Int.ofNat_lt, eq_self]
      refine (hc69 hl _).callB ?_
      rw [unkL_eq hbl]
      have hnm : names ((mk, ms), rk, rs) = ms.map (·.1) := rfl
      rw [hnm]
      cases e4 : unkL (ms.map (·.1)) l with
      | true =>
        simp only [if_true, show ((4 : Int) != 0) = true from rfl, bindO_some_eq, bindO_none_eq, bindS_some, condW_true, condW_false, guardG_true, guardG_false, guardG_tf, guardG_ft, guardG_skip, pv_v, pv_loc, lookP_cons, lookE_cons, vPick_true, vPick_false, vUn_not, vExtract_tuple, vBin_lss, vBin_leq, vBin_gtr, vBin_geq, vBin_eql, vBin_neq, vBin_eql_str, vBin_neq_str, vLen_str, vLen_list, vLen_sref, vLoad_eptr, vPart_agg, vPart_two, vPart_str, vPart_bool, vPart_int, vPart_list, vField_eptr, vField_ptr, Nat.reduceEqDiff, Nat.zero_add, Nat.add_zero, if_true, if_false, decide_true, decide_false, Bool.not_true, Bool.not_false, List.getElem?_cons_zero, List.getElem?_cons_succ, Int.ofNat_lt, eq_self]
        refine fin 4 _ hpre ?_
        rw [hch, if_pos]
        exact any_of_get hgi (any_of_get (l := als) hgj e4)
      | false =>
        simp only [Bool.false_eq_true, if_false, show ((0 : Int) != 0) = false from rfl, bindO_some_eq, bindO_none_eq, bindS_some, condW_true, condW_false, guardG_true, guardG_false, guardG_tf, guardG_ft, guardG_skip, pv_v, pv_loc, lookP_cons, lookE_cons, vPick_true, vPick_false, vUn_not, vExtract_tuple, vBin_lss, vBin_leq, vBin_gtr, vBin_geq, vBin_eql, vBin_neq, vBin_eql_str, vBin_neq_str, vLen_str, vLen_list, vLen_sref, vLoad_eptr, vPart_agg, vPart_two, vPart_str, vPart_bool, vPart_int, vPart_list, vField_eptr, vField_ptr, Nat.reduceEqDiff, Nat.zero_add, Nat.add_zero, if_true, if_false, decide_true, decide_false, Bool.not_true, Bool.not_false, List.getElem?_cons_zero, List.getElem?_cons_succ, Int.ofNat_lt, eq_self]
        rw [vBin_add _ (by omega) (by omega)]
        exact next8 _ _ hjlt ⟨by simp, rfl, any_take_false hpj hgj e4⟩
    · obtain rfl : j = als.length := by omega
      rw [List.take_length] at hpj
      simp only [hjlt, bindO_some_eq, bindO_none_eq, bindS_some, condW_true, condW_false, guardG_true, guardG_false, guardG_tf, guardG_ft, guardG_skip, pv_v, pv_loc, lookP_cons, lookE_cons, vPick_true, vPick_false, vUn_not, vExtract_tuple, vBin_lss, vBin_leq, vBin_gtr, vBin_geq, vBin_eql, vBin_neq, vBin_eql_str, vBin_neq_str, vLen_str, vLen_list, vLen_sref, vLoad_eptr, vPart_agg, vPart_two, vPart_str, vPart_bool, vPart_int, vPart_list, vField_eptr, vField_ptr, Nat.reduceEqDiff, Nat.zero_add, Nat.add_zero, if_true, if_false, decide_true, decide_false, Bool.not_true, Bool.not_false, List.getElem?_cons_zero, List.getElem?_cons_succ, Int.ofNat_lt, eq_self]
      rw [vBin_add _ (by omega) (by omega)]
      exact next7 _ _ hlt ⟨by simp, rfl, any_take_false hno hgi hpj⟩
  obtain rfl : i = ms.length := by omega
  rw [List.take_length] at hno
  rw [hno] at hch
  simp only [Bool.false_eq_true, if_false] at hch
  simp only [hlt, bindO_some_eq, bindO_none_eq, bindS_some, condW_true, condW_false, guardG_true, guardG_false, guardG_tf, guardG_ft, guardG_skip, pv_v, pv_loc, lookP_cons, lookE_cons, vPick_true, vPick_false, vUn_not, vExtract_tuple, vBin_lss, vBin_leq, vBin_gtr, vBin_geq, vBin_eql, vBin_neq, vBin_eql_str, vBin_neq_str, vLen_str, vLen_list, vLen_sref, vLoad_eptr, vPart_agg, vPart_two, vPart_str, vPart_bool, vPart_int, vPart_list, vField_eptr, vField_ptr, Nat.reduceEqDiff, Nat.zero_add, Nat.add_zero, if_true, if_false, decide_true, decide_false, Bool.not_true, Bool.not_false, List.getElem?_cons_zero, List.getElem?_cons_succ, Int.ofNat_lt, eq_self]
  clear next7 hlt hi
  -- names of the rules
  refine CutW_of ?_
  refine Lfp_up rs.length (fun i x σ2 => x = lookP [(16, .int .i64 i), (1, .agg [.list mk (ms.map pvMeta), .list rk (rs.map pvRule)])] ∧ σ' <+: σ2 ∧ (rs.take i).any (fun r => (ruleAll r).any (unkL (ms.map (·.1)))) = false) ?_ ⟨rfl, hpre, rfl⟩
  rintro Φ9 i x σ3 hi ⟨rfl, hpre3, hno9⟩ next9
  simp only [List.length_map, bindO_some_eq, bindO_none_eq, bindS_some, condW_true, condW_false, guardG_true, guardG_false, guardG_tf, guardG_ft, guardG_skip, pv_v, pv_loc, lookP_cons, lookE_cons, vPick_true, vPick_false, vUn_not, vExtract_tuple, vBin_lss, vBin_leq, vBin_gtr, vBin_geq, vBin_eql, vBin_neq, vBin_eql_str, vBin_neq_str, vLen_str, vLen_list, vLen_sref, vLoad_eptr, vPart_agg, vPart_two, vPart_str, vPart_bool, vPart_int, vPart_list, vField_eptr, vField_ptr, Nat.reduceEqDiff, Nat.zero_add, Nat.add_zero, if_true, if_false, decide_true, decide_false, Bool.not_true, Bool.not_false, List.getElem?_cons_zero, List.getElem?_cons_succ, Int.ofNat_lt, eq_self]
  by_cases hlt : i < rs.length
  · have hgi : rs[i]? = some rs[i] := by simp [hlt]
    have hmem : rs[i] ∈ rs := by simp
    generalize rs[i] = r at hgi hmem
    have hr := hg.rules r hmem
    have hgood := lists_good (rules_good hre r hmem)
    have hpr : pvRule r = .agg [pvParts r.1, pvLists r.2] := rfl
    simp only [hlt, encRule.index hgi, bindO_some_eq, bindO_none_eq, bindS_some, condW_true, condW_false, guardG_true, guardG_false, guardG_tf, guardG_ft, guardG_skip, pv_v, pv_loc, lookP_cons, lookE_cons, vPick_true, vPick_false, vUn_not, vExtract_tuple, vBin_lss, vBin_leq, vBin_gtr, vBin_geq, vBin_eql, vBin_neq, vBin_eql_str, vBin_neq_str, vLen_str, vLen_list, vLen_sref, vLoad_eptr, vPart_agg, vPart_two, vPart_str, vPart_bool, vPart_int, vPart_list, vField_eptr, vField_ptr, Nat.reduceEqDiff, Nat.zero_add, Nat.add_zero, if_true, if_false, decide_true, decide_false, Bool.not_true, Bool.not_false, List.getElem?_cons_zero, List.getElem?_cons_succ, Int.ofNat_lt, eq_self]
    refine CutW_of ?_
    rw [hpr]
    simp only [vBuildSl_one (sizedParts r.1), encRule.index hgi, bindO_some_eq, bindO_none_eq, bindS_some, condW_true, condW_false, guardG_true, guardG_false, guardG_tf, guardG_ft, guardG_skip, pv_v, pv_loc, lookP_cons, lookE_cons, vPick_true, vPick_false, vUn_not, vExtract_tuple, vBin_lss, vBin_leq, vBin_gtr, vBin_geq, vBin_eql, vBin_neq, vBin_eql_str, vBin_neq_str, vLen_str, vLen_list, vLen_sref, vLoad_eptr, vPart_agg, vPart_two, vPart_str, vPart_bool, vPart_int, vPart_list, vField_eptr, vField_ptr, Nat.reduceEqDiff, Nat.zero_add, Nat.add_zero, if_true, if_false, decide_true, decide_false, Bool.not_true, Bool.not_false, List.getElem?_cons_zero, List.getElem?_cons_succ, Int.ofNat_lt, eq_self]
    obtain ⟨v, σ4, e1, e2, e3⟩ := app_all (σ := σ3) hr
    rw [e1]
    simp only [bindS_some]
    have hall : (ruleAll r).length ≤ 1048577 := by
      have := hr.right.len
      simp only [ruleAll, List.length_cons]
      omega
    have hpre4 : σ' <+: σ4 := hpre3.trans e3
    have hlen4 : ∀ σ, vLen .sl v σ = some (.int .i64 (ruleAll r).length) := fun σ => by
      have := e2.len σ
      simpa using this
    refine Lfp_up (ruleAll r).length (fun j x σ5 => x = lookP [(16, .int .i64 i), (17, v), (18, .int .i64 j), (1, .agg [.list mk (ms.map pvMeta), .list rk (rs.map pvRule)])] ∧ σ5 = σ4 ∧ ((ruleAll r).take j).any (unkL (ms.map (·.1))) = false) ?_ ⟨rfl, rfl, rfl⟩
    rintro Φ10 j x σ5 hj ⟨rfl, rfl, hpj⟩ next10
    simp only [hlen4, bindO_some_eq, bindO_none_eq, bindS_some, condW_true, condW_false, guardG_true, guardG_false, guardG_tf, guardG_ft, guardG_skip, pv_v, pv_loc, lookP_cons, lookE_cons, vPick_true, vPick_false, vUn_not, vExtract_tuple, vBin_lss, vBin_leq, vBin_gtr, vBin_geq, vBin_eql, vBin_neq, vBin_eql_str, vBin_neq_str, vLen_str, vLen_list, vLen_sref, vLoad_eptr, vPart_agg, vPart_two, vPart_str, vPart_bool, vPart_int, vPart_list, vField_eptr, vField_ptr, Nat.reduceEqDiff, Nat.zero_add, Nat.add_zero, if_true, if_false, decide_true, decide_false, Bool.not_true, Bool.not_false, List.getElem?_cons_zero, List.getElem?_cons_succ, Int.ofNat_lt, eq_self]
    by_cases hjlt : j < (ruleAll r).length
    · have hgj : (ruleAll r)[j]? = some (ruleAll r)[j] := by simp [hjlt]
      have hmj : (ruleAll r)[j] ∈ ruleAll r := by simp
      generalize (ruleAll r)[j] = l at hgj hmj
      have hl : OkParts l := by
        rcases List.mem_cons.1 hmj with rfl | h
        · exact hr.left
        · exact hr.right.mem l h
      have hbl := hgood l hmj
      obtain ⟨q, q1, q2, _⟩ := e2.at_ (i := j) (k := .i64) (by rw [List.getElem?_map, hgj]; rfl) (show (pvParts l).cells? = some _ from rfl) rfl
      have q3 : vLoad false 1 q σ5 = some (pvParts l) := q2 false 1
      simp only [hjlt, hpt0, q1, q3, bindO_some_eq, bindO_none_eq, bindS_some, condW_true, condW_false, guardG_true, guardG_false, guardG_tf, guardG_ft, guardG_skip, pv_v, pv_loc, lookP_cons, lookE_cons, vPick_true, vPick_false, vUn_not, vExtract_tuple, vBin_lss, vBin_leq, vBin_gtr, vBin_geq, vBin_eql, vBin_neq, vBin_eql_str, vBin_neq_str, vLen_str, vLen_list, vLen_sref, vLoad_eptr, vPart_agg, vPart_two, vPart_str, vPart_bool, vPart_int, vPart_list, vField_eptr, vField_ptr, Nat.reduceEqDiff, Nat.zero_add, Nat.add_zero, if_true, if_false, decide_true, decide_false, Bool.not_true, Bool.not_false, List.getElem?_cons_zero, List.getElem?_cons_succ, Int.ofNat_lt, eq_self]
      refine (hc69 hl _).callB ?_
      rw [unkL_eq hbl]
      have hnm : names ((mk, ms), rk, rs) = ms.map (·.1) := rfl
      rw [hnm]
      cases e4 : unkL (ms.map (·.1)) l with
      | true =>
        simp only [if_true, show ((4 : Int) != 0) = true from rfl, bindO_some_eq, bindO_none_eq, bindS_some, condW_true, condW_false, guardG_true, guardG_false, guardG_tf, guardG_ft, guardG_skip, pv_v, pv_loc, lookP_cons, lookE_cons, vPick_true, vPick_false, vUn_not, vExtract_tuple, vBin_lss, vBin_leq, vBin_gtr, vBin_geq, vBin_eql, vBin_neq, vBin_eql_str, vBin_neq_str, vLen_str, vLen_list, vLen_sref, vLoad_eptr, vPart_agg, vPart_two, vPart_str, vPart_bool, vPart_int, vPart_list, vField_eptr, vField_ptr, Nat.reduceEqDiff, Nat.zero_add, Nat.add_zero, if_true, if_false, decide_true, decide_false, Bool.not_true, Bool.not_false, List.getElem?_cons_zero, List.getElem?_cons_succ, Int.ofNat_lt, eq_self]
        refine fin 4 _ hpre4 ?_
        rw [hch, if_pos]
        exact any_of_get hgi (any_of_get (l := ruleAll r) hgj e4)
      | false =>
        simp only [Bool.false_eq_true, if_false, show ((0 : Int) != 0) = false from rfl, bindO_some_eq, bindO_none_eq, bindS_some, condW_true, condW_false, guardG_true, guardG_false, guardG_tf, guardG_ft, guardG_skip, pv_v, pv_loc, lookP_cons, lookE_cons, vPick_true, vPick_false, vUn_not, vExtract_tuple, vBin_lss, vBin_leq, vBin_gtr, vBin_geq, vBin_eql, vBin_neq, vBin_eql_str, vBin_neq_str, vLen_str, vLen_list, vLen_sref, vLoad_eptr, vPart_agg, vPart_two, vPart_str, vPart_bool, vPart_int, vPart_list, vField_eptr, vField_ptr, Nat.reduceEqDiff, Nat.zero_add, Nat.add_zero, if_true, if_false, decide_true, decide_false, Bool.not_true, Bool.not_false, List.getElem?_cons_zero, List.getElem?_cons_succ, Int.ofNat_lt, eq_self]
        rw [vBin_add _ (by omega) (by omega)]
        exact next10 _ _ hjlt ⟨by simp, rfl, any_take_false hpj hgj e4⟩
    · obtain rfl : j = (ruleAll r).length := by omega
      rw [List.take_length] at hpj
      simp only [hjlt, bindO_some_eq, bindO_none_eq, bindS_some, condW_true, condW_false, guardG_true, guardG_false, guardG_tf, guardG_ft, guardG_skip, pv_v, pv_loc, lookP_cons, lookE_cons, vPick_true, vPick_false, vUn_not, vExtract_tuple, vBin_lss, vBin_leq, vBin_gtr, vBin_geq, vBin_eql, vBin_neq, vBin_eql_str, vBin_neq_str, vLen_str, vLen_list, vLen_sref, vLoad_eptr, vPart_agg, vPart_two, vPart_str, vPart_bool, vPart_int, vPart_list, vField_eptr, vField_ptr, Nat.reduceEqDiff, Nat.zero_add, Nat.add_zero, if_true, if_false, decide_true, decide_false, Bool.not_true, Bool.not_false, List.getElem?_cons_zero, List.getElem?_cons_succ, Int.ofNat_lt, eq_self]
      rw [vBin_add _ (by omega) (by omega)]
      exact next9 _ _ hlt ⟨by simp, hpre4, any_take_false hno9 hgi hpj⟩
  obtain rfl : i = rs.length := by omega
  rw [List.take_length] at hno9
  simp only [hlt, bindO_some_eq, bindO_none_eq, bindS_some, condW_true, condW_false, guardG_true, guardG_false, guardG_tf, guardG_ft, guardG_skip, pv_v, pv_loc, lookP_cons, lookE_cons, vPick_true, vPick_false, vUn_not, vExtract_tuple, vBin_lss, vBin_leq, vBin_gtr, vBin_geq, vBin_eql, vBin_neq, vBin_eql_str, vBin_neq_str, vLen_str, vLen_list, vLen_sref, vLoad_eptr, vPart_agg, vPart_two, vPart_str, vPart_bool, vPart_int, vPart_list, vField_eptr, vField_ptr, Nat.reduceEqDiff, Nat.zero_add, Nat.add_zero, if_true, if_false, decide_true, decide_false, Bool.not_true, Bool.not_false, List.getElem?_cons_zero, List.getElem?_cons_succ, Int.ofNat_lt, eq_self]
  refine fin 0 _ hpre3 ?_
  rw [hch, hno9]
  simp

end Go.Proofs.YtiniifbmeobmgaaGreatDoor
