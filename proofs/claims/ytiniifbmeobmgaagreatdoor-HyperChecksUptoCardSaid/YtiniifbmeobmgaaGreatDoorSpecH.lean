/- Grammars; what the package's Check answers. -/
import Derived.Test.YtiniifbmeobmgaaGreatDoorSpecB2
set_option linter.unusedVariables false
set_option linter.unusedSimpArgs false
namespace Go.Proofs.YtiniifbmeobmgaaGreatDoor
open Go Go.Abs

/-- A slice from outside: its members, and whether it is nil. -/
abbrev Sl (α : Type) := LK × List α
def pvSl {α : Type} (enc : α → PV) (p : Sl α) : PV := .list p.1 (p.2.map enc)
abbrev Lists := Sl (Sl Part)
abbrev Meta19 := Str × Lists
abbrev Rule19 := Sl Part × Lists
abbrev Gram := Sl Meta19 × Sl Rule19
def pvParts (l : Sl Part) : PV := pvSl pvPart l
def pvLists (l : Lists) : PV := pvSl pvParts l
def pvMeta (m : Meta19) : PV := .agg [.str m.1, pvLists m.2]
def pvRule (r : Rule19) : PV := .agg [pvParts r.1, pvLists r.2]
def pvGram (g : Gram) : PV := .agg [pvSl pvMeta g.1, pvSl pvRule g.2]

theorem encParts : EncOk pvParts false 1 := ⟨fun p => ⟨_, rfl, rfl⟩, fun p => rfl⟩
theorem encMeta : EncOk pvMeta true 2 := ⟨fun p => ⟨_, rfl, rfl⟩, fun p => rfl⟩
theorem encRule : EncOk pvRule true 2 := ⟨fun p => ⟨_, rfl, rfl⟩, fun p => rfl⟩
theorem sizedParts (p : Sl Part) : Sized 1 (pvParts p) := ⟨_, rfl, rfl⟩
theorem sizedMeta (p : Meta19) : Sized 2 (pvMeta p) := ⟨_, rfl, rfl⟩
theorem sizedRule (p : Rule19) : Sized 2 (pvRule p) := ⟨_, rfl, rfl⟩
theorem underSl {α : Type} {enc : α → PV} {n : Nat} (h : ∀ a, Under n (enc a)) (p : Sl α) : Under n (pvSl enc p) := .list _ _ fun i x hx => by
  obtain ⟨a, _, rfl⟩ := List.mem_map.1 (List.mem_of_getElem? hx)
  exact h a
theorem underParts (n : Nat) (p : Sl Part) : Under n (pvParts p) := underSl (underPart n) p
theorem underLists (n : Nat) (p : Lists) : Under n (pvLists p) := underSl (underParts n) p
theorem underMeta (n : Nat) (m : Meta19) : Under n (pvMeta m) := .agg _ fun i x h => by
  match i with
  | 0 => simp at h; subst h; exact .str _
  | 1 => simp at h; subst h; exact underLists n m.2
  | i + 2 => simp at h
theorem underRule (n : Nat) (r : Rule19) : Under n (pvRule r) := .agg _ fun i x h => by
  match i with
  | 0 => simp at h; subst h; exact underParts n r.1
  | 1 => simp at h; subst h; exact underLists n r.2
  | i + 2 => simp at h

/-- No text is too long, no slice. -/
abbrev lim : Nat := 1048576
structure OkParts (l : Sl Part) : Prop where
  len : l.2.length ≤ 1048576
  txt : ∀ p ∈ l.2, p.2.length ≤ 1048576
structure OkLists (l : Lists) : Prop where
  len : l.2.length ≤ 1048576
  mem : ∀ p ∈ l.2, OkParts p
structure OkMeta (m : Meta19) : Prop where
  txt : m.1.length ≤ 1048576
  alts : OkLists m.2
structure OkRule (r : Rule19) : Prop where
  left : OkParts r.1
  right : OkLists r.2
structure OkGram (g : Gram) : Prop where
  ml : g.1.2.length ≤ 1048576
  rl : g.2.2.length ≤ 1048576
  metas : ∀ m ∈ g.1.2, OkMeta m
  rules : ∀ r ∈ g.2.2, OkRule r

theorem OkParts.okS {l : Sl Part} (h : OkParts l) : ∀ p ∈ l.2, okS p.2 := fun p hp => Nat.lt_of_le_of_lt (h.txt p hp) (by decide)

def ruleAll (r : Rule19) : List (Sl Part) := r.1 :: r.2.2

/-! ### Too long -/

def longL (l : Sl Part) : Bool := decide ((l.2.length : Int) > 64)
def longM (m : Meta19) : Bool := decide ((m.2.2.length : Int) > 64) || m.2.2.any longL
def longR (r : Rule19) : Bool := decide ((r.2.2.length : Int) > 64) || (decide ((r.1.2.length : Int) > 64) || r.2.2.any longL)

theorem c121 {l : Sl Part} (σ : St) : Ret W 121 [pvParts l] σ (.bool (longL l)) := by
  refine ret_of fun R hR => ?_
  rw [fn121_eq]
  unfold fn121
  simp only [pvParts, pvSl, List.length_map, bindO_some_eq, bindO_none_eq, bindS_some, condW_true, condW_false, guardG_true, guardG_false, guardG_tf, guardG_ft, guardG_skip, pv_v, pv_loc, lookP_cons, lookE_cons, vPick_true, vPick_false, vUn_not, vExtract_tuple, vBin_lss, vBin_leq, vBin_gtr, vBin_geq, vBin_eql, vBin_neq, vBin_eql_str, vBin_neq_str, vLen_str, vLen_list, vLen_sref, vLoad_eptr, vPart_agg, vPart_two, vPart_str, vPart_bool, vPart_int, vPart_list, vField_eptr, vField_ptr, Nat.reduceEqDiff, Nat.zero_add, Nat.add_zero, if_true, if_false, decide_true, decide_false, Bool.not_true, Bool.not_false, List.getElem?_cons_zero, List.getElem?_cons_succ, Int.ofNat_lt, eq_self]
  exact weakW_keep hR

theorem c122 {l : Sl Part} (σ : St) : Ret W 122 [pvParts l] σ (.bool (longL l)) := by
  refine ret_of fun R hR => ?_
  rw [fn122_eq]
  unfold fn122
  simp only [pvParts, pvSl, List.length_map, bindO_some_eq, bindO_none_eq, bindS_some, condW_true, condW_false, guardG_true, guardG_false, guardG_tf, guardG_ft, guardG_skip, pv_v, pv_loc, lookP_cons, lookE_cons, vPick_true, vPick_false, vUn_not, vExtract_tuple, vBin_lss, vBin_leq, vBin_gtr, vBin_geq, vBin_eql, vBin_neq, vBin_eql_str, vBin_neq_str, vLen_str, vLen_list, vLen_sref, vLoad_eptr, vPart_agg, vPart_two, vPart_str, vPart_bool, vPart_int, vPart_list, vField_eptr, vField_ptr, Nat.reduceEqDiff, Nat.zero_add, Nat.add_zero, if_true, if_false, decide_true, decide_false, Bool.not_true, Bool.not_false, List.getElem?_cons_zero, List.getElem?_cons_succ, Int.ofNat_lt, eq_self]
  exact weakW_keep hR

theorem hb121 : hasBody 121 = true := by kernel_rfl
theorem hb122 : hasBody 122 = true := by kernel_rfl
theorem hb55 : hasBody 55 = true := by kernel_rfl
theorem hb56 : hasBody 56 = true := by kernel_rfl
theorem hb58 : hasBody 58 = true := by kernel_rfl
theorem hb61 : hasBody 61 = true := by kernel_rfl
theorem hb63 : hasBody 63 = true := by kernel_rfl

theorem c55 {m : Meta19} (hm : OkMeta m) (σ : St) : Ret W 55 [pvMeta m] σ (.bool (longM m)) := by
  refine ret_of fun R hR => ?_
  rw [fn55_eq]
  unfold fn55
  obtain ⟨n, ls⟩ := m
  have hbox : opC.vBoxAny (.agg [.str n, pvLists ls]) = some (2, .agg [.str n, pvLists ls]) := rfl
  simp only [pvMeta, hbox, bindO_some_eq, bindO_none_eq, bindS_some, condW_true, condW_false, guardG_true, guardG_false, guardG_tf, guardG_ft, guardG_skip, pv_v, pv_loc, lookP_cons, lookE_cons, vPick_true, vPick_false, vUn_not, vExtract_tuple, vBin_lss, vBin_leq, vBin_gtr, vBin_geq, vBin_eql, vBin_neq, vBin_eql_str, vBin_neq_str, vLen_str, vLen_list, vLen_sref, vLoad_eptr, vPart_agg, vPart_two, vPart_str, vPart_bool, vPart_int, vPart_list, vField_eptr, vField_ptr, Nat.reduceEqDiff, Nat.zero_add, Nat.add_zero, if_true, if_false, decide_true, decide_false, Bool.not_true, Bool.not_false, List.getElem?_cons_zero, List.getElem?_cons_succ, Int.ofNat_lt, eq_self]
  simp only [pvLists, pvSl, List.length_map, bindO_some_eq, bindO_none_eq, bindS_some, condW_true, condW_false, guardG_true, guardG_false, guardG_tf, guardG_ft, guardG_skip, pv_v, pv_loc, lookP_cons, lookE_cons, vPick_true, vPick_false, vUn_not, vExtract_tuple, vBin_lss, vBin_leq, vBin_gtr, vBin_geq, vBin_eql, vBin_neq, vBin_eql_str, vBin_neq_str, vLen_str, vLen_list, vLen_sref, vLoad_eptr, vPart_agg, vPart_two, vPart_str, vPart_bool, vPart_int, vPart_list, vField_eptr, vField_ptr, Nat.reduceEqDiff, Nat.zero_add, Nat.add_zero, if_true, if_false, decide_true, decide_false, Bool.not_true, Bool.not_false, List.getElem?_cons_zero, List.getElem?_cons_succ, Int.ofNat_lt, eq_self]
  cases h1 : decide ((ls.2.length : Int) > 64) with
  | true =>
    simp only [bindO_some_eq, bindO_none_eq, bindS_some, condW_true, condW_false, guardG_true, guardG_false, guardG_tf, guardG_ft, guardG_skip, pv_v, pv_loc, lookP_cons, lookE_cons, vPick_true, vPick_false, vUn_not, vExtract_tuple, vBin_lss, vBin_leq, vBin_gtr, vBin_geq, vBin_eql, vBin_neq, vBin_eql_str, vBin_neq_str, vLen_str, vLen_list, vLen_sref, vLoad_eptr, vPart_agg, vPart_two, vPart_str, vPart_bool, vPart_int, vPart_list, vField_eptr, vField_ptr, Nat.reduceEqDiff, Nat.zero_add, Nat.add_zero, if_true, if_false, decide_true, decide_false, Bool.not_true, Bool.not_false, List.getElem?_cons_zero, List.getElem?_cons_succ, Int.ofNat_lt, eq_self]
    refine weakW_keep ?_
    simpa [longM, h1] using hR
  | false =>
    simp only [bindO_some_eq, bindO_none_eq, bindS_some, condW_true, condW_false, guardG_true, guardG_false, guardG_tf, guardG_ft, guardG_skip, pv_v, pv_loc, lookP_cons, lookE_cons, vPick_true, vPick_false, vUn_not, vExtract_tuple, vBin_lss, vBin_leq, vBin_gtr, vBin_geq, vBin_eql, vBin_neq, vBin_eql_str, vBin_neq_str, vLen_str, vLen_list, vLen_sref, vLoad_eptr, vPart_agg, vPart_two, vPart_str, vPart_bool, vPart_int, vPart_list, vField_eptr, vField_ptr, Nat.reduceEqDiff, Nat.zero_add, Nat.add_zero, if_true, if_false, decide_true, decide_false, Bool.not_true, Bool.not_false, List.getElem?_cons_zero, List.getElem?_cons_succ, Int.ofNat_lt, eq_self]
    refine (c51 encParts longL hb121 (Nat.lt_of_le_of_lt hm.alts.len (by decide)) fun l _ => c121 _).callB ?_
    try simp only [bindO_some_eq, bindO_none_eq, bindS_some, condW_true, condW_false, guardG_true, guardG_false, guardG_tf, guardG_ft, guardG_skip, pv_v, pv_loc, lookP_cons, lookE_cons, vPick_true, vPick_false, vUn_not, vExtract_tuple, vBin_lss, vBin_leq, vBin_gtr, vBin_geq, vBin_eql, vBin_neq, vBin_eql_str, vBin_neq_str, vLen_str, vLen_list, vLen_sref, vLoad_eptr, vPart_agg, vPart_two, vPart_str, vPart_bool, vPart_int, vPart_list, vField_eptr, vField_ptr, Nat.reduceEqDiff, Nat.zero_add, Nat.add_zero, if_true, if_false, decide_true, decide_false, Bool.not_true, Bool.not_false, List.getElem?_cons_zero, List.getElem?_cons_succ, Int.ofNat_lt, eq_self]
    refine weakW_keep ?_
    simpa [longM, h1] using hR

theorem c56 {r : Rule19} (hr : OkRule r) (σ : St) : Ret W 56 [pvRule r] σ (.bool (longR r)) := by
  refine ret_of fun R hR => ?_
  rw [fn56_eq]
  unfold fn56
  obtain ⟨l, ls⟩ := r
  have hbox : opC.vBoxAny (.agg [pvParts l, pvLists ls]) = some (2, .agg [pvParts l, pvLists ls]) := rfl
  simp only [pvRule, hbox, bindO_some_eq, bindO_none_eq, bindS_some, condW_true, condW_false, guardG_true, guardG_false, guardG_tf, guardG_ft, guardG_skip, pv_v, pv_loc, lookP_cons, lookE_cons, vPick_true, vPick_false, vUn_not, vExtract_tuple, vBin_lss, vBin_leq, vBin_gtr, vBin_geq, vBin_eql, vBin_neq, vBin_eql_str, vBin_neq_str, vLen_str, vLen_list, vLen_sref, vLoad_eptr, vPart_agg, vPart_two, vPart_str, vPart_bool, vPart_int, vPart_list, vField_eptr, vField_ptr, Nat.reduceEqDiff, Nat.zero_add, Nat.add_zero, if_true, if_false, decide_true, decide_false, Bool.not_true, Bool.not_false, List.getElem?_cons_zero, List.getElem?_cons_succ, Int.ofNat_lt, eq_self]
  simp only [pvLists, pvParts, pvSl, List.length_map, bindO_some_eq, bindO_none_eq, bindS_some, condW_true, condW_false, guardG_true, guardG_false, guardG_tf, guardG_ft, guardG_skip, pv_v, pv_loc, lookP_cons, lookE_cons, vPick_true, vPick_false, vUn_not, vExtract_tuple, vBin_lss, vBin_leq, vBin_gtr, vBin_geq, vBin_eql, vBin_neq, vBin_eql_str, vBin_neq_str, vLen_str, vLen_list, vLen_sref, vLoad_eptr, vPart_agg, vPart_two, vPart_str, vPart_bool, vPart_int, vPart_list, vField_eptr, vField_ptr, Nat.reduceEqDiff, Nat.zero_add, Nat.add_zero, if_true, if_false, decide_true, decide_false, Bool.not_true, Bool.not_false, List.getElem?_cons_zero, List.getElem?_cons_succ, Int.ofNat_lt, eq_self]
  cases h1 : decide ((ls.2.length : Int) > 64) with
  | true =>
    simp only [bindO_some_eq, bindO_none_eq, bindS_some, condW_true, condW_false, guardG_true, guardG_false, guardG_tf, guardG_ft, guardG_skip, pv_v, pv_loc, lookP_cons, lookE_cons, vPick_true, vPick_false, vUn_not, vExtract_tuple, vBin_lss, vBin_leq, vBin_gtr, vBin_geq, vBin_eql, vBin_neq, vBin_eql_str, vBin_neq_str, vLen_str, vLen_list, vLen_sref, vLoad_eptr, vPart_agg, vPart_two, vPart_str, vPart_bool, vPart_int, vPart_list, vField_eptr, vField_ptr, Nat.reduceEqDiff, Nat.zero_add, Nat.add_zero, if_true, if_false, decide_true, decide_false, Bool.not_true, Bool.not_false, List.getElem?_cons_zero, List.getElem?_cons_succ, Int.ofNat_lt, eq_self]
    refine weakW_keep ?_
    simpa [longR, h1] using hR
  | false =>
    simp only [bindO_some_eq, bindO_none_eq, bindS_some, condW_true, condW_false, guardG_true, guardG_false, guardG_tf, guardG_ft, guardG_skip, pv_v, pv_loc, lookP_cons, lookE_cons, vPick_true, vPick_false, vUn_not, vExtract_tuple, vBin_lss, vBin_leq, vBin_gtr, vBin_geq, vBin_eql, vBin_neq, vBin_eql_str, vBin_neq_str, vLen_str, vLen_list, vLen_sref, vLoad_eptr, vPart_agg, vPart_two, vPart_str, vPart_bool, vPart_int, vPart_list, vField_eptr, vField_ptr, Nat.reduceEqDiff, Nat.zero_add, Nat.add_zero, if_true, if_false, decide_true, decide_false, Bool.not_true, Bool.not_false, List.getElem?_cons_zero, List.getElem?_cons_succ, Int.ofNat_lt, eq_self]
    cases h2 : decide ((l.2.length : Int) > 64) with
    | true =>
      simp only [bindO_some_eq, bindO_none_eq, bindS_some, condW_true, condW_false, guardG_true, guardG_false, guardG_tf, guardG_ft, guardG_skip, pv_v, pv_loc, lookP_cons, lookE_cons, vPick_true, vPick_false, vUn_not, vExtract_tuple, vBin_lss, vBin_leq, vBin_gtr, vBin_geq, vBin_eql, vBin_neq, vBin_eql_str, vBin_neq_str, vLen_str, vLen_list, vLen_sref, vLoad_eptr, vPart_agg, vPart_two, vPart_str, vPart_bool, vPart_int, vPart_list, vField_eptr, vField_ptr, Nat.reduceEqDiff, Nat.zero_add, Nat.add_zero, if_true, if_false, decide_true, decide_false, Bool.not_true, Bool.not_false, List.getElem?_cons_zero, List.getElem?_cons_succ, Int.ofNat_lt, eq_self]
      refine weakW_keep ?_
      simpa [longR, h1, h2] using hR
    | false =>
      simp only [bindO_some_eq, bindO_none_eq, bindS_some, condW_true, condW_false, guardG_true, guardG_false, guardG_tf, guardG_ft, guardG_skip, pv_v, pv_loc, lookP_cons, lookE_cons, vPick_true, vPick_false, vUn_not, vExtract_tuple, vBin_lss, vBin_leq, vBin_gtr, vBin_geq, vBin_eql, vBin_neq, vBin_eql_str, vBin_neq_str, vLen_str, vLen_list, vLen_sref, vLoad_eptr, vPart_agg, vPart_two, vPart_str, vPart_bool, vPart_int, vPart_list, vField_eptr, vField_ptr, Nat.reduceEqDiff, Nat.zero_add, Nat.add_zero, if_true, if_false, decide_true, decide_false, Bool.not_true, Bool.not_false, List.getElem?_cons_zero, List.getElem?_cons_succ, Int.ofNat_lt, eq_self]
      refine (c51 encParts longL hb122 (Nat.lt_of_le_of_lt hr.right.len (by decide)) fun l _ => c122 _).callB ?_
      try simp only [bindO_some_eq, bindO_none_eq, bindS_some, condW_true, condW_false, guardG_true, guardG_false, guardG_tf, guardG_ft, guardG_skip, pv_v, pv_loc, lookP_cons, lookE_cons, vPick_true, vPick_false, vUn_not, vExtract_tuple, vBin_lss, vBin_leq, vBin_gtr, vBin_geq, vBin_eql, vBin_neq, vBin_eql_str, vBin_neq_str, vLen_str, vLen_list, vLen_sref, vLoad_eptr, vPart_agg, vPart_two, vPart_str, vPart_bool, vPart_int, vPart_list, vField_eptr, vField_ptr, Nat.reduceEqDiff, Nat.zero_add, Nat.add_zero, if_true, if_false, decide_true, decide_false, Bool.not_true, Bool.not_false, List.getElem?_cons_zero, List.getElem?_cons_succ, Int.ofNat_lt, eq_self]
      refine weakW_keep ?_
      simpa [longR, h1, h2] using hR

/-! ### Wrong parts of lists -/

def badL (d : Bool) (l : Sl Part) : Bool := l.2.any (badPart d)

theorem c58 {l : Sl Part} (hl : OkParts l) (σ : St) : Ret W 58 [pvParts l] σ (.bool (badL false l)) := by
  refine ret_of fun R hR => ?_
  rw [fn58_eq]
  unfold fn58
  refine (c59 (Nat.lt_of_le_of_lt hl.len (by decide)) hl.okS).callB ?_
  simp only [Bool.not_not, bindO_some_eq, bindO_none_eq, bindS_some, condW_true, condW_false, guardG_true, guardG_false, guardG_tf, guardG_ft, guardG_skip, pv_v, pv_loc, lookP_cons, lookE_cons, vPick_true, vPick_false, vUn_not, vExtract_tuple, vBin_lss, vBin_leq, vBin_gtr, vBin_geq, vBin_eql, vBin_neq, vBin_eql_str, vBin_neq_str, vLen_str, vLen_list, vLen_sref, vLoad_eptr, vPart_agg, vPart_two, vPart_str, vPart_bool, vPart_int, vPart_list, vField_eptr, vField_ptr, Nat.reduceEqDiff, Nat.zero_add, Nat.add_zero, if_true, if_false, decide_true, decide_false, Bool.not_true, Bool.not_false, List.getElem?_cons_zero, List.getElem?_cons_succ, Int.ofNat_lt, eq_self]
  exact weakW_keep hR

/-- All lists of a rule, as one slice. -/
def allV (r : Rule19) : Sl (Sl Part) := (if r.2.2 = [] then .full else .part, ruleAll r)

theorem c60 {r : Rule19} (hr : OkRule r) (σ : St) : Ret W 60 [pvRule r] σ (pvLists (allV r)) := by
  refine ret_of fun R hR => ?_
  rw [fn60_eq]
  unfold fn60
  obtain ⟨l, k, ls⟩ := r
  have hbox : opC.vBoxAny (.agg [pvParts l, pvLists (k, ls)]) = some (2, .agg [pvParts l, pvLists (k, ls)]) := rfl
  simp only [pvRule, hbox, vBuildSl_one (sizedParts l), bindO_some_eq, bindO_none_eq, bindS_some, condW_true, condW_false, guardG_true, guardG_false, guardG_tf, guardG_ft, guardG_skip, pv_v, pv_loc, lookP_cons, lookE_cons, vPick_true, vPick_false, vUn_not, vExtract_tuple, vBin_lss, vBin_leq, vBin_gtr, vBin_geq, vBin_eql, vBin_neq, vBin_eql_str, vBin_neq_str, vLen_str, vLen_list, vLen_sref, vLoad_eptr, vPart_agg, vPart_two, vPart_str, vPart_bool, vPart_int, vPart_list, vField_eptr, vField_ptr, Nat.reduceEqDiff, Nat.zero_add, Nat.add_zero, if_true, if_false, decide_true, decide_false, Bool.not_true, Bool.not_false, List.getElem?_cons_zero, List.getElem?_cons_succ, Int.ofNat_lt, eq_self]
  cases ls with
  | nil =>
    have e : vAppend 1 24 (.list .full [pvParts l]) (pvLists (k, [])) σ = some (.list .full [pvParts l], σ) := rfl
    simp only [e, bindO_some_eq, bindO_none_eq, bindS_some, condW_true, condW_false, guardG_true, guardG_false, guardG_tf, guardG_ft, guardG_skip, pv_v, pv_loc, lookP_cons, lookE_cons, vPick_true, vPick_false, vUn_not, vExtract_tuple, vBin_lss, vBin_leq, vBin_gtr, vBin_geq, vBin_eql, vBin_neq, vBin_eql_str, vBin_neq_str, vLen_str, vLen_list, vLen_sref, vLoad_eptr, vPart_agg, vPart_two, vPart_str, vPart_bool, vPart_int, vPart_list, vField_eptr, vField_ptr, Nat.reduceEqDiff, Nat.zero_add, Nat.add_zero, if_true, if_false, decide_true, decide_false, Bool.not_true, Bool.not_false, List.getElem?_cons_zero, List.getElem?_cons_succ, Int.ofNat_lt, eq_self]
    refine weakW_keep ?_
    simpa [allV, ruleAll, pvLists, pvSl] using hR
  | cons a ls =>
    have hlen := hr.right.len
    simp only [List.length_cons] at hlen
    have e : vAppend 1 24 (.list .full [pvParts l]) (pvLists (k, a :: ls)) σ = some (.sref σ.length 0 1 0 (1 + (a :: ls).length), σ ++ [.arr 0 1 (pvParts l :: (a :: ls).map pvParts)]) := by
      have hroom : roomy (1 + (a :: ls).length) 24 = true := by simp [roomy]; omega
      simp only [vAppend, pvLists, pvSl, vElems]
      simp only [List.map_cons, List.isEmpty_cons, Bool.false_eq_true, if_false, List.length_cons, List.length_nil, List.length_map, Nat.zero_add]
      rw [if_pos ⟨by simp, hroom, rfl, rfl⟩]
      rfl
    simp only [e, bindO_some_eq, bindO_none_eq, bindS_some, condW_true, condW_false, guardG_true, guardG_false, guardG_tf, guardG_ft, guardG_skip, pv_v, pv_loc, lookP_cons, lookE_cons, vPick_true, vPick_false, vUn_not, vExtract_tuple, vBin_lss, vBin_leq, vBin_gtr, vBin_geq, vBin_eql, vBin_neq, vBin_eql_str, vBin_neq_str, vLen_str, vLen_list, vLen_sref, vLoad_eptr, vPart_agg, vPart_two, vPart_str, vPart_bool, vPart_int, vPart_list, vField_eptr, vField_ptr, Nat.reduceEqDiff, Nat.zero_add, Nat.add_zero, if_true, if_false, decide_true, decide_false, Bool.not_true, Bool.not_false, List.getElem?_cons_zero, List.getElem?_cons_succ, Int.ofNat_lt, eq_self]
    refine weakW_clean ⟨_, rfl⟩ (v' := .list .part (pvParts l :: (a :: ls).map pvParts)) ?_ ?_
    · refine .sref _ _ _ _ _ 0 1 _ _ (new_get _ _) rfl (Nat.le_refl _) (by simp; omega) (by simp; omega) fun i x y hi hx hy => ?_
      rw [Nat.zero_add, hy] at hx
      cases hx
      refine .base _ ?_
      have hm := List.mem_of_getElem? hy
      rw [← List.map_cons] at hm
      obtain ⟨p, _, rfl⟩ := List.mem_map.1 hm
      exact underParts _ p
    · simpa [allV, ruleAll, pvLists, pvSl] using hR

/-! ### The names that are known -/

def pvKnown (seen : List Str) : List (PV × PV) := seen.map fun s => (.str s, .bool true)

theorem find_known (s : Str) : ∀ (seen : List Str) (i : Nat), ∃ o, vFind .str (.str s) (pvKnown seen) i = some o ∧ (match o with
    | some (_, v) => v = .bool true ∧ seen.contains s = true
    | none => seen.contains s = false)
  | [], i => ⟨none, rfl, rfl⟩
  | a :: l, i => by
    obtain ⟨o, h1, h2⟩ := find_known s l (i + 1)
    by_cases h : s = a
    · subst h
      exact ⟨some (i, .bool true), by simp [pvKnown, vFind, vEqS], rfl, by simp⟩
    · have hb : (s == a) = false := by simpa using h
      refine ⟨o, ?_, ?_⟩
      · simp only [pvKnown, List.map_cons, vFind, vEqS, hb]
        exact h1
      · cases o with
        | none => simp only [List.contains_cons, hb, Bool.false_or]; exact h2
        | some p => exact ⟨h2.1, by simp only [List.contains_cons, hb, Bool.false_or]; exact h2.2⟩

theorem lookup_known {σ : St} {b v : Nat} {seen : List Str} (h : σ[b]? = some (.map v (pvKnown seen))) (s : Str) : vLookup .str (.bool false) false (.mref b) (.str s) σ = some (.bool (seen.contains s)) := by
  obtain ⟨o, h1, h2⟩ := find_known s seen 0
  simp only [vLookup, h, isKey, if_true, h1]
  cases o with
  | none =>
    rw [show seen.contains s = false from h2]
    rfl
  | some p =>
    obtain ⟨i, x⟩ := p
    obtain ⟨rfl, h3⟩ := h2
    rw [h3]
    rfl

theorem set_known {σ : St} {b v : Nat} {seen : List Str} (h : σ[b]? = some (.map v (pvKnown seen))) {s : Str} (hs : seen.contains s = false) : vMapSet .str (.mref b) (.str s) (.bool true) σ = some (σ.set b (.map (v + 1) (pvKnown (seen ++ [s])))) := by
  obtain ⟨o, h1, h2⟩ := find_known s seen 0
  cases o with
  | some p => rw [hs] at h2; exact absurd h2.2 (by simp)
  | none => simp only [vMapSet, h, isKey, if_true, h1]; simp [pvKnown]

/-- A parameter whose metanotion is not known. -/
def unkPart (names : List Str) (p : Part) : Bool := p.1 && !names.contains (metaOf p.2)
def unkL (names : List Str) (l : Sl Part) : Bool := l.2.any (unkPart names)

theorem c63 {p : Part} (hp : okS p.2) {σ : St} {c b v : Nat} {names : List Str} (hc : σ[c]? = some (.arr 0 1 [.mref b])) (hb : σ[b]? = some (.map v (pvKnown names))) : Ret W 63 [pvPart p, .ptr c 0 0 0] σ (.bool (unkPart names p)) := by
  refine ret_of fun R hR => ?_
  rw [fn63_eq]
  unfold fn63
  obtain ⟨m, t⟩ := p
  have hbox : opC.vBoxAny (.agg [.bool m, .str t]) = some (2, .agg [.bool m, .str t]) := rfl
  have hld : vLoad false 1 (.ptr c 0 0 0) σ = some (.mref b) := by simp [vLoad, hc, vPart, PV.cells?]
  simp only [pvPart, hbox, bindO_some_eq, bindO_none_eq, bindS_some, condW_true, condW_false, guardG_true, guardG_false, guardG_tf, guardG_ft, guardG_skip, pv_v, pv_loc, lookP_cons, lookE_cons, vPick_true, vPick_false, vUn_not, vExtract_tuple, vBin_lss, vBin_leq, vBin_gtr, vBin_geq, vBin_eql, vBin_neq, vBin_eql_str, vBin_neq_str, vLen_str, vLen_list, vLen_sref, vLoad_eptr, vPart_agg, vPart_two, vPart_str, vPart_bool, vPart_int, vPart_list, vField_eptr, vField_ptr, Nat.reduceEqDiff, Nat.zero_add, Nat.add_zero, if_true, if_false, decide_true, decide_false, Bool.not_true, Bool.not_false, List.getElem?_cons_zero, List.getElem?_cons_succ, Int.ofNat_lt, eq_self]
  cases m with
  | false =>
    simp only [bindO_some_eq, bindO_none_eq, bindS_some, condW_true, condW_false, guardG_true, guardG_false, guardG_tf, guardG_ft, guardG_skip, pv_v, pv_loc, lookP_cons, lookE_cons, vPick_true, vPick_false, vUn_not, vExtract_tuple, vBin_lss, vBin_leq, vBin_gtr, vBin_geq, vBin_eql, vBin_neq, vBin_eql_str, vBin_neq_str, vLen_str, vLen_list, vLen_sref, vLoad_eptr, vPart_agg, vPart_two, vPart_str, vPart_bool, vPart_int, vPart_list, vField_eptr, vField_ptr, Nat.reduceEqDiff, Nat.zero_add, Nat.add_zero, if_true, if_false, decide_true, decide_false, Bool.not_true, Bool.not_false, List.getElem?_cons_zero, List.getElem?_cons_succ, Int.ofNat_lt, eq_self]
    refine weakW_keep ?_
    simpa [unkPart] using hR
  | true =>
    simp only [hld, bindO_some_eq, bindO_none_eq, bindS_some, condW_true, condW_false, guardG_true, guardG_false, guardG_tf, guardG_ft, guardG_skip, pv_v, pv_loc, lookP_cons, lookE_cons, vPick_true, vPick_false, vUn_not, vExtract_tuple, vBin_lss, vBin_leq, vBin_gtr, vBin_geq, vBin_eql, vBin_neq, vBin_eql_str, vBin_neq_str, vLen_str, vLen_list, vLen_sref, vLoad_eptr, vPart_agg, vPart_two, vPart_str, vPart_bool, vPart_int, vPart_list, vField_eptr, vField_ptr, Nat.reduceEqDiff, Nat.zero_add, Nat.add_zero, if_true, if_false, decide_true, decide_false, Bool.not_true, Bool.not_false, List.getElem?_cons_zero, List.getElem?_cons_succ, Int.ofNat_lt, eq_self]
    refine (c64 hp _).callC ?_
    simp only [lookup_known hb, bindO_some_eq, bindO_none_eq, bindS_some, condW_true, condW_false, guardG_true, guardG_false, guardG_tf, guardG_ft, guardG_skip, pv_v, pv_loc, lookP_cons, lookE_cons, vPick_true, vPick_false, vUn_not, vExtract_tuple, vBin_lss, vBin_leq, vBin_gtr, vBin_geq, vBin_eql, vBin_neq, vBin_eql_str, vBin_neq_str, vLen_str, vLen_list, vLen_sref, vLoad_eptr, vPart_agg, vPart_two, vPart_str, vPart_bool, vPart_int, vPart_list, vField_eptr, vField_ptr, Nat.reduceEqDiff, Nat.zero_add, Nat.add_zero, if_true, if_false, decide_true, decide_false, Bool.not_true, Bool.not_false, List.getElem?_cons_zero, List.getElem?_cons_succ, Int.ofNat_lt, eq_self]
    refine weakW_keep ?_
    simpa [unkPart] using hR

theorem c61 {l : Sl Part} (hl : OkParts l) {σ : St} {c b v : Nat} {names : List Str} (hc : σ[c]? = some (.arr 0 1 [.mref b])) (hb : σ[b]? = some (.map v (pvKnown names))) : Ret W 61 [pvParts l, .ptr c 0 0 0] σ (.bool (unkL names l)) := by
  refine ret_of fun R hR => ?_
  rw [fn61_eq]
  unfold fn61
  refine (c62 encPart (unkPart names) hb63 (Nat.lt_of_le_of_lt hl.len (by decide)) fun p hp => c63 (hl.okS p hp) hc hb).callB ?_
  exact weakW_keep hR

/-! ### Check -/

/-- The first error of the metarules, some names seen. -/
def metasErr : List Meta19 → List Str → Int
  | [], _ => 0
  | m :: ms, seen => if !isMeta m.1 then 8 else if seen.contains m.1 then 5 else if m.2.2.length = 0 then 12 else if m.2.2.any (badL false) then 8 else metasErr ms (seen ++ [m.1])

def listsErr : List (Sl Part) → Int
  | [] => 0
  | l :: ls => if l.2.length = 0 then 12 else if badL true l then 8 else listsErr ls

def rulesErr : List Rule19 → Int
  | [] => 0
  | r :: rs => if listsErr (ruleAll r) = 0 then rulesErr rs else listsErr (ruleAll r)

def names (g : Gram) : List Str := g.1.2.map (·.1)

def tooLong (g : Gram) : Bool := decide ((g.1.2.length : Int) > 100) || (decide ((g.2.2.length : Int) > 500) || (g.1.2.any longM || g.2.2.any longR))

def checkG (g : Gram) : Int :=
  if tooLong g then 3
  else if metasErr g.1.2 [] = 0 then
    if rulesErr g.2.2 = 0 then
      if g.1.2.any (fun m => m.2.2.any (unkL (names g))) then 4
      else if g.2.2.any (fun r => (ruleAll r).any (unkL (names g))) then 4 else 0
    else rulesErr g.2.2
  else metasErr g.1.2 []

end Go.Proofs.YtiniifbmeobmgaaGreatDoor
