/- Means: the program's and the reference's. -/
import Derived.Test.YtiniifbmeobmgaaGreatDoorSpecD
set_option linter.unusedVariables false
set_option linter.unusedSimpArgs false
namespace Go.Proofs.YtiniifbmeobmgaaGreatDoor
open Go Go.Abs

theorem c97 {b : Bind} {p : Part} {σ : St} {c : Nat} (hc : σ[c]? = some (.arr 0 2 [pvPart p])) : Ret W 97 [pvBind b, .ptr c 0 0 0] σ (.bool (b.1 == p.2)) := by
  obtain ⟨n, v⟩ := b
  obtain ⟨m, t⟩ := p
  refine ret_of fun R hR => ?_
  rw [fn97_eq]
  unfold fn97
  have hbox : opC.vBoxAny (.agg [.str n, .str v]) = some (2, .agg [.str n, .str v]) := rfl
  have hld : vLoad false 1 (.ptr c 0 0 1) σ = some (.str t) := by simp [vLoad, hc, pvPart]
  simp only [pvBind, hbox, hld, bindO_some_eq, bindO_none_eq, bindS_some, condW_true, condW_false, guardG_true, guardG_false, guardG_tf, guardG_ft, guardG_skip, pv_v, pv_loc, lookP_cons, lookE_cons, vPick_true, vPick_false, vUn_not, vExtract_tuple, vBin_lss, vBin_leq, vBin_gtr, vBin_geq, vBin_eql, vBin_neq, vBin_eql_str, vBin_neq_str, vLen_str, vLen_list, vLen_sref, vLoad_eptr, vPart_agg, vPart_two, vPart_str, vPart_bool, vPart_int, vPart_list, vField_eptr, vField_ptr, Nat.reduceEqDiff, Nat.zero_add, Nat.add_zero, if_true, if_false, decide_true, decide_false, Bool.not_true, Bool.not_false, List.getElem?_cons_zero, List.getElem?_cons_succ, Int.ofNat_lt, eq_self]
  exact weakW_keep hR

/-- The value of a name. -/
def valueOf (binds : List Bind) (n : Str) : Option Str := (binds.find? fun b => b.1 == n).map (·.2)

theorem find_take {α : Type} {p : α → Bool} {l : List α} {i : Nat} {a : α} (h : l[i]? = some a) (hp : p a = true) (hn : (l.take i).all (fun a => !p a) = true) : l.find? p = some a := by
  have : l = l.take i ++ a :: l.drop (i + 1) := by
    have h1 := List.take_append_drop i l
    have h2 : l.drop i = a :: l.drop (i + 1) := by
      rw [List.drop_eq_getElem_cons (List.getElem?_eq_some_iff.1 h).1, (List.getElem?_eq_some_iff.1 h).2]
    rw [h2] at h1
    exact h1.symm
  rw [this, List.find?_append, List.find?_eq_none.2, Option.none_or, List.find?_cons, hp]
  intro x hx
  have := List.all_eq_true.1 hn x hx
  simpa using this

theorem find_none {α : Type} {p : α → Bool} {l : List α} (hn : l.all (fun a => !p a) = true) : l.find? p = none := by
  rw [List.find?_eq_none]
  intro x hx
  have := List.all_eq_true.1 hn x hx
  simpa using this

theorem c99 {binds : List Bind} (hl : binds.length < 4611686018427387904) {x : PV} {n : Str} {σ : St} (hx : Elems σ 2 x (binds.map pvBind)) :
    Ret W 99 [x, .str n] σ (match valueOf binds n with
      | some v => .tuple [.str v, .bool true]
      | none => .tuple [.str [], .bool false]) := by
  refine ret_of fun R hR => ?_
  rw [fn99_eq]
  unfold fn99
  refine CutW_of ?_
  refine Lfp_up binds.length (fun i y σ' => y = lookP [(0, x), (1, .str n), (6, .int .i64 i)] ∧ σ' = σ ∧ (binds.take i).all (fun b => !(b.1 == n)) = true) ?_ ⟨rfl, rfl, rfl⟩
  rintro Φ i y σ' hi ⟨rfl, rfl, hp⟩ next
  simp only [hx.len, List.length_map, bindO_some_eq, bindO_none_eq, bindS_some, condW_true, condW_false, guardG_true, guardG_false, guardG_tf, guardG_ft, guardG_skip, pv_v, pv_loc, lookP_cons, lookE_cons, vPick_true, vPick_false, vUn_not, vExtract_tuple, vBin_lss, vBin_leq, vBin_gtr, vBin_geq, vBin_eql, vBin_neq, vBin_eql_str, vBin_neq_str, vLen_str, vLen_list, vLen_sref, vLoad_eptr, vPart_agg, vPart_two, vPart_str, vPart_bool, vPart_int, vPart_list, vField_eptr, vField_ptr, Nat.reduceEqDiff, Nat.zero_add, Nat.add_zero, if_true, if_false, decide_true, decide_false, Bool.not_true, Bool.not_false, List.getElem?_cons_zero, List.getElem?_cons_succ, Int.ofNat_lt, eq_self]
  by_cases hlt : i < binds.length
  · have hc : binds[i]? = some binds[i] := by simp [hlt]
    generalize binds[i] = b at hc
    obtain ⟨q, q1, q2, q3⟩ := hx.at_ (i := i) (k := .i64) (by rw [List.getElem?_map, hc]; rfl) (show (pvBind b).cells? = some _ from rfl) rfl
    obtain ⟨r0, r1, r2⟩ := q3 0
    obtain ⟨r3, r4, r5⟩ := q3 1
    obtain ⟨m, v⟩ := b
    simp only [hlt, q1, r1, r2, r4, r5, pvBind, bindO_some_eq, bindO_none_eq, bindS_some, condW_true, condW_false, guardG_true, guardG_false, guardG_tf, guardG_ft, guardG_skip, pv_v, pv_loc, lookP_cons, lookE_cons, vPick_true, vPick_false, vUn_not, vExtract_tuple, vBin_lss, vBin_leq, vBin_gtr, vBin_geq, vBin_eql, vBin_neq, vBin_eql_str, vBin_neq_str, vLen_str, vLen_list, vLen_sref, vLoad_eptr, vPart_agg, vPart_two, vPart_str, vPart_bool, vPart_int, vPart_list, vField_eptr, vField_ptr, Nat.reduceEqDiff, Nat.zero_add, Nat.add_zero, if_true, if_false, decide_true, decide_false, Bool.not_true, Bool.not_false, List.getElem?_cons_zero, List.getElem?_cons_succ, Int.ofNat_lt, eq_self]
    cases hm : (m == n) with
    | true =>
      simp only [bindO_some_eq, bindO_none_eq, bindS_some, condW_true, condW_false, guardG_true, guardG_false, guardG_tf, guardG_ft, guardG_skip, pv_v, pv_loc, lookP_cons, lookE_cons, vPick_true, vPick_false, vUn_not, vExtract_tuple, vBin_lss, vBin_leq, vBin_gtr, vBin_geq, vBin_eql, vBin_neq, vBin_eql_str, vBin_neq_str, vLen_str, vLen_list, vLen_sref, vLoad_eptr, vPart_agg, vPart_two, vPart_str, vPart_bool, vPart_int, vPart_list, vField_eptr, vField_ptr, Nat.reduceEqDiff, Nat.zero_add, Nat.add_zero, if_true, if_false, decide_true, decide_false, Bool.not_true, Bool.not_false, List.getElem?_cons_zero, List.getElem?_cons_succ, Int.ofNat_lt, eq_self]
      refine weakW_keep ?_
      have : valueOf binds n = some v := by
        unfold valueOf
        rw [find_take hc hm hp]
        rfl
      rw [this] at hR
      exact hR
    | false =>
      simp only [bindO_some_eq, bindO_none_eq, bindS_some, condW_true, condW_false, guardG_true, guardG_false, guardG_tf, guardG_ft, guardG_skip, pv_v, pv_loc, lookP_cons, lookE_cons, vPick_true, vPick_false, vUn_not, vExtract_tuple, vBin_lss, vBin_leq, vBin_gtr, vBin_geq, vBin_eql, vBin_neq, vBin_eql_str, vBin_neq_str, vLen_str, vLen_list, vLen_sref, vLoad_eptr, vPart_agg, vPart_two, vPart_str, vPart_bool, vPart_int, vPart_list, vField_eptr, vField_ptr, Nat.reduceEqDiff, Nat.zero_add, Nat.add_zero, if_true, if_false, decide_true, decide_false, Bool.not_true, Bool.not_false, List.getElem?_cons_zero, List.getElem?_cons_succ, Int.ofNat_lt, eq_self]
      rw [vBin_add _ (by omega) (by omega)]
      exact next _ _ hlt ⟨by simp, rfl, all_take_succ hp hc (by simp [hm])⟩
  · obtain rfl : i = binds.length := by omega
    rw [List.take_length] at hp
    simp only [hlt, bindO_some_eq, bindO_none_eq, bindS_some, condW_true, condW_false, guardG_true, guardG_false, guardG_tf, guardG_ft, guardG_skip, pv_v, pv_loc, lookP_cons, lookE_cons, vPick_true, vPick_false, vUn_not, vExtract_tuple, vBin_lss, vBin_leq, vBin_gtr, vBin_geq, vBin_eql, vBin_neq, vBin_eql_str, vBin_neq_str, vLen_str, vLen_list, vLen_sref, vLoad_eptr, vPart_agg, vPart_two, vPart_str, vPart_bool, vPart_int, vPart_list, vField_eptr, vField_ptr, Nat.reduceEqDiff, Nat.zero_add, Nat.add_zero, if_true, if_false, decide_true, decide_false, Bool.not_true, Bool.not_false, List.getElem?_cons_zero, List.getElem?_cons_succ, Int.ofNat_lt, eq_self]
    refine weakW_keep ?_
    have : valueOf binds n = none := by
      unfold valueOf
      rw [find_none hp]
      rfl
    rw [this] at hR
    exact hR

/-! ### The reference's words -/

/-- The pieces of a text, from a place on, one begun. -/
theorem splitB_app (c : UInt8) : ∀ (a b : Str), c ∉ a → splitB c (a ++ b) = match splitB c b with
    | x :: xs => (a ++ x) :: xs
    | [] => [a]
  | [], b, h => by
    cases hb : splitB c b with
    | nil => exact absurd hb (splitB_ne c b)
    | cons x xs => simp [hb]
  | d :: a, b, h => by
    have hd : d ≠ c := fun e => h (by simp [e])
    have ih := splitB_app c a b (fun hm => h (by simp [hm]))
    simp only [List.cons_append, splitB]
    rw [if_neg (by simpa using hd), ih]
    cases hb : splitB c b with
    | nil => exact absurd hb (splitB_ne c b)
    | cons x xs => rfl

theorem splitB_end (c : UInt8) (a : Str) (h : c ∉ a) : splitB c a = [a] := by
  have := splitB_app c a [] h
  simpa [splitB] using this

theorem splitB_sep (c : UInt8) (a b : Str) (h : c ∉ a) : splitB c (a ++ c :: b) = a :: splitB c b := by
  rw [splitB_app c a _ h]
  simp [splitB]

theorem c100 {s : Str} (hs : s.length < 4294967281) (σ : St) : Ret W 100 [.str s] σ (.tuple [if wordsOk s then growV ((wordsL s).map .str) else .list .nil [], .bool (wordsOk s)]) := by
  refine ret_of fun R hR => ?_
  rw [fn100_eq]
  unfold fn100
  simp only [bindO_some_eq, bindO_none_eq, bindS_some, condW_true, condW_false, guardG_true, guardG_false, guardG_tf, guardG_ft, guardG_skip, pv_v, pv_loc, lookP_cons, lookE_cons, vPick_true, vPick_false, vUn_not, vExtract_tuple, vBin_lss, vBin_leq, vBin_gtr, vBin_geq, vBin_eql, vBin_neq, vBin_eql_str, vBin_neq_str, vLen_str, vLen_list, vLen_sref, vLoad_eptr, vPart_agg, vPart_two, vPart_str, vPart_bool, vPart_int, vPart_list, vField_eptr, vField_ptr, Nat.reduceEqDiff, Nat.zero_add, Nat.add_zero, if_true, if_false, decide_true, decide_false, Bool.not_true, Bool.not_false, List.getElem?_cons_zero, List.getElem?_cons_succ, Int.ofNat_lt, eq_self]
  cases he : (s == []) with
  | true =>
    simp only [bindO_some_eq, bindO_none_eq, bindS_some, condW_true, condW_false, guardG_true, guardG_false, guardG_tf, guardG_ft, guardG_skip, pv_v, pv_loc, lookP_cons, lookE_cons, vPick_true, vPick_false, vUn_not, vExtract_tuple, vBin_lss, vBin_leq, vBin_gtr, vBin_geq, vBin_eql, vBin_neq, vBin_eql_str, vBin_neq_str, vLen_str, vLen_list, vLen_sref, vLoad_eptr, vPart_agg, vPart_two, vPart_str, vPart_bool, vPart_int, vPart_list, vField_eptr, vField_ptr, Nat.reduceEqDiff, Nat.zero_add, Nat.add_zero, if_true, if_false, decide_true, decide_false, Bool.not_true, Bool.not_false, List.getElem?_cons_zero, List.getElem?_cons_succ, Int.ofNat_lt, eq_self]
    refine weakW_keep ?_
    have : wordsL s = [] := by simp [wordsL, he]
    simpa [wordsOk, this, growV] using hR
  | false =>
    simp only [bindO_some_eq, bindO_none_eq, bindS_some, condW_true, condW_false, guardG_true, guardG_false, guardG_tf, guardG_ft, guardG_skip, pv_v, pv_loc, lookP_cons, lookE_cons, vPick_true, vPick_false, vUn_not, vExtract_tuple, vBin_lss, vBin_leq, vBin_gtr, vBin_geq, vBin_eql, vBin_neq, vBin_eql_str, vBin_neq_str, vLen_str, vLen_list, vLen_sref, vLoad_eptr, vPart_agg, vPart_two, vPart_str, vPart_bool, vPart_int, vPart_list, vField_eptr, vField_ptr, Nat.reduceEqDiff, Nat.zero_add, Nat.add_zero, if_true, if_false, decide_true, decide_false, Bool.not_true, Bool.not_false, List.getElem?_cons_zero, List.getElem?_cons_succ, Int.ofNat_lt, eq_self]
    have hwl : wordsL s = splitB 32 s := by simp [wordsL, he]
    -- what is done, and what is left
    refine CutW_by (fun x σ' => ∃ ys : List Str, Grow σ.length 1 σ' (x 4) (ys.map .str) ∧ σ <+: σ' ∧ wordsL s = ys ∧ wordsOk s = true) ?_ ?_
    · rintro x σ' ⟨ys, hg, hp, hw, hok⟩
      rw [hok, hw] at hR
      refine weakW_clean hp (v' := .tuple [growV (ys.map .str), .bool true]) ?_ hR
      refine .tuple _ _ rfl fun i a b ha hb => ?_
      match i with
      | 0 =>
        simp at ha hb
        subst ha hb
        exact hg.frz fun y hy => by
          obtain ⟨t, _, rfl⟩ := List.mem_map.1 hy
          exact .base _ (.str _)
      | 1 => simp at ha hb; subst ha hb; exact .base _ (.bool _)
      | i + 2 => simp at ha
    · refine Lfp_up (s.length + 1) (fun i x σ' => ∃ (v : PV) (ys : List Str) (from_ : Nat), x = lookP [(0, .str s), (4, v), (5, .int .i64 from_), (6, .int .i64 i)] ∧ Grow σ.length 1 σ' v (ys.map .str) ∧ σ <+: σ' ∧ ys.length ≤ i ∧ ys.all isWord = true ∧
          (i ≤ s.length → from_ ≤ i ∧ (32 : UInt8) ∉ (s.take i).drop from_ ∧ splitB 32 s = ys ++ splitB 32 (s.drop from_)) ∧ (i = s.length + 1 → splitB 32 s = ys)) ?_ ⟨.list .nil [], [], 0, rfl, .nil _ _ _, List.prefix_rfl, Nat.zero_le _, rfl, fun _ => ⟨Nat.le_refl _, by simp, rfl⟩, fun h => by omega⟩
      rintro Φ i x σ' hi ⟨v, ys, from_, rfl, hg, hp, hyl, hok, h1, h2⟩ next
      simp only [bindO_some_eq, bindO_none_eq, bindS_some, condW_true, condW_false, guardG_true, guardG_false, guardG_tf, guardG_ft, guardG_skip, pv_v, pv_loc, lookP_cons, lookE_cons, vPick_true, vPick_false, vUn_not, vExtract_tuple, vBin_lss, vBin_leq, vBin_gtr, vBin_geq, vBin_eql, vBin_neq, vBin_eql_str, vBin_neq_str, vLen_str, vLen_list, vLen_sref, vLoad_eptr, vPart_agg, vPart_two, vPart_str, vPart_bool, vPart_int, vPart_list, vField_eptr, vField_ptr, Nat.reduceEqDiff, Nat.zero_add, Nat.add_zero, if_true, if_false, decide_true, decide_false, Bool.not_true, Bool.not_false, List.getElem?_cons_zero, List.getElem?_cons_succ, Int.ofNat_lt, eq_self]
      by_cases hlt : (i : Int) ≤ (s.length : Int)
      · have hle : i ≤ s.length := by omega
        obtain ⟨hf, hno, hsp⟩ := h1 hle
        simp only [hlt, bindO_some_eq, bindO_none_eq, bindS_some, condW_true, condW_false, guardG_true, guardG_false, guardG_tf, guardG_ft, guardG_skip, pv_v, pv_loc, lookP_cons, lookE_cons, vPick_true, vPick_false, vUn_not, vExtract_tuple, vBin_lss, vBin_leq, vBin_gtr, vBin_geq, vBin_eql, vBin_neq, vBin_eql_str, vBin_neq_str, vLen_str, vLen_list, vLen_sref, vLoad_eptr, vPart_agg, vPart_two, vPart_str, vPart_bool, vPart_int, vPart_list, vField_eptr, vField_ptr, Nat.reduceEqDiff, Nat.zero_add, Nat.add_zero, if_true, if_false, decide_true, decide_false, Bool.not_true, Bool.not_false, List.getElem?_cons_zero, List.getElem?_cons_succ, Int.ofNat_lt, eq_self]
        refine CutW_by (fun x σ'' => ∃ (v : PV) (ys : List Str) (from_ : Nat), x = lookP [(0, .str s), (4, v), (5, .int .i64 from_), (6, .int .i64 i)] ∧ Grow σ.length 1 σ'' v (ys.map .str) ∧ σ <+: σ'' ∧ ys.length ≤ i + 1 ∧ ys.all isWord = true ∧
          (i + 1 ≤ s.length → from_ ≤ i + 1 ∧ (32 : UInt8) ∉ (s.take (i + 1)).drop from_ ∧ splitB 32 s = ys ++ splitB 32 (s.drop from_)) ∧ (i = s.length → splitB 32 s = ys)) ?_ ?_
        · rintro x σ'' ⟨v, ys, from_, rfl, hg, hp, hyl, hok, h1, h2⟩
          simp only [bindO_some_eq, bindO_none_eq, bindS_some, condW_true, condW_false, guardG_true, guardG_false, guardG_tf, guardG_ft, guardG_skip, pv_v, pv_loc, lookP_cons, lookE_cons, vPick_true, vPick_false, vUn_not, vExtract_tuple, vBin_lss, vBin_leq, vBin_gtr, vBin_geq, vBin_eql, vBin_neq, vBin_eql_str, vBin_neq_str, vLen_str, vLen_list, vLen_sref, vLoad_eptr, vPart_agg, vPart_two, vPart_str, vPart_bool, vPart_int, vPart_list, vField_eptr, vField_ptr, Nat.reduceEqDiff, Nat.zero_add, Nat.add_zero, if_true, if_false, decide_true, decide_false, Bool.not_true, Bool.not_false, List.getElem?_cons_zero, List.getElem?_cons_succ, Int.ofNat_lt, eq_self]
          rw [vBin_add _ (by omega) (by omega)]
          exact next _ _ (by omega) ⟨v, ys, from_, by simp, hg, hp, hyl, hok, h1, fun h => h2 (by omega)⟩
        · have sub : vSubStr (.str s) (some (.int .i64 from_)) (some (.int .i64 i)) = some (.str ((s.take i).drop from_)) := by
            simp [vSubStr, bound, hf, hle]
          -- a word ends here
          have ends : (i = s.length ∨ s[i]? = some 32) → bindO False (vSubStr (.str s) (some (.int .i64 from_)) (some (.int .i64 i))) (fun v20 =>
              callB W 130 [v20] σ' (fun v21 σ22 =>
              bindO False (vUn .not v21) fun v23 =>
              condW v23 (
              weakW σ (.tuple [(.list .nil []), (.bool false)]) σ22 fun v σ => R (.ret v) σ) (
              bindO False (vSubStr (.str s) (some (.int .i64 from_)) (some (.int .i64 i))) fun v24 =>
              bindO False (vBuildSl 1 (List.replicate 1 (.str [])) [(0, v24)]) fun v25 =>
              bindS (vAppend 1 16 v (.list .full v25) σ22) fun v26 σ27 =>
              bindO False (vBin none .add (.int .i64 i) (.int .i64 1)) fun v28 =>
              (fun x σ'' => ∃ (v : PV) (ys : List Str) (from_ : Nat), x = lookP [(0, .str s), (4, v), (5, .int .i64 from_), (6, .int .i64 i)] ∧ Grow σ.length 1 σ'' v (ys.map .str) ∧ σ <+: σ'' ∧ ys.length ≤ i + 1 ∧ ys.all isWord = true ∧
                (i + 1 ≤ s.length → from_ ≤ i + 1 ∧ (32 : UInt8) ∉ (s.take (i + 1)).drop from_ ∧ splitB 32 s = ys ++ splitB 32 (s.drop from_)) ∧ (i = s.length → splitB 32 s = ys)) (lookP [(0, .str s), (4, v26), (5, v28), (6, .int .i64 i)]) σ27)) (fun e29 σ30 => R (.pan e29) σ30)) := by
            intro hend
            have hpiece : splitB 32 s = ys ++ (s.take i).drop from_ :: (if i = s.length then [] else splitB 32 (s.drop (i + 1))) := by
              rw [hsp]
              congr 1
              have hdrop : s.drop from_ = (s.take i).drop from_ ++ s.drop i := by
                conv => lhs; rw [← List.take_append_drop i s]
                rw [List.drop_append_of_le_length (by simp; omega)]
              rcases hend with rfl | hc
              · rw [if_pos rfl, List.take_length]
                rw [List.take_length] at hno
                exact splitB_end _ _ hno
              · have hil : i < s.length := (List.getElem?_eq_some_iff.1 hc).1
                rw [if_neg (by omega), hdrop]
                rw [List.drop_eq_getElem_cons hil, (List.getElem?_eq_some_iff.1 hc).2]
                exact splitB_sep _ _ _ hno
            have hwlen : ((s.take i).drop from_).length < 4611686018427387904 := by simp; omega
            rw [sub]
            simp only [bindO_some_eq, bindO_none_eq, bindS_some, condW_true, condW_false, guardG_true, guardG_false, guardG_tf, guardG_ft, guardG_skip, pv_v, pv_loc, lookP_cons, lookE_cons, vPick_true, vPick_false, vUn_not, vExtract_tuple, vBin_lss, vBin_leq, vBin_gtr, vBin_geq, vBin_eql, vBin_neq, vBin_eql_str, vBin_neq_str, vLen_str, vLen_list, vLen_sref, vLoad_eptr, vPart_agg, vPart_two, vPart_str, vPart_bool, vPart_int, vPart_list, vField_eptr, vField_ptr, Nat.reduceEqDiff, Nat.zero_add, Nat.add_zero, if_true, if_false, decide_true, decide_false, Bool.not_true, Bool.not_false, List.getElem?_cons_zero, List.getElem?_cons_succ, Int.ofNat_lt, eq_self]
            refine (c130 hwlen _).callB ?_
            cases hw : isWord ((s.take i).drop from_) with
            | false =>
              simp only [bindO_some_eq, bindO_none_eq, bindS_some, condW_true, condW_false, guardG_true, guardG_false, guardG_tf, guardG_ft, guardG_skip, pv_v, pv_loc, lookP_cons, lookE_cons, vPick_true, vPick_false, vUn_not, vExtract_tuple, vBin_lss, vBin_leq, vBin_gtr, vBin_geq, vBin_eql, vBin_neq, vBin_eql_str, vBin_neq_str, vLen_str, vLen_list, vLen_sref, vLoad_eptr, vPart_agg, vPart_two, vPart_str, vPart_bool, vPart_int, vPart_list, vField_eptr, vField_ptr, Nat.reduceEqDiff, Nat.zero_add, Nat.add_zero, if_true, if_false, decide_true, decide_false, Bool.not_true, Bool.not_false, List.getElem?_cons_zero, List.getElem?_cons_succ, Int.ofNat_lt, eq_self]
              have : wordsOk s = false := by
                simp [wordsOk, hwl, hpiece, hw]
              rw [this] at hR
              refine weakW_clean hp (v' := .tuple [.list .nil [], .bool false]) ?_ hR
              refine .tuple _ _ rfl fun i a b ha hb => ?_
              match i with
              | 0 => simp at ha hb; subst ha hb; exact .list _ _ _ rfl (by simp)
              | 1 => simp at ha hb; subst ha hb; exact .base _ (.bool _)
              | i + 2 => simp at ha
            | true =>
              simp only [vBuildSl_one (sizedStr _), bindO_some_eq, bindO_none_eq, bindS_some, condW_true, condW_false, guardG_true, guardG_false, guardG_tf, guardG_ft, guardG_skip, pv_v, pv_loc, lookP_cons, lookE_cons, vPick_true, vPick_false, vUn_not, vExtract_tuple, vBin_lss, vBin_leq, vBin_gtr, vBin_geq, vBin_eql, vBin_neq, vBin_eql_str, vBin_neq_str, vLen_str, vLen_list, vLen_sref, vLoad_eptr, vPart_agg, vPart_two, vPart_str, vPart_bool, vPart_int, vPart_list, vField_eptr, vField_ptr, Nat.reduceEqDiff, Nat.zero_add, Nat.add_zero, if_true, if_false, decide_true, decide_false, Bool.not_true, Bool.not_false, List.getElem?_cons_zero, List.getElem?_cons_succ, Int.ofNat_lt, eq_self]
              obtain ⟨v', σ'', e1, e2, e3, _⟩ := hg.app (by_ := 16) (y := .list .full [.str ((s.take i).drop from_)]) hp rfl (by simpa using sizedStr _) (by simp; omega)
              rw [e1, vBin_add _ (by omega) (by omega)]
              simp only [bindO_some_eq, bindO_none_eq, bindS_some, condW_true, condW_false, guardG_true, guardG_false, guardG_tf, guardG_ft, guardG_skip, pv_v, pv_loc, lookP_cons, lookE_cons, vPick_true, vPick_false, vUn_not, vExtract_tuple, vBin_lss, vBin_leq, vBin_gtr, vBin_geq, vBin_eql, vBin_neq, vBin_eql_str, vBin_neq_str, vLen_str, vLen_list, vLen_sref, vLoad_eptr, vPart_agg, vPart_two, vPart_str, vPart_bool, vPart_int, vPart_list, vField_eptr, vField_ptr, Nat.reduceEqDiff, Nat.zero_add, Nat.add_zero, if_true, if_false, decide_true, decide_false, Bool.not_true, Bool.not_false, List.getElem?_cons_zero, List.getElem?_cons_succ, Int.ofNat_lt, eq_self]
              refine ⟨v', ys ++ [(s.take i).drop from_], i + 1, by simp, by simpa using e2, e3, by simp; omega, by simp [hok, hw], fun hlt => ⟨Nat.le_refl _, by simp, ?_⟩, fun h => ?_⟩
              · rw [hpiece, if_neg (by omega)]
                simp
              · rw [hpiece, if_pos h]
          by_cases hi' : i = s.length
          · have hb : ((i : Int) == (s.length : Int)) = true := by simp [hi']
            simp only [hb, bindO_some_eq, bindO_none_eq, bindS_some, condW_true, condW_false, guardG_true, guardG_false, guardG_tf, guardG_ft, guardG_skip, pv_v, pv_loc, lookP_cons, lookE_cons, vPick_true, vPick_false, vUn_not, vExtract_tuple, vBin_lss, vBin_leq, vBin_gtr, vBin_geq, vBin_eql, vBin_neq, vBin_eql_str, vBin_neq_str, vLen_str, vLen_list, vLen_sref, vLoad_eptr, vPart_agg, vPart_two, vPart_str, vPart_bool, vPart_int, vPart_list, vField_eptr, vField_ptr, Nat.reduceEqDiff, Nat.zero_add, Nat.add_zero, if_true, if_false, decide_true, decide_false, Bool.not_true, Bool.not_false, List.getElem?_cons_zero, List.getElem?_cons_succ, Int.ofNat_lt, eq_self]
            exact ends (.inl hi')
          · have hb : ((i : Int) == (s.length : Int)) = false := by simp; omega
            have hil : i < s.length := by omega
            have hc : s[i]? = some s[i] := by simp [hil]
            simp only [hb, vStrAt_nat _ hc, bindO_some_eq, bindO_none_eq, bindS_some, condW_true, condW_false, guardG_true, guardG_false, guardG_tf, guardG_ft, guardG_skip, pv_v, pv_loc, lookP_cons, lookE_cons, vPick_true, vPick_false, vUn_not, vExtract_tuple, vBin_lss, vBin_leq, vBin_gtr, vBin_geq, vBin_eql, vBin_neq, vBin_eql_str, vBin_neq_str, vLen_str, vLen_list, vLen_sref, vLoad_eptr, vPart_agg, vPart_two, vPart_str, vPart_bool, vPart_int, vPart_list, vField_eptr, vField_ptr, Nat.reduceEqDiff, Nat.zero_add, Nat.add_zero, if_true, if_false, decide_true, decide_false, Bool.not_true, Bool.not_false, List.getElem?_cons_zero, List.getElem?_cons_succ, Int.ofNat_lt, eq_self]
            by_cases h32 : s[i] = 32
            · have hb2 : (((s[i]).toNat : Int) == 32) = true := by rw [h32]; rfl
              simp only [hb2, bindO_some_eq, bindO_none_eq, bindS_some, condW_true, condW_false, guardG_true, guardG_false, guardG_tf, guardG_ft, guardG_skip, pv_v, pv_loc, lookP_cons, lookE_cons, vPick_true, vPick_false, vUn_not, vExtract_tuple, vBin_lss, vBin_leq, vBin_gtr, vBin_geq, vBin_eql, vBin_neq, vBin_eql_str, vBin_neq_str, vLen_str, vLen_list, vLen_sref, vLoad_eptr, vPart_agg, vPart_two, vPart_str, vPart_bool, vPart_int, vPart_list, vField_eptr, vField_ptr, Nat.reduceEqDiff, Nat.zero_add, Nat.add_zero, if_true, if_false, decide_true, decide_false, Bool.not_true, Bool.not_false, List.getElem?_cons_zero, List.getElem?_cons_succ, Int.ofNat_lt, eq_self]
              exact ends (.inr (by rw [hc, h32]))
            · have hb2 : (((s[i]).toNat : Int) == 32) = false := by
                rw [beq_eq_false_iff_ne]
                intro h
                apply h32
                apply UInt8.toNat_inj.1
                have : s[i].toNat = 32 := by omega
                exact this
              simp only [hb2, bindO_some_eq, bindO_none_eq, bindS_some, condW_true, condW_false, guardG_true, guardG_false, guardG_tf, guardG_ft, guardG_skip, pv_v, pv_loc, lookP_cons, lookE_cons, vPick_true, vPick_false, vUn_not, vExtract_tuple, vBin_lss, vBin_leq, vBin_gtr, vBin_geq, vBin_eql, vBin_neq, vBin_eql_str, vBin_neq_str, vLen_str, vLen_list, vLen_sref, vLoad_eptr, vPart_agg, vPart_two, vPart_str, vPart_bool, vPart_int, vPart_list, vField_eptr, vField_ptr, Nat.reduceEqDiff, Nat.zero_add, Nat.add_zero, if_true, if_false, decide_true, decide_false, Bool.not_true, Bool.not_false, List.getElem?_cons_zero, List.getElem?_cons_succ, Int.ofNat_lt, eq_self]
              refine ⟨v, ys, from_, rfl, hg, hp, by omega, hok, fun _ => ⟨by omega, ?_, hsp⟩, fun h => absurd h hi'⟩
              rw [List.take_add_one, hc, List.drop_append_of_le_length (by simp; omega)]
              simp only [Option.toList_some, List.mem_append, List.mem_singleton, not_or]
              exact ⟨hno, fun h => h32 h.symm⟩
      · obtain rfl : i = s.length + 1 := by omega
        simp only [hlt, bindO_some_eq, bindO_none_eq, bindS_some, condW_true, condW_false, guardG_true, guardG_false, guardG_tf, guardG_ft, guardG_skip, pv_v, pv_loc, lookP_cons, lookE_cons, vPick_true, vPick_false, vUn_not, vExtract_tuple, vBin_lss, vBin_leq, vBin_gtr, vBin_geq, vBin_eql, vBin_neq, vBin_eql_str, vBin_neq_str, vLen_str, vLen_list, vLen_sref, vLoad_eptr, vPart_agg, vPart_two, vPart_str, vPart_bool, vPart_int, vPart_list, vField_eptr, vField_ptr, Nat.reduceEqDiff, Nat.zero_add, Nat.add_zero, if_true, if_false, decide_true, decide_false, Bool.not_true, Bool.not_false, List.getElem?_cons_zero, List.getElem?_cons_succ, Int.ofNat_lt, eq_self]
        have hsp := h2 rfl
        exact ⟨ys, hg, hp, by rw [hwl, hsp], by simp [wordsOk, hwl, hsp, hok]⟩

end Go.Proofs.YtiniifbmeobmgaaGreatDoor
