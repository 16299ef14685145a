/- The text of an instruction, whole: both sides give lineS. -/
import Derived.Test.YtgghfcchanilpaaGreatDoorSpD
set_option linter.unusedVariables false
set_option linter.unusedSimpArgs false
namespace Go.Proofs.YtgghfcchanilpaaGreatDoor
open Go Go.Abs
open Go.Lib (decDigits itoa)

/-- The words of operands, put behind a text; the first error. -/
def lineL (out : Str) : List OperS → Str × Int
  | [] => (out, 0)
  | o :: l => if (spellS o).2 ≠ 0 then ([], (spellS o).2) else lineL (out ++ ([32] ++ (spellS o).1)) l

theorem lineS_L (i : InstS) : lineS i = if knownS i.op && (okKind i.s && (okKind i.t && okKind i.d)) then
    (if (lineL (nameS i.op) [i.s, i.t, i.d]).2 ≠ 0 then ([], (lineL (nameS i.op) [i.s, i.t, i.d]).2) else ((lineL (nameS i.op) [i.s, i.t, i.d]).1 ++ [32] ++ itoaB i.n ++ [32] ++ itoaB i.k, 0)) else ([], 13) := by
  unfold lineS
  split
  · simp only [lineL]
    split
    · rfl
    · split
      · rfl
      · split
        · rfl
        · simp
  · rfl

theorem spell_small {o : OperS} (h : o.ok = true) : (spellS o).1.length ≤ 50 := by
  simp only [OperS.ok, Bool.and_eq_true] at h
  have la := itoa_small h.2.1
  have lb := itoa_small h.2.2
  unfold spellS
  split
  · split <;> simp
  · split
    · simp; omega
    · split
      · simp; omega
      · simp

theorem name_small : ∀ n : Fin 40, (entryS ((n.val : Nat) : Int)).1.length ≤ 10 := by decide +kernel

theorem nameS_small (n : Int) : (nameS n).length ≤ 10 := by
  unfold nameS
  split
  · rename_i h
    have h' := known_iff.1 h
    have := name_small ⟨n.toNat, by omega⟩
    simp only [Int.toNat_of_nonneg h'.1] at this
    exact this
  · simp

theorem lineL_small : ∀ (l : List OperS) (out : Str), (∀ o ∈ l, o.ok = true) → (lineL out l).1.length ≤ out.length + l.length * 51
  | [], out, _ => by simp [lineL]
  | o :: l, out, h => by
    have h1 := spell_small (h o (by simp))
    simp only [lineL]
    split
    · simp
    · have h2 := lineL_small l (out ++ ([32] ++ (spellS o).1)) (fun o' ho => h o' (by simp [ho]))
      simp at h2 ⊢
      omega

theorem drop_cons {α : Type} {l : List α} {i : Nat} {a : α} (h : l[i]? = some a) : l.drop i = a :: l.drop (i + 1) := by
  obtain ⟨h1, h2⟩ := List.getElem?_eq_some_iff.1 h
  rw [List.drop_eq_getElem_cons h1, h2]

theorem b3_oper (a b c : OperS) : vBuildSl 3 (List.replicate 3 (.agg [(.int .i64 0), (.int .i64 0), (.int .i64 0)])) [(0, pvOper a), (1, pvOper b), (2, pvOper c)] = some ([a, b, c].map pvOper) := rfl
theorem put3_oper (a : OperS) : vPut 3 (.agg [(.int .i64 0), (.int .i64 0), (.int .i64 0)]) 0 (pvOper a) = some (pvOper a) := rfl

theorem c19 {i : InstS} (hi : i.ok = true) (σ : St) : Ret W 19 [pvInst i] σ (.tuple [.str (lineS i).1, .int .i64 (lineS i).2]) := by
  refine ret_of fun R hR => ?_
  rw [fn19_eq]
  unfold fn19
  rw [lineS_L] at hR
  simp only [InstS.ok, Bool.and_eq_true] at hi
  obtain ⟨i0, i1, i2, i3, i4, i5⟩ := hi
  simp only [inst_parts, b3_oper, zz, Nat.reduceEqDiff]
  refine (c39 _ _).callB ?_
  have hok : ∀ o ∈ [i.s, i.t, i.d], o.ok = true := by
    intro o ho
    simp at ho
    rcases ho with rfl | rfl | rfl <;> assumption
  have hbad : ([i.s, i.t, i.d].any fun o => !okKind o) = !(okKind i.s && (okKind i.t && okKind i.d)) := by
    simp [Bool.not_and]
  cases hk : knownS i.op with
  | false =>
    rw [hk] at hR
    simp only [zz, Nat.reduceEqDiff]
    exact weakW_keep hR
  | true =>
    simp only [zz, Nat.reduceEqDiff]
    refine (c40 encOper (fun o => !okKind o) (by kernel_rfl) (by simp) (fun o _ => c41 o _)).callB ?_
    rw [hbad]
    rw [hk] at hR
    cases hq : (okKind i.s && (okKind i.t && okKind i.d)) with
    | false =>
      rw [hq] at hR
      simp only [zz, Nat.reduceEqDiff]
      exact weakW_keep hR
    | true =>
      rw [hq] at hR
      simp only [Bool.and_self, if_true] at hR
      simp only [arrOff hk, globPV0, (ops_name hk).1, zz, Nat.reduceEqDiff]
      have hn : nameS i.op = (entryS i.op).1 := by unfold nameS; rw [if_pos hk]
      rw [← hn]
      have hns := nameS_small i.op
      have hl3 : [i.s, i.t, i.d].length = 3 := rfl
      generalize [i.s, i.t, i.d] = l at hok hR hl3
      simp only [List.length_map, zz, Nat.reduceEqDiff]
      refine Lfp_up l.length (fun j x σ' => ∃ out : Str, x = lookP [(5, .str out), (30, .list .full (l.map pvOper)), (31, .int .i64 l.length), (32, .int .i64 j), (1, pvInst i)] ∧ σ' = σ ∧ lineL (nameS i.op) l = lineL out (l.drop j) ∧ out.length ≤ 10 + j * 51) ?_ ⟨_, rfl, rfl, rfl, by omega⟩
      rintro Φ j x σ' hj ⟨out, rfl, rfl, hp, hlen⟩ next
      simp only [zz, Nat.reduceEqDiff]
      by_cases hlt : j < l.length
      · have hc : l[j]? = some l[j] := by simp [hlt]
        have hmem : l[j] ∈ l := by simp
        generalize l[j] = o at hc hmem
        have hsm := spell_small (hok o hmem)
        simp only [hlt, encOper.index hc, encOper.part, put3_oper, zz, Nat.reduceEqDiff]
        refine (c43 (hok o hmem) _).callB ?_
        rw [drop_cons hc] at hp
        simp only [lineL] at hp
        simp only [ne_dec, zz, Nat.reduceEqDiff]
        by_cases he : (spellS o).2 = 0
        · rw [if_neg (by simp [he])] at hp
          simp only [he, decide_true, zz, Nat.reduceEqDiff]
          rw [vBin_add_str _ (by simp; omega)]
          simp only [zz, Nat.reduceEqDiff]
          rw [vBin_add_str _ (by simp; omega)]
          simp only [zz, Nat.reduceEqDiff]
          rw [vBin_add _ (by omega) (by omega)]
          simp only [zz, Nat.reduceEqDiff]
          exact next _ _ hlt ⟨_, by simp, rfl, hp, by simp; omega⟩
        · rw [if_pos he] at hp
          simp only [he, decide_false, zz, Nat.reduceEqDiff]
          refine weakW_keep ?_
          rw [hp] at hR
          rw [if_pos he] at hR
          exact hR
      · obtain rfl : j = l.length := by omega
        rw [List.drop_length] at hp
        simp only [hlt, decide_false, zz, Nat.reduceEqDiff]
        have la := itoa_small i4
        have lb := itoa_small i5
        rw [hp] at hR
        simp only [lineL, ne_eq, not_true, if_false] at hR
        rw [vBin_add_str _ (by simp; omega)]
        simp only [inst_parts, zz, Nat.reduceEqDiff]
        refine (c44 i4 _).callB ?_
        rw [vBin_add_str _ (by simp; omega)]
        simp only [zz, Nat.reduceEqDiff]
        rw [vBin_add_str _ (by simp; omega)]
        simp only [zz, Nat.reduceEqDiff]
        refine (c45 i5 _).callB ?_
        rw [vBin_add_str _ (by simp; omega)]
        simp only [zz, Nat.reduceEqDiff]
        exact weakW_keep hR

theorem name_nil (n : Int) : (nameS n == []) = !knownS n := by
  cases h : knownS n with
  | true =>
    have := (name_ne h).1
    simp [this]
  | false =>
    unfold nameS
    rw [h]
    rfl

theorem c20 {i : InstS} (hi : i.ok = true) (σ : St) : Ret W 20 [pvInst i] σ (.tuple [.str (lineS i).1, .int .i64 (lineS i).2]) := by
  refine ret_of fun R hR => ?_
  rw [fn20_eq]
  unfold fn20
  rw [lineS_L] at hR
  simp only [InstS.ok, Bool.and_eq_true] at hi
  obtain ⟨i0, i1, i2, i3, i4, i5⟩ := hi
  simp only [inst_parts, zz, Nat.reduceEqDiff]
  refine (c16 _ _).callB ?_
  have hok : ∀ o ∈ [i.s, i.t, i.d], o.ok = true := by
    intro o ho
    simp at ho
    rcases ho with rfl | rfl | rfl <;> assumption
  have hbad : ([i.s, i.t, i.d].any fun o => !okKind o) = !(okKind i.s && (okKind i.t && okKind i.d)) := by
    simp [Bool.not_and]
  simp only [name_nil, zz, Nat.reduceEqDiff]
  cases hk : knownS i.op with
  | false =>
    rw [hk] at hR
    simp only [zz, Nat.reduceEqDiff]
    exact weakW_keep hR
  | true =>
    rw [hk] at hR
    simp only [inst_parts, b3_oper, zz, Nat.reduceEqDiff]
    have hns := nameS_small i.op
    have hl3 : [i.s, i.t, i.d].length = 3 := rfl
    have hq : (okKind i.s && (okKind i.t && okKind i.d)) = !([i.s, i.t, i.d].any fun o => !okKind o) := by rw [hbad]; simp
    rw [hq] at hR
    clear hq hbad
    generalize [i.s, i.t, i.d] = l at hok hR hl3
    refine CutW_by (fun x τ => (l.any fun o => !okKind o) = false ∧ x = lookP [(4, .str (nameS i.op)), (5, .list .full (l.map pvOper)), (1, pvInst i)] ∧ τ = σ) ?_ ?_
    case refine_2 =>
      refine Lfp_up 3 (fun j x σ' => x = lookP [(4, .str (nameS i.op)), (5, .list .full (l.map pvOper)), (6, .int .i64 j), (1, pvInst i)] ∧ σ' = σ ∧ ((l.take j).any fun o => !okKind o) = false) ?_ ⟨rfl, rfl, rfl⟩
      rintro Φ j x σ' hj ⟨rfl, rfl, hp⟩ next
      simp only [zz, Nat.reduceEqDiff]
      have e3 : decide ((j : Int) < 3) = decide (j < 3) := decide_eq_decide.2 (by omega)
      rw [e3]
      by_cases hlt : j < 3
      · have hc : l[j]? = some (l[j]'(by omega)) := by simp [hl3, hlt]
        generalize l[j]'(by omega) = o at hc
        simp only [hlt, encOper.index hc, oper_parts, zz, Nat.reduceEqDiff]
        have hko : okKind o = (!decide (o.k < 0) && !decide (o.k ≥ 3)) := by
          unfold okKind
          by_cases h1 : o.k < 0
          · have : ¬ 0 ≤ o.k := by omega
            simp [h1, this]
          · have : 0 ≤ o.k := by omega
            by_cases h2 : o.k ≥ 3
            · have h3 : ¬ o.k < 3 := by omega
              simp [h1, this, h2, h3]
            · have h3 : o.k < 3 := by omega
              simp [h1, this, h2, h3]
        have hbad : ∀ h : okKind o = false, R (.ret (.tuple [.str [], .int .i64 13])) σ' := by
          intro h
          rw [any_of_get (q := fun o => !okKind o) hc (by simp [h])] at hR
          exact hR
        cases h1 : decide (o.k < 0) with
        | true =>
          simp only [zz, Nat.reduceEqDiff]
          exact weakW_keep (hbad (by rw [hko, h1]; rfl))
        | false =>
          simp only [encOper.index hc, oper_parts, zz, Nat.reduceEqDiff]
          cases h2 : decide (o.k ≥ 3) with
          | true =>
            simp only [zz, Nat.reduceEqDiff]
            exact weakW_keep (hbad (by rw [hko, h1, h2]; rfl))
          | false =>
            simp only [zz, Nat.reduceEqDiff]
            rw [vBin_add _ (by omega) (by omega)]
            simp only [zz, Nat.reduceEqDiff]
            exact next _ _ hlt ⟨by simp, rfl, any_cons_false hp hc (by rw [hko, h1, h2]; rfl)⟩
      · obtain rfl : j = 3 := by omega
        rw [← hl3, List.take_length] at hp
        simp only [hlt, decide_false, zz, Nat.reduceEqDiff]
        exact ⟨hp, by trivial, by trivial⟩
    rintro x τ ⟨hb, rfl, rfl⟩
    rw [hb] at hR
    simp only [Bool.not_false, Bool.and_self, if_true] at hR
    simp only [zz, Nat.reduceEqDiff]
    refine CutW_by (fun x τ' => ∃ out : Str, out.length ≤ 163 ∧ lineL (nameS i.op) l = (out, 0) ∧ x = lookP [(4, .str out), (1, pvInst i)] ∧ τ' = τ) ?_ ?_
    case refine_2 =>
      refine Lfp_up 3 (fun j x σ' => ∃ out : Str, x = lookP [(4, .str out), (5, .list .full (l.map pvOper)), (7, .int .i64 j), (1, pvInst i)] ∧ σ' = τ ∧ lineL (nameS i.op) l = lineL out (l.drop j) ∧ out.length ≤ 10 + j * 51) ?_ ⟨_, rfl, rfl, rfl, by omega⟩
      rintro Φ j x σ' hj ⟨out, rfl, rfl, hp, hlen⟩ next
      simp only [zz, Nat.reduceEqDiff]
      have e3 : decide ((j : Int) < 3) = decide (j < 3) := decide_eq_decide.2 (by omega)
      rw [e3]
      by_cases hlt : j < 3
      · have hc : l[j]? = some (l[j]'(by omega)) := by simp [hl3, hlt]
        have hmem : l[j]'(by omega) ∈ l := by simp
        generalize l[j]'(by omega) = o at hc hmem
        have hsm := spell_small (hok o hmem)
        simp only [hlt, encOper.index hc, encOper.part, zz, Nat.reduceEqDiff]
        refine (c46 (hok o hmem) _).callB ?_
        rw [drop_cons hc] at hp
        simp only [lineL] at hp
        simp only [ne_dec, zz, Nat.reduceEqDiff]
        by_cases he : (spellS o).2 = 0
        · rw [if_neg (by simp [he])] at hp
          simp only [he, decide_true, zz, Nat.reduceEqDiff]
          rw [vBin_add_str _ (by simp; omega)]
          simp only [zz, Nat.reduceEqDiff]
          rw [vBin_add_str _ (by simp; omega)]
          simp only [zz, Nat.reduceEqDiff]
          rw [vBin_add _ (by omega) (by omega)]
          simp only [zz, Nat.reduceEqDiff]
          exact next _ _ hlt ⟨_, by simp, rfl, hp, by simp; omega⟩
        · rw [if_pos he] at hp
          simp only [he, decide_false, zz, Nat.reduceEqDiff]
          refine weakW_keep ?_
          rw [hp] at hR
          rw [if_pos he] at hR
          exact hR
      · obtain rfl : j = 3 := by omega
        rw [← hl3, List.drop_length] at hp
        simp only [hlt, decide_false, zz, Nat.reduceEqDiff]
        exact ⟨out, by omega, hp, by trivial, by trivial⟩
    rintro x τ' ⟨out, hlen, hp, rfl, rfl⟩
    have la := itoa_small i4
    have lb := itoa_small i5
    rw [hp] at hR
    simp only [ne_eq, not_true, if_false] at hR
    simp only [zz, Nat.reduceEqDiff]
    rw [vBin_add_str _ (by simp; omega)]
    simp only [inst_parts, zz, Nat.reduceEqDiff]
    refine (c47 i4 _).callB ?_
    rw [vBin_add_str _ (by simp; omega)]
    simp only [zz, Nat.reduceEqDiff]
    rw [vBin_add_str _ (by simp; omega)]
    simp only [zz, Nat.reduceEqDiff]
    refine (c47 i5 _).callB ?_
    rw [vBin_add_str _ (by simp; omega)]
    simp only [zz, Nat.reduceEqDiff]
    exact weakW_keep hR

end Go.Proofs.YtgghfcchanilpaaGreatDoor
