/- IndexFunc and ContainsFunc at lists of parts, metarules and rules (printed by wip/src/SpecB2.py). -/
import Derived.Test.YtiniifbmeobmgaaGreatDoorSpecD
import Derived.Test.YtiniifbmeobmgaaGreatDoorFnB
set_option linter.unusedVariables false
set_option linter.unusedSimpArgs false
namespace Go.Proofs.YtiniifbmeobmgaaGreatDoor
open Go Go.Abs

theorem c119 {α : Type} {enc : α → PV} (E : EncOk enc false 1) {l : List α} (p : α → Bool) {lk : LK} {f : FuncId} {caps : List PV} {σ : St} (hf : hasBody f = true) (hl : l.length < 4611686018427387904) (h : ∀ a ∈ l, Ret W f (enc a :: caps) σ (.bool (p a))) :
    Ret W 119 [.list lk (l.map enc), .func f caps] σ (.int .i64 (idxOf p l 0)) := by
  refine ret_of fun R hR => ?_
  rw [fn119_eq]
  unfold fn119
  simp only [vLen_list, bindO_some_eq, List.length_map]
  refine Lfp_up l.length (fun i x σ' => x = lookP [(0, .list lk (l.map enc)), (1, .func f caps), (7, .int .i64 l.length), (8, .int .i64 i)] ∧ σ' = σ ∧ (l.take i).all (fun a => !p a) = true) ?_ ⟨rfl, rfl, rfl⟩
  rintro Φ i x σ' hi ⟨rfl, rfl, hp⟩ next
  simp only [lookP_cons, Nat.reduceEqDiff, if_true, if_false, vBin_lss, bindO_some_eq, Int.ofNat_lt]
  by_cases hlt : i < l.length
  · have hc : l[i]? = some l[i] := by simp [hlt]
    have hmem : l[i] ∈ l := by simp
    simp only [hlt, decide_true, condW_true, E.index hc, bindO_some_eq, vLoad_eptr, E.part, callG_func hf, List.cons_append, List.nil_append]
    refine (h _ hmem).callB ?_
    generalize l[i] = a at hc
    cases hpa : p a with
    | true =>
      simp only [condW_true]
      refine weakW_keep ?_
      rw [idxOf_hit hc hpa hp] at hR
      simpa using hR
    | false =>
      simp only [condW_false]
      rw [vBin_add _ (by omega) (by omega)]
      exact next _ _ hlt ⟨by simp, rfl, all_take_succ hp hc (by simp [hpa])⟩
  · obtain rfl : i = l.length := by omega
    rw [List.take_length] at hp
    simp only [hlt, decide_false, condW_false]
    refine weakW_keep ?_
    rw [idxOf_none hp] at hR
    exact hR

theorem c51 {α : Type} {enc : α → PV} (E : EncOk enc false 1) {l : List α} (p : α → Bool) {lk : LK} {f : FuncId} {caps : List PV} {σ : St} (hf : hasBody f = true) (hl : l.length < 4611686018427387904) (h : ∀ a ∈ l, Ret W f (enc a :: caps) σ (.bool (p a))) :
    Ret W 51 [.list lk (l.map enc), .func f caps] σ (.bool (l.any p)) := by
  refine ret_of fun R hR => ?_
  rw [fn51_eq]
  unfold fn51
  refine (c119 E p hf hl h).callB ?_
  simp only [vBin_geq, bindO_some_eq, idxOf_ge]
  exact weakW_keep hR

theorem c111 {α : Type} {enc : α → PV} (E : EncOk enc true 2) {l : List α} (p : α → Bool) {lk : LK} {f : FuncId} {caps : List PV} {σ : St} (hf : hasBody f = true) (hl : l.length < 4611686018427387904) (h : ∀ a ∈ l, Ret W f (enc a :: caps) σ (.bool (p a))) :
    Ret W 111 [.list lk (l.map enc), .func f caps] σ (.int .i64 (idxOf p l 0)) := by
  refine ret_of fun R hR => ?_
  rw [fn111_eq]
  unfold fn111
  simp only [vLen_list, bindO_some_eq, List.length_map]
  refine Lfp_up l.length (fun i x σ' => x = lookP [(0, .list lk (l.map enc)), (1, .func f caps), (7, .int .i64 l.length), (8, .int .i64 i)] ∧ σ' = σ ∧ (l.take i).all (fun a => !p a) = true) ?_ ⟨rfl, rfl, rfl⟩
  rintro Φ i x σ' hi ⟨rfl, rfl, hp⟩ next
  simp only [lookP_cons, Nat.reduceEqDiff, if_true, if_false, vBin_lss, bindO_some_eq, Int.ofNat_lt]
  by_cases hlt : i < l.length
  · have hc : l[i]? = some l[i] := by simp [hlt]
    have hmem : l[i] ∈ l := by simp
    simp only [hlt, decide_true, condW_true, E.index hc, bindO_some_eq, vLoad_eptr, E.part, callG_func hf, List.cons_append, List.nil_append]
    refine (h _ hmem).callB ?_
    generalize l[i] = a at hc
    cases hpa : p a with
    | true =>
      simp only [condW_true]
      refine weakW_keep ?_
      rw [idxOf_hit hc hpa hp] at hR
      simpa using hR
    | false =>
      simp only [condW_false]
      rw [vBin_add _ (by omega) (by omega)]
      exact next _ _ hlt ⟨by simp, rfl, all_take_succ hp hc (by simp [hpa])⟩
  · obtain rfl : i = l.length := by omega
    rw [List.take_length] at hp
    simp only [hlt, decide_false, condW_false]
    refine weakW_keep ?_
    rw [idxOf_none hp] at hR
    exact hR

theorem c35 {α : Type} {enc : α → PV} (E : EncOk enc true 2) {l : List α} (p : α → Bool) {lk : LK} {f : FuncId} {caps : List PV} {σ : St} (hf : hasBody f = true) (hl : l.length < 4611686018427387904) (h : ∀ a ∈ l, Ret W f (enc a :: caps) σ (.bool (p a))) :
    Ret W 35 [.list lk (l.map enc), .func f caps] σ (.bool (l.any p)) := by
  refine ret_of fun R hR => ?_
  rw [fn35_eq]
  unfold fn35
  refine (c111 E p hf hl h).callB ?_
  simp only [vBin_geq, bindO_some_eq, idxOf_ge]
  exact weakW_keep hR

theorem c120 {α : Type} {enc : α → PV} (E : EncOk enc true 2) {l : List α} (p : α → Bool) {lk : LK} {f : FuncId} {caps : List PV} {σ : St} (hf : hasBody f = true) (hl : l.length < 4611686018427387904) (h : ∀ a ∈ l, Ret W f (enc a :: caps) σ (.bool (p a))) :
    Ret W 120 [.list lk (l.map enc), .func f caps] σ (.int .i64 (idxOf p l 0)) := by
  refine ret_of fun R hR => ?_
  rw [fn120_eq]
  unfold fn120
  simp only [vLen_list, bindO_some_eq, List.length_map]
  refine Lfp_up l.length (fun i x σ' => x = lookP [(0, .list lk (l.map enc)), (1, .func f caps), (7, .int .i64 l.length), (8, .int .i64 i)] ∧ σ' = σ ∧ (l.take i).all (fun a => !p a) = true) ?_ ⟨rfl, rfl, rfl⟩
  rintro Φ i x σ' hi ⟨rfl, rfl, hp⟩ next
  simp only [lookP_cons, Nat.reduceEqDiff, if_true, if_false, vBin_lss, bindO_some_eq, Int.ofNat_lt]
  by_cases hlt : i < l.length
  · have hc : l[i]? = some l[i] := by simp [hlt]
    have hmem : l[i] ∈ l := by simp
    simp only [hlt, decide_true, condW_true, E.index hc, bindO_some_eq, vLoad_eptr, E.part, callG_func hf, List.cons_append, List.nil_append]
    refine (h _ hmem).callB ?_
    generalize l[i] = a at hc
    cases hpa : p a with
    | true =>
      simp only [condW_true]
      refine weakW_keep ?_
      rw [idxOf_hit hc hpa hp] at hR
      simpa using hR
    | false =>
      simp only [condW_false]
      rw [vBin_add _ (by omega) (by omega)]
      exact next _ _ hlt ⟨by simp, rfl, all_take_succ hp hc (by simp [hpa])⟩
  · obtain rfl : i = l.length := by omega
    rw [List.take_length] at hp
    simp only [hlt, decide_false, condW_false]
    refine weakW_keep ?_
    rw [idxOf_none hp] at hR
    exact hR

theorem c53 {α : Type} {enc : α → PV} (E : EncOk enc true 2) {l : List α} (p : α → Bool) {lk : LK} {f : FuncId} {caps : List PV} {σ : St} (hf : hasBody f = true) (hl : l.length < 4611686018427387904) (h : ∀ a ∈ l, Ret W f (enc a :: caps) σ (.bool (p a))) :
    Ret W 53 [.list lk (l.map enc), .func f caps] σ (.bool (l.any p)) := by
  refine ret_of fun R hR => ?_
  rw [fn53_eq]
  unfold fn53
  refine (c120 E p hf hl h).callB ?_
  simp only [vBin_geq, bindO_some_eq, idxOf_ge]
  exact weakW_keep hR

end Go.Proofs.YtiniifbmeobmgaaGreatDoor
