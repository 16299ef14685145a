/- The package's Write, the reference's Write: the same form. The law. -/
import Derived.Test.YtiniifbmeobmgaaGreatDoorWrA
import Derived.Test.YtiniifbmeobmgaaGreatDoorFnJ
set_option linter.unusedVariables false
set_option linter.unusedSimpArgs false
namespace Go.Proofs.YtiniifbmeobmgaaGreatDoor
open Go Go.Abs

theorem frz_si (σ : St) (n : Nat) (s : Str) (k : IntKind) (i : Int) : Frz σ n (.tuple [.str s, .int k i]) (.tuple [.str s, .int k i]) :=
  .base _ (.tuple _ fun j x h => by
    match j with
    | 0 => simp at h; subst h; exact .str _
    | 1 => simp at h; subst h; exact .int _ _
    | j + 2 => simp at h)

theorem take_flat {α : Type} (f : α → Str) {l : List α} {i : Nat} {a : α} (h : l[i]? = some a) : ((l.take (i + 1)).map f).flatten = ((l.take i).map f).flatten ++ f a := by
  rw [List.take_add_one, h]
  simp

theorem joinB_take_le {sep : Str} {m n : Nat} {xs : List Str} (h : ∀ x ∈ xs, x.length ≤ m) (hn : xs.length ≤ n) (i : Nat) : (joinB sep (xs.take i)).length ≤ n * (m + sep.length) := by
  have h1 := joinB_le sep m (xs.take i) fun x hx => h x (List.mem_of_mem_take hx)
  have h2 : (xs.take i).length ≤ n := by simp; omega
  exact Nat.le_trans h1 (Nat.mul_le_mul_right _ h2)

/-! ### The package -/

set_option maxHeartbeats 1000000 in
theorem c32 {g : Gram} (hg : OkGram g) (σ : St) : Ret W 32 [pvGram g] σ (.tuple [.str (writeG g), .int .i64 (checkG g)]) := by
  refine ret_of fun R hR => ?_
  rw [fn32_eq]
  unfold fn32
  have hbox : opC.vBoxAny (pvGram g) = some (2, pvGram g) := rfl
  have hpt : vPart true 2 (pvGram g) 0 = some (pvGram g) := rfl
  simp only [hbox, hpt, zz, Nat.reduceEqDiff, if_true, if_false, decide_true, decide_false, eq_self]
  refine (c15 hg σ).callB ?_
  by_cases hck : checkG g ≠ 0
  · have hw : writeG g = [] := by simp [writeG, hck]
    rw [hw] at hR
    have hne : (checkG g != 0) = true := by simp [hck]
    simp only [hne, zz, Nat.reduceEqDiff, if_true, if_false, decide_true, decide_false, eq_self]
    exact weakW_keep hR
  have hck : checkG g = 0 := Decidable.not_not.1 hck
  have hw : writeG g = formG g := by simp [writeG, hck]
  rw [hw, hck] at hR
  have hT := tame_of hck
  obtain ⟨⟨mk, ms⟩, rk, rs⟩ := g
  obtain ⟨hml, hrl, hms, hrs⟩ := hT
  simp only at hml hrl hms hrs
  have hG : pvGram ((mk, ms), rk, rs) = .agg [.list mk (ms.map pvMeta), .list rk (rs.map pvRule)] := rfl
  have h00 : ((0 : Int) != 0) = false := rfl
  rw [hG, hck]
  simp only [h00, newT_eq, List.length_map, zz, Nat.reduceEqDiff, if_true, if_false, decide_true, decide_false, eq_self]
  refine Lfp_up ms.length (fun i x σ' => x = lookP [(5, .ptr σ.length 717 0 0), (22, .list mk (ms.map pvMeta)), (23, .int .i64 ms.length), (24, .int .i64 i), (1, .agg [.list mk (ms.map pvMeta), .list rk (rs.map pvRule)])] ∧ Bld σ σ' σ.length ((ms.take i).map metaT).flatten) ?_ ⟨rfl, Bld.mk σ⟩
  rintro Φ i x σ' hi ⟨rfl, hb⟩ next
  simp only [zz, Nat.reduceEqDiff, if_true, if_false, decide_true, decide_false, eq_self]
  by_cases hlt : i < ms.length
  · have hgi : ms[i]? = some ms[i] := by simp [hlt]
    have hmem : ms[i] ∈ ms := by simp
    generalize ms[i] = m at hgi hmem
    have hm := hms m hmem
    have hput : vPut 2 (.agg [.str [], .list .nil []]) 0 (pvMeta m) = some (pvMeta m) := rfl
    have hsum := metas_le hml hms i
    have hflat := take_flat metaT hgi
    have hmle := metaT_le hm
    simp only [hlt, encMeta.index hgi, encMeta.part, hput, zz, Nat.reduceEqDiff, if_true, if_false, decide_true, decide_false, eq_self]
    obtain ⟨nm, lk, ls⟩ := m
    have hpm : pvMeta (nm, lk, ls) = .agg [.str nm, .list lk (ls.map pvParts)] := rfl
    have hll := hm.len
    have hlm := hm.mem
    have hnl := hm.name
    simp only at hll hlm hnl
    simp only [hpm, List.length_map, zz, Nat.reduceEqDiff, if_true, if_false, decide_true, decide_false, eq_self]
    refine Lfp_up ls.length (fun j x σ'' => ∃ v, x = lookP [(5, .ptr σ.length 717 0 0), (8, v), (22, .list mk (ms.map pvMeta)), (23, .int .i64 ms.length), (24, .int .i64 i), (29, .list lk (ls.map pvParts)), (30, .int .i64 ls.length), (31, .int .i64 j), (1, .agg [.list mk (ms.map pvMeta), .list rk (rs.map pvRule)]), (7, .agg [.str nm, .list lk (ls.map pvParts)])] ∧ Grow σ'.length 1 σ'' v (((ls.take j).map fun l => orE (txtP l.2)).map PV.str) ∧ σ' <+: σ'') ?_ ⟨_, rfl, .nil _ _ _, List.prefix_rfl⟩
    rintro Φ2 j x σ2 hj ⟨v, rfl, hgr, hp⟩ next2
    simp only [zz, Nat.reduceEqDiff, if_true, if_false, decide_true, decide_false, eq_self]
    by_cases hlt2 : j < ls.length
    · have hgj : ls[j]? = some ls[j] := by simp [hlt2]
      have hmj : ls[j] ∈ ls := by simp
      generalize ls[j] = l at hgj hmj
      simp only [hlt2, encParts.index hgj, encParts.part, zz, Nat.reduceEqDiff, if_true, if_false, decide_true, decide_false, eq_self]
      refine (c103 (hlm l hmj) σ2).callB ?_
      refine (c102 (txtP l.2) σ2).callB ?_
      have htk : ((ls.take (j + 1)).map fun l => orE (txtP l.2)).map PV.str = ((ls.take j).map fun l => orE (txtP l.2)).map PV.str ++ [PV.str (orE (txtP l.2))] := by rw [List.take_add_one, hgj]; simp
      obtain ⟨v', σ3, e1, e2, e3, _⟩ := hgr.app (by_ := 16) (y := .list .full [.str (orE (txtP l.2))]) hp rfl (by simpa using sizedStr _) (by simp; omega)
      simp only [vBuildSl_one (sizedStr (orE (txtP l.2))), e1, zz, Nat.reduceEqDiff, if_true, if_false, decide_true, decide_false, eq_self]
      rw [vBin_add _ (by omega) (by omega)]
      exact next2 _ _ hlt2 ⟨v', by simp, by rw [htk]; exact e2, e3⟩
    · obtain rfl : j = ls.length := by omega
      rw [List.take_length] at hgr
      have hjl : (joinB [32, 59, 32] (ls.map fun l => orE (txtP l.2))).length ≤ 64 * (2688 + 3) := by
        have := joinB_take_le (sep := [32, 59, 32]) (m := 2688) (n := 64) (xs := ls.map fun l => orE (txtP l.2)) (fun x hx => by
          obtain ⟨l, hl, rfl⟩ := List.mem_map.1 hx
          exact orE_le (txtP_le (hlm l hl)) (by omega)) (by simp; omega) ls.length
        rw [List.take_of_length_le (by simp)] at this
        simpa using this
      simp only [hlt2, zz, Nat.reduceEqDiff, if_true, if_false, decide_true, decide_false, eq_self]
      rw [vBin_add_str _ (by simp; omega)]
      simp only [zz, Nat.reduceEqDiff, if_true, if_false, decide_true, decide_false, eq_self]
      refine (c98' (by simp; omega) (by omega) hgr.elems).callB ?_
      rw [vBin_add_str _ (by simp; omega)]
      simp only [zz, Nat.reduceEqDiff, if_true, if_false, decide_true, decide_false, eq_self]
      rw [vBin_add_str _ (by simp; omega)]
      simp only [zz, Nat.reduceEqDiff, if_true, if_false, decide_true, decide_false, eq_self]
      refine c104 (hb.pre hp) (by simp only [List.length_append, List.length_cons, List.length_nil]; omega) fun σ3 hb3 => ?_
      simp only
      rw [vBin_add _ (by omega) (by omega)]
      refine next _ _ hlt ⟨by simp, ?_⟩
      rw [hflat]
      simpa only [metaT, List.append_assoc] using hb3
  obtain rfl : i = ms.length := by omega
  rw [List.take_length] at hb
  have hsumM := metas_le hml hms ms.length
  rw [List.take_length] at hsumM
  simp only [hlt, List.length_map, zz, Nat.reduceEqDiff, if_true, if_false, decide_true, decide_false, eq_self]
  clear next hlt hi
  refine Lfp_up rs.length (fun i x σ'' => x = lookP [(5, .ptr σ.length 717 0 0), (52, .list rk (rs.map pvRule)), (53, .int .i64 rs.length), (54, .int .i64 i)] ∧ Bld σ σ'' σ.length ((ms.map metaT).flatten ++ ((rs.take i).map ruleT).flatten)) ?_ ⟨rfl, by simpa using hb⟩
  clear hb
  clear σ'
  rintro Φ i x σ' hi ⟨rfl, hb⟩ next
  simp only [zz, Nat.reduceEqDiff, if_true, if_false, decide_true, decide_false, eq_self]
  have hsum := rules_le hrl hrs i
  by_cases hlt : i < rs.length
  · have hgi : rs[i]? = some rs[i] := by simp [hlt]
    have hmem : rs[i] ∈ rs := by simp
    generalize rs[i] = r at hgi hmem
    have hr := hrs r hmem
    have hput : vPut 2 (.agg [.list .nil [], .list .nil []]) 0 (pvRule r) = some (pvRule r) := rfl
    have hflat := take_flat ruleT hgi
    have hrle := ruleT_le hr
    simp only [hlt, encRule.index hgi, encRule.part, hput, zz, Nat.reduceEqDiff, if_true, if_false, decide_true, decide_false, eq_self]
    obtain ⟨lf, lk, ls⟩ := r
    have hpr : pvRule (lf, lk, ls) = .agg [pvParts lf, .list lk (ls.map pvParts)] := rfl
    have hll := hr.len
    have hlm := hr.mem
    have hlf := hr.left
    simp only at hll hlm hlf
    have hlfl := txtP_le hlf
    simp only [hpr, List.length_map, zz, Nat.reduceEqDiff, if_true, if_false, decide_true, decide_false, eq_self]
    refine Lfp_up ls.length (fun j x σ'' => ∃ v, x = lookP [(5, .ptr σ.length 717 0 0), (13, v), (52, .list rk (rs.map pvRule)), (53, .int .i64 rs.length), (54, .int .i64 i), (59, .list lk (ls.map pvParts)), (60, .int .i64 ls.length), (61, .int .i64 j), (12, .agg [pvParts lf, .list lk (ls.map pvParts)])] ∧ Grow σ'.length 1 σ'' v (((ls.take j).map fun l => txtP l.2).map PV.str) ∧ σ' <+: σ'') ?_ ⟨_, rfl, .nil _ _ _, List.prefix_rfl⟩
    rintro Φ2 j x σ2 hj ⟨v, rfl, hgr, hp⟩ next2
    simp only [zz, Nat.reduceEqDiff, if_true, if_false, decide_true, decide_false, eq_self]
    by_cases hlt2 : j < ls.length
    · have hgj : ls[j]? = some ls[j] := by simp [hlt2]
      have hmj : ls[j] ∈ ls := by simp
      generalize ls[j] = l at hgj hmj
      simp only [hlt2, encParts.index hgj, encParts.part, zz, Nat.reduceEqDiff, if_true, if_false, decide_true, decide_false, eq_self]
      refine (c103 (hlm l hmj).1 σ2).callB ?_
      have htk : ((ls.take (j + 1)).map fun l => txtP l.2).map PV.str = ((ls.take j).map fun l => txtP l.2).map PV.str ++ [PV.str (txtP l.2)] := by rw [List.take_add_one, hgj]; simp
      obtain ⟨v', σ3, e1, e2, e3, _⟩ := hgr.app (by_ := 16) (y := .list .full [.str (txtP l.2)]) hp rfl (by simpa using sizedStr _) (by simp; omega)
      simp only [vBuildSl_one (sizedStr (txtP l.2)), e1, zz, Nat.reduceEqDiff, if_true, if_false, decide_true, decide_false, eq_self]
      rw [vBin_add _ (by omega) (by omega)]
      exact next2 _ _ hlt2 ⟨v', by simp, by rw [htk]; exact e2, e3⟩
    · obtain rfl : j = ls.length := by omega
      rw [List.take_length] at hgr
      have hjl : (joinB [44, 32] (ls.map fun l => txtP l.2)).length ≤ 64 * (2688 + 2) := by
        have := joinB_take_le (sep := [44, 32]) (m := 2688) (n := 64) (xs := ls.map fun l => txtP l.2) (fun x hx => by
          obtain ⟨l, hl, rfl⟩ := List.mem_map.1 hx
          exact txtP_le (hlm l hl).1) (by simp; omega) ls.length
        rw [List.take_of_length_le (by simp)] at this
        simpa using this
      have hol := orE_le (s := joinB [44, 32] (ls.map fun l => txtP l.2)) (n := 172160) (by omega) (by omega)
      have hpl : vPart false 1 (pvParts lf) 0 = some (pvParts lf) := rfl
      simp only [hlt2, hpl, zz, Nat.reduceEqDiff, if_true, if_false, decide_true, decide_false, eq_self]
      refine (c103 hlf σ2).callB ?_
      rw [vBin_add_str _ (by simp; omega)]
      simp only [zz, Nat.reduceEqDiff, if_true, if_false, decide_true, decide_false, eq_self]
      refine (c98' (by simp; omega) (by omega) hgr.elems).callB ?_
      refine (c102 _ σ2).callB ?_
      rw [vBin_add_str _ (by simp; omega)]
      simp only [zz, Nat.reduceEqDiff, if_true, if_false, decide_true, decide_false, eq_self]
      rw [vBin_add_str _ (by simp; omega)]
      simp only [zz, Nat.reduceEqDiff, if_true, if_false, decide_true, decide_false, eq_self]
      refine c104 (hb.pre hp) (by simp only [List.length_append, List.length_cons, List.length_nil]; omega) fun σ3 hb3 => ?_
      simp only
      rw [vBin_add _ (by omega) (by omega)]
      refine next _ _ hlt ⟨by simp, ?_⟩
      rw [hflat]
      simpa only [ruleT, List.append_assoc] using hb3
  obtain rfl : i = rs.length := by omega
  rw [List.take_length] at hb hsum
  simp only [hlt, zz, Nat.reduceEqDiff, if_true, if_false, decide_true, decide_false, eq_self]
  refine c105 hb (by simp only [List.length_append]; omega) fun σ1 hp => ?_
  exact weakW_clean hp (frz_si _ _ _ _ _) hR

end Go.Proofs.YtiniifbmeobmgaaGreatDoor

/- The reference's Write. -/
set_option linter.unusedVariables false
set_option linter.unusedSimpArgs false
namespace Go.Proofs.YtiniifbmeobmgaaGreatDoor
open Go Go.Abs

theorem joinB_ne {sep : Str} : ∀ {xs : List Str}, xs ≠ [] → (∀ x ∈ xs, x ≠ []) → joinB sep xs ≠ []
  | [], h, _ => absurd rfl h
  | [x], _, h => by simpa [joinB] using h x (by simp)
  | x :: y :: r, _, h => by
    have := h x (by simp)
    simp [joinB, this]

theorem orE_ne {s : Str} (h : s ≠ []) : orE s = s := by simp [orE, h]

theorem txtP_ne {l : Sl Part} (h : TameL l) (hne : l.2 ≠ []) : txtP l.2 ≠ [] :=
  joinB_ne (by simpa using hne) fun x hx => by
    obtain ⟨p, hp, rfl⟩ := List.mem_map.1 hx
    exact (h.txt p hp).2

theorem take_empty {α : Type} {xs : List α} {i : Nat} {a : α} (h : xs[i]? = some a) : (xs.take i).isEmpty = decide (i = 0) := by
  cases xs with
  | nil => simp at h
  | cons b l => cases i <;> simp

theorem c106 {l : Sl Part} (hl : TameL l) (σ : St) : Ret W 106 [pvParts l] σ (.str (orE (txtP l.2))) := by
  refine ret_of fun R hR => ?_
  rw [fn106_eq]
  unfold fn106
  have hne0 := txtP_ne hl
  obtain ⟨k, l⟩ := l
  have hlen := hl.len
  have htx := hl.txt
  simp only at hlen htx hne0 hR
  have hv : pvParts (k, l) = .list k (l.map pvPart) := rfl
  rw [hv]
  simp only [List.length_map, zz, Nat.reduceEqDiff, if_true, if_false, decide_true, decide_false, eq_self]
  by_cases h0 : l = []
  · subst h0
    simp only [List.length_nil, zz, Nat.reduceEqDiff, if_true, if_false, decide_true, decide_false, eq_self]
    exact weakW_keep hR
  have hn0 : ((l.length : Int) == 0) = false := by
    have := List.length_pos_iff.2 h0
    rw [beq_eq_false_iff_ne]
    omega
  rw [orE_ne (hne0 h0)] at hR
  simp only [hn0, zz, Nat.reduceEqDiff, if_true, if_false, decide_true, decide_false, eq_self]
  refine CutW_of ?_
  refine Lfp_up l.length (fun i x σ' => x = lookP [(0, .list k (l.map pvPart)), (3, .str (joinB [32] ((l.map (·.2)).take i))), (4, .int .i64 i)] ∧ σ' = σ) ?_ ⟨rfl, rfl⟩
  rintro Φ i x σ' hi ⟨rfl, rfl⟩ next
  simp only [List.length_map, zz, Nat.reduceEqDiff, if_true, if_false, decide_true, decide_false, eq_self]
  have hjt := joinB_take_le (sep := [32]) (m := 41) (n := 64) (xs := l.map (·.2)) (fun x hx => by
    obtain ⟨p, hp, rfl⟩ := List.mem_map.1 hx
    exact (htx p hp).1) (by simp; omega)
  have hj1 := hjt i
  have hj2 := hjt (i + 1)
  by_cases hlt : i < l.length
  · have hgi : l[i]? = some l[i] := by simp [hlt]
    have hmem : l[i] ∈ l := by simp
    generalize l[i] = p at hgi hmem
    have hpl := (htx p hmem).1
    have hgm : (l.map (·.2))[i]? = some p.2 := by rw [List.getElem?_map, hgi]; rfl
    have htk : (l.map (·.2)).take (i + 1) = (l.map (·.2)).take i ++ [p.2] := by rw [List.take_add_one, hgm]; rfl
    have hj := joinB_snoc [32] ((l.map (·.2)).take i) p.2
    rw [← htk, take_empty hgm] at hj
    have hpp : pvPart p = .agg [.bool p.1, .str p.2] := rfl
    simp only [hlt, zz, Nat.reduceEqDiff, if_true, if_false, decide_true, decide_false, eq_self]
    refine CutW_of (CutW_of ?_)
    simp only [List.length_cons, List.length_nil] at hj1 hj2
    by_cases hi0 : i = 0
    · subst hi0
      simp only [decide_true, if_true] at hj
      have hg : decide (((0 : Nat) : Int) > 0) = false := rfl
      simp only [hg, encPart.index hgi, hpp, zz, Nat.reduceEqDiff, if_true, if_false, decide_true, decide_false, eq_self]
      rw [vBin_add_str _ (by omega)]
      simp only [zz, Nat.reduceEqDiff, if_true, if_false, decide_true, decide_false, eq_self]
      rw [vBin_add _ (by omega) (by omega)]
      refine next _ _ hlt ⟨?_, rfl⟩
      rw [hj]
      simp [joinB]
    · simp only [hi0, decide_false, Bool.false_eq_true, if_false] at hj
      have hg : decide ((i : Int) > 0) = true := by simp; omega
      simp only [hg, zz, Nat.reduceEqDiff, if_true, if_false, decide_true, decide_false, eq_self]
      rw [vBin_add_str _ (by simp; omega)]
      simp only [encPart.index hgi, hpp, zz, Nat.reduceEqDiff, if_true, if_false, decide_true, decide_false, eq_self]
      rw [vBin_add_str _ (by simp; omega)]
      simp only [zz, Nat.reduceEqDiff, if_true, if_false, decide_true, decide_false, eq_self]
      rw [vBin_add _ (by omega) (by omega)]
      exact next _ _ hlt ⟨by simp [hj], rfl⟩
  · obtain rfl : i = l.length := by omega
    have : (l.map (·.2)).take l.length = l.map (·.2) := List.take_of_length_le (by simp)
    simp only [hlt, this, zz, Nat.reduceEqDiff, if_true, if_false, decide_true, decide_false, eq_self]
    exact weakW_keep hR

set_option maxHeartbeats 2000000 in
theorem c33 {g : Gram} (hg : OkGram g) (σ : St) : Ret W 33 [pvGram g] σ (.tuple [.str (writeG g), .int .i64 (checkG g)]) := by
  refine ret_of fun R hR => ?_
  rw [fn33_eq]
  unfold fn33
  have hbox : opC.vBoxAny (pvGram g) = some (2, pvGram g) := rfl
  have hpt : vPart true 2 (pvGram g) 0 = some (pvGram g) := rfl
  simp only [hbox, hpt, zz, Nat.reduceEqDiff, if_true, if_false, decide_true, decide_false, eq_self]
  refine (c16 hg σ).callB ?_
  by_cases hck : checkG g ≠ 0
  · have hw : writeG g = [] := by simp [writeG, hck]
    rw [hw] at hR
    have hne : (checkG g != 0) = true := by simp [hck]
    simp only [hne, zz, Nat.reduceEqDiff, if_true, if_false, decide_true, decide_false, eq_self]
    exact weakW_keep hR
  have hck : checkG g = 0 := Decidable.not_not.1 hck
  have hw : writeG g = formG g := by simp [writeG, hck]
  rw [hw, hck] at hR
  have hT := tame_of hck
  obtain ⟨⟨mk, ms⟩, rk, rs⟩ := g
  obtain ⟨hml, hrl, hms, hrs⟩ := hT
  simp only at hml hrl hms hrs
  have hG : pvGram ((mk, ms), rk, rs) = .agg [.list mk (ms.map pvMeta), .list rk (rs.map pvRule)] := rfl
  have h00 : ((0 : Int) != 0) = false := rfl
  rw [hG, hck]
  simp only [h00, zz, Nat.reduceEqDiff, if_true, if_false, decide_true, decide_false, eq_self]
  refine CutW_of ?_
  refine Lfp_up ms.length (fun i x σ' => x = lookP [(5, .str ((ms.take i).map metaT).flatten), (6, .int .i64 i), (1, .agg [.list mk (ms.map pvMeta), .list rk (rs.map pvRule)])] ∧ σ' = σ) ?_ ⟨rfl, rfl⟩
  rintro Φ i x σ' hi ⟨rfl, rfl⟩ next
  simp only [List.length_map, zz, Nat.reduceEqDiff, if_true, if_false, decide_true, decide_false, eq_self]
  by_cases hlt : i < ms.length
  · have hgi : ms[i]? = some ms[i] := by simp [hlt]
    have hmem : ms[i] ∈ ms := by simp
    generalize ms[i] = m at hgi hmem
    have hm := hms m hmem
    have hsum := metas_le hml hms i
    have hflat := take_flat metaT hgi
    have hmle := metaT_le hm
    obtain ⟨nm, lk, ls⟩ := m
    have hpm : pvMeta (nm, lk, ls) = .agg [.str nm, .list lk (ls.map pvParts)] := rfl
    have hll := hm.len
    have hlm := hm.mem
    have hnl := hm.name
    simp only at hll hlm hnl
    have hix : ∀ {k : IntKind}, vIndex 2 (.list mk (ms.map pvMeta)) (.int k i) = some (.eptr (.agg [.str nm, .list lk (ls.map pvParts)]) 0) := by intro k; rw [encMeta.index hgi, hpm]
    have hjt := joinB_take_le (sep := [32, 59, 32]) (m := 2688) (n := 64) (xs := ls.map fun l => orE (txtP l.2)) (fun x hx => by
      obtain ⟨l, hl, rfl⟩ := List.mem_map.1 hx
      exact orE_le (txtP_le (hlm l hl)) (by omega)) (by simp; omega)
    simp only [List.length_cons, List.length_nil] at hjt
    simp only [hlt, zz, Nat.reduceEqDiff, if_true, if_false, decide_true, decide_false, eq_self]
    refine CutW_of ?_
    simp only [hix, zz, Nat.reduceEqDiff, if_true, if_false, decide_true, decide_false, eq_self]
    rw [vBin_add_str _ (by omega)]
    simp only [zz, Nat.reduceEqDiff, if_true, if_false, decide_true, decide_false, eq_self]
    rw [vBin_add_str _ (by simp only [List.length_append, List.length_cons, List.length_nil]; omega)]
    simp only [zz, Nat.reduceEqDiff, if_true, if_false, decide_true, decide_false, eq_self]
    refine CutW_of ?_
    refine Lfp_up ls.length (fun j x σ'' => x = lookP [(5, .str (((ms.take i).map metaT).flatten ++ nm ++ [32, 58, 58, 32] ++ joinB [32, 59, 32] ((ls.map fun l => orE (txtP l.2)).take j))), (6, .int .i64 i), (7, .int .i64 j), (1, .agg [.list mk (ms.map pvMeta), .list rk (rs.map pvRule)])] ∧ σ'' = σ') ?_ ⟨by simp [joinB], rfl⟩
    rintro Φ2 j x σ2 hj ⟨rfl, rfl⟩ next2
    have hj1 := hjt j
    simp only [hix, List.length_map, zz, Nat.reduceEqDiff, if_true, if_false, decide_true, decide_false, eq_self]
    by_cases hlt2 : j < ls.length
    · have hgj : ls[j]? = some ls[j] := by simp [hlt2]
      have hmj : ls[j] ∈ ls := by simp
      generalize ls[j] = l at hgj hmj
      have hgm : (ls.map fun l => orE (txtP l.2))[j]? = some (orE (txtP l.2)) := by rw [List.getElem?_map, hgj]; rfl
      have htk : (ls.map fun l => orE (txtP l.2)).take (j + 1) = (ls.map fun l => orE (txtP l.2)).take j ++ [orE (txtP l.2)] := by rw [List.take_add_one, hgm]; rfl
      have hjs := joinB_snoc [32, 59, 32] ((ls.map fun l => orE (txtP l.2)).take j) (orE (txtP l.2))
      rw [← htk, take_empty hgm] at hjs
      have hol := orE_le (txtP_le (hlm l hmj)) (n := 2688) (by omega)
      have hmk := c106 (hlm l hmj) σ2
      simp only [hlt2, zz, Nat.reduceEqDiff, if_true, if_false, decide_true, decide_false, eq_self]
      refine CutW_of (CutW_of ?_)
      by_cases hj0 : j = 0
      · subst hj0
        simp only [decide_true, if_true] at hjs
        have hg : decide (((0 : Nat) : Int) > 0) = false := rfl
        simp only [hg, hix, encParts.index hgj, encParts.part, zz, Nat.reduceEqDiff, if_true, if_false, decide_true, decide_false, eq_self]
        refine hmk.callB ?_
        rw [vBin_add_str _ (by simp only [List.length_append, List.length_cons, List.length_nil, List.take_zero, joinB]; omega)]
        simp only [zz, Nat.reduceEqDiff, if_true, if_false, decide_true, decide_false, eq_self]
        rw [vBin_add _ (by omega) (by omega)]
        refine next2 _ _ hlt2 ⟨?_, rfl⟩
        rw [hjs]
        simp [joinB]
      · simp only [hj0, decide_false, Bool.false_eq_true, if_false] at hjs
        have hg : decide ((j : Int) > 0) = true := by simp; omega
        simp only [hg, zz, Nat.reduceEqDiff, if_true, if_false, decide_true, decide_false, eq_self]
        rw [vBin_add_str _ (by simp only [List.length_append, List.length_cons, List.length_nil]; omega)]
        simp only [hix, encParts.index hgj, encParts.part, zz, Nat.reduceEqDiff, if_true, if_false, decide_true, decide_false, eq_self]
        refine hmk.callB ?_
        rw [vBin_add_str _ (by simp only [List.length_append, List.length_cons, List.length_nil]; omega)]
        simp only [zz, Nat.reduceEqDiff, if_true, if_false, decide_true, decide_false, eq_self]
        rw [vBin_add _ (by omega) (by omega)]
        exact next2 _ _ hlt2 ⟨by simp [hjs], rfl⟩
    · obtain rfl : j = ls.length := by omega
      have hal : (ls.map fun l => orE (txtP l.2)).take ls.length = ls.map fun l => orE (txtP l.2) := List.take_of_length_le (by simp)
      rw [hal] at hj1
      simp only [hlt2, hal, zz, Nat.reduceEqDiff, if_true, if_false, decide_true, decide_false, eq_self]
      rw [vBin_add_str _ (by simp only [List.length_append, List.length_cons, List.length_nil]; omega)]
      simp only [zz, Nat.reduceEqDiff, if_true, if_false, decide_true, decide_false, eq_self]
      rw [vBin_add _ (by omega) (by omega)]
      refine next _ _ hlt ⟨?_, rfl⟩
      rw [hflat]
      simp only [metaT, List.append_assoc]
      rfl
  obtain rfl : i = ms.length := by omega
  have hsumM := metas_le hml hms ms.length
  rw [List.take_length] at hsumM
  simp only [hlt, List.take_length, zz, Nat.reduceEqDiff, if_true, if_false, decide_true, decide_false, eq_self]
  clear next hlt hi
  refine CutW_of ?_
  refine Lfp_up rs.length (fun i x σ'' => x = lookP [(5, .str ((ms.map metaT).flatten ++ ((rs.take i).map ruleT).flatten)), (8, .int .i64 i), (1, .agg [.list mk (ms.map pvMeta), .list rk (rs.map pvRule)])] ∧ σ'' = σ') ?_ ⟨by simp, rfl⟩
  rintro Φ i x σ2 hi ⟨rfl, rfl⟩ next
  simp only [List.length_map, zz, Nat.reduceEqDiff, if_true, if_false, decide_true, decide_false, eq_self]
  have hsum := rules_le hrl hrs i
  by_cases hlt : i < rs.length
  · have hgi : rs[i]? = some rs[i] := by simp [hlt]
    have hmem : rs[i] ∈ rs := by simp
    generalize rs[i] = r at hgi hmem
    have hr := hrs r hmem
    have hflat := take_flat ruleT hgi
    have hrle := ruleT_le hr
    obtain ⟨lf, lk, ls⟩ := r
    have hpr : pvRule (lf, lk, ls) = .agg [pvParts lf, .list lk (ls.map pvParts)] := rfl
    have hll := hr.len
    have hlm := hr.mem
    have hlf := hr.left
    have hlne := hr.lne
    simp only at hll hlm hlf hlne
    have hlfl := txtP_le hlf
    have hlfe : orE (txtP lf.2) = txtP lf.2 := orE_ne (txtP_ne hlf hlne)
    have hix : ∀ {k : IntKind}, vIndex 2 (.list rk (rs.map pvRule)) (.int k i) = some (.eptr (.agg [pvParts lf, .list lk (ls.map pvParts)]) 0) := by intro k; rw [encRule.index hgi, hpr]
    have hjt := joinB_take_le (sep := [44, 32]) (m := 2688) (n := 64) (xs := ls.map fun l => txtP l.2) (fun x hx => by
      obtain ⟨l, hl, rfl⟩ := List.mem_map.1 hx
      exact txtP_le (hlm l hl).1) (by simp; omega)
    simp only [List.length_cons, List.length_nil] at hjt
    have hmk0 := c106 hlf σ2
    rw [hlfe] at hmk0
    simp only [hlt, zz, Nat.reduceEqDiff, if_true, if_false, decide_true, decide_false, eq_self]
    refine CutW_of ?_
    simp only [hix, zz, Nat.reduceEqDiff, if_true, if_false, decide_true, decide_false, eq_self]
    refine hmk0.callB ?_
    rw [vBin_add_str _ (by simp only [List.length_append, List.length_cons, List.length_nil]; omega)]
    simp only [zz, Nat.reduceEqDiff, if_true, if_false, decide_true, decide_false, eq_self]
    rw [vBin_add_str _ (by simp only [List.length_append, List.length_cons, List.length_nil]; omega)]
    simp only [zz, Nat.reduceEqDiff, if_true, if_false, decide_true, decide_false, eq_self]
    refine CutW_of ?_
    refine Lfp_up ls.length (fun j x σ'' => x = lookP [(5, .str ((ms.map metaT).flatten ++ ((rs.take i).map ruleT).flatten ++ txtP lf.2 ++ [32, 58, 32] ++ joinB [44, 32] ((ls.map fun l => txtP l.2).take j))), (8, .int .i64 i), (9, .int .i64 j), (1, .agg [.list mk (ms.map pvMeta), .list rk (rs.map pvRule)])] ∧ σ'' = σ2) ?_ ⟨by simp [joinB], rfl⟩
    rintro Φ2 j x σ3 hj ⟨rfl, rfl⟩ next2
    have hj1 := hjt j
    simp only [hix, List.length_map, zz, Nat.reduceEqDiff, if_true, if_false, decide_true, decide_false, eq_self]
    by_cases hlt2 : j < ls.length
    · have hgj : ls[j]? = some ls[j] := by simp [hlt2]
      have hmj : ls[j] ∈ ls := by simp
      generalize ls[j] = l at hgj hmj
      have hgm : (ls.map fun l => txtP l.2)[j]? = some (txtP l.2) := by rw [List.getElem?_map, hgj]; rfl
      have htk : (ls.map fun l => txtP l.2).take (j + 1) = (ls.map fun l => txtP l.2).take j ++ [txtP l.2] := by rw [List.take_add_one, hgm]; rfl
      have hjs := joinB_snoc [44, 32] ((ls.map fun l => txtP l.2).take j) (txtP l.2)
      rw [← htk, take_empty hgm] at hjs
      have hol := txtP_le (hlm l hmj).1
      have hmk := c106 (hlm l hmj).1 σ3
      rw [orE_ne (txtP_ne (hlm l hmj).1 (hlm l hmj).2)] at hmk
      simp only [hlt2, zz, Nat.reduceEqDiff, if_true, if_false, decide_true, decide_false, eq_self]
      refine CutW_of (CutW_of ?_)
      by_cases hj0 : j = 0
      · subst hj0
        simp only [decide_true, if_true] at hjs
        have hg : decide (((0 : Nat) : Int) > 0) = false := rfl
        simp only [hg, hix, encParts.index hgj, encParts.part, zz, Nat.reduceEqDiff, if_true, if_false, decide_true, decide_false, eq_self]
        refine hmk.callB ?_
        rw [vBin_add_str _ (by simp only [List.length_append, List.length_cons, List.length_nil, List.take_zero, joinB]; omega)]
        simp only [zz, Nat.reduceEqDiff, if_true, if_false, decide_true, decide_false, eq_self]
        rw [vBin_add _ (by omega) (by omega)]
        refine next2 _ _ hlt2 ⟨?_, rfl⟩
        rw [hjs]
        simp [joinB]
      · simp only [hj0, decide_false, Bool.false_eq_true, if_false] at hjs
        have hg : decide ((j : Int) > 0) = true := by simp; omega
        simp only [hg, zz, Nat.reduceEqDiff, if_true, if_false, decide_true, decide_false, eq_self]
        rw [vBin_add_str _ (by simp only [List.length_append, List.length_cons, List.length_nil]; omega)]
        simp only [hix, encParts.index hgj, encParts.part, zz, Nat.reduceEqDiff, if_true, if_false, decide_true, decide_false, eq_self]
        refine hmk.callB ?_
        rw [vBin_add_str _ (by simp only [List.length_append, List.length_cons, List.length_nil]; omega)]
        simp only [zz, Nat.reduceEqDiff, if_true, if_false, decide_true, decide_false, eq_self]
        rw [vBin_add _ (by omega) (by omega)]
        exact next2 _ _ hlt2 ⟨by simp [hjs], rfl⟩
    · obtain rfl : j = ls.length := by omega
      have hal : (ls.map fun l => txtP l.2).take ls.length = ls.map fun l => txtP l.2 := List.take_of_length_le (by simp)
      rw [hal] at hj1
      simp only [hlt2, hal, zz, Nat.reduceEqDiff, if_true, if_false, decide_true, decide_false, eq_self]
      refine CutW_of ?_
      simp only [hix, List.length_map, zz, Nat.reduceEqDiff, if_true, if_false, decide_true, decide_false, eq_self]
      by_cases hz : ls = []
      · subst hz
        simp only [List.length_nil, List.map_nil, joinB, List.append_nil, zz, Nat.reduceEqDiff, if_true, if_false, decide_true, decide_false, eq_self]
        have : (((0 : Nat) : Int) == 0) = true := rfl
        simp only [this, zz, Nat.reduceEqDiff, if_true, if_false, decide_true, decide_false, eq_self]
        rw [vBin_add_str _ (by simp only [List.length_append, List.length_cons, List.length_nil]; omega)]
        simp only [zz, Nat.reduceEqDiff, if_true, if_false, decide_true, decide_false, eq_self]
        rw [vBin_add_str _ (by simp only [List.length_append, List.length_cons, List.length_nil]; omega)]
        simp only [zz, Nat.reduceEqDiff, if_true, if_false, decide_true, decide_false, eq_self]
        rw [vBin_add _ (by omega) (by omega)]
        refine next _ _ hlt ⟨?_, rfl⟩
        rw [hflat]
        simp [ruleT, orE, joinB]
      · have hz0 : ((ls.length : Int) == 0) = false := by
          have := List.length_pos_iff.2 hz
          rw [beq_eq_false_iff_ne]
          omega
        simp only [hz0, zz, Nat.reduceEqDiff, if_true, if_false, decide_true, decide_false, eq_self]
        rw [vBin_add_str _ (by simp only [List.length_append, List.length_cons, List.length_nil]; omega)]
        simp only [zz, Nat.reduceEqDiff, if_true, if_false, decide_true, decide_false, eq_self]
        rw [vBin_add _ (by omega) (by omega)]
        refine next _ _ hlt ⟨?_, rfl⟩
        have hoe : orE (joinB [44, 32] (ls.map fun l => txtP l.2)) = joinB [44, 32] (ls.map fun l => txtP l.2) := orE_ne (joinB_ne (by simpa using hz) fun x hx => by
          obtain ⟨l, hl, rfl⟩ := List.mem_map.1 hx
          exact txtP_ne (hlm l hl).1 (hlm l hl).2)
        rw [hflat]
        simp only [ruleT, hoe, List.append_assoc]
        rfl
  obtain rfl : i = rs.length := by omega
  simp only [hlt, List.take_length, zz, Nat.reduceEqDiff, if_true, if_false, decide_true, decide_false, eq_self]
  exact weakW_keep hR

theorem metaT_ref (m : Meta19) : metaT (refMeta m) = metaT m := by
  have : ((refMeta m).2.2.map fun l => orE (txtP l.2)) = m.2.2.map fun l => orE (txtP l.2) := by
    show ((m.2.2.map refParts).map fun l => orE (txtP l.2)) = _
    rw [List.map_map]
    rfl
  simp only [metaT, this]
  rfl

theorem ruleT_ref (r : Rule19) : ruleT (refRule r) = ruleT r := by
  have : ((refRule r).2.2.map fun l => txtP l.2) = r.2.2.map fun l => txtP l.2 := by
    show ((r.2.2.map refParts).map fun l => txtP l.2) = _
    rw [List.map_map]
    rfl
  simp only [ruleT, this]
  rfl

theorem writeG_ref (g : Gram) : writeG (refGram g) = writeG g := by
  have h : formG (refGram g) = formG g := by
    show ((g.1.2.map refMeta).map metaT).flatten ++ ((g.2.2.map refRule).map ruleT).flatten = _
    rw [List.map_map, List.map_map]
    have e1 : metaT ∘ refMeta = metaT := funext metaT_ref
    have e2 : ruleT ∘ refRule = ruleT := funext ruleT_ref
    rw [e1, e2]
    rfl
  simp only [writeG, checkG_ref, h]

/-- The law, the examples' run taken as given. -/
theorem c8 (hawake : ∀ σ : St, σ = [] → Ret W 13 [] σ (.bool true)) {g : Gram} (hg : OkGram g) : Ret W 8 [pvGram g] [] (.bool true) := by
  refine ret_of fun R hR => ?_
  rw [fn8_eq]
  unfold fn8
  have hbox : opC.vBoxAny (pvGram g) = some (2, pvGram g) := rfl
  have hpt : vPart true 2 (pvGram g) 0 = some (pvGram g) := rfl
  simp only [hbox, zz, Nat.reduceEqDiff, if_true, if_false, decide_true, decide_false, eq_self]
  refine (hawake [] rfl).callB ?_
  simp only [hpt, zz, Nat.reduceEqDiff, if_true, if_false, decide_true, decide_false, eq_self]
  refine (c14 hg []).callB ?_
  cases h : smallG g with
  | false =>
    simp only [zz, Nat.reduceEqDiff, if_true, if_false, decide_true, decide_false, eq_self]
    exact weakW_keep hR
  | true =>
    simp only [hpt, zz, Nat.reduceEqDiff, if_true, if_false, decide_true, decide_false, eq_self]
    refine (c32 hg []).callB ?_
    simp only [hpt, zz, Nat.reduceEqDiff, if_true, if_false, decide_true, decide_false, eq_self]
    refine (c17 hg []).callB ?_
    refine (c33 (okGram_ref hg) []).callB ?_
    simp only [checkG_ref, writeG_ref, BEq.rfl, zz, Nat.reduceEqDiff, if_true, if_false, decide_true, decide_false, eq_self]
    exact weakW_keep hR

end Go.Proofs.YtiniifbmeobmgaaGreatDoor
