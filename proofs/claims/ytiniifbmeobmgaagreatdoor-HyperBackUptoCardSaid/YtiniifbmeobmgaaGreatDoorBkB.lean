/- The law HyperBack. -/
import Derived.Test.YtiniifbmeobmgaaGreatDoorBkA
import Derived.Test.YtiniifbmeobmgaaGreatDoorRdS
set_option linter.unusedVariables false
set_option linter.unusedSimpArgs false
namespace Go.Proofs.YtiniifbmeobmgaaGreatDoor
open Go Go.Abs

theorem txtP_le8 {l : Sl Part} (h : TameL l) (h8 : l.2.length ≤ 8) : (txtP l.2).length ≤ 336 := by
  have := joinB_le [32] 41 (l.2.map (·.2)) fun x hx => by
    obtain ⟨p, hp, rfl⟩ := List.mem_map.1 hx
    exact (h.txt p hp).1
  simp only [List.length_map] at this
  have h3 : l.2.length * (41 + ([32] : Str).length) ≤ 8 * 42 := Nat.mul_le_mul h8 (by simp)
  exact Nat.le_trans this h3

theorem long8_le {l : Sl Part} (h : long8 l = false) : l.2.length ≤ 8 := by
  unfold long8 at h
  simp at h
  omega

theorem many6_le {ls : Lists} (h : many6 ls = false) : ls.2.length ≤ 6 ∧ ∀ l ∈ ls.2, l.2.length ≤ 8 := by
  unfold many6 at h
  simp only [Bool.or_eq_false_iff, decide_eq_false_iff_not] at h
  exact ⟨by omega, fun l hl => long8_le (Bool.eq_false_iff.2 (List.any_eq_false.1 h.2 l hl))⟩

theorem metaT_le6 {m : Meta19} (h : TameM m) (h6 : many6 m.2 = false) : (metaT m).length ≤ 2082 := by
  obtain ⟨q1, q2⟩ := many6_le h6
  have h1 := joinB_le [32, 59, 32] 336 (m.2.2.map fun l => orE (txtP l.2)) fun x hx => by
    obtain ⟨l, hl, rfl⟩ := List.mem_map.1 hx
    exact orE_le (txtP_le8 (h.mem l hl) (q2 l hl)) (by omega)
  simp only [List.length_map] at h1
  have h2 : m.2.2.length * (336 + ([32, 59, 32] : Str).length) ≤ 6 * 339 := Nat.mul_le_mul q1 (by simp)
  have h3 := h.name
  unfold metaT
  simp only [List.length_append, List.length_cons, List.length_nil]
  omega

theorem ruleT_le6 {r : Rule19} (h : TameR r) (h8 : long8 r.1 = false) (h6 : many6 r.2 = false) : (ruleT r).length ≤ 2370 := by
  obtain ⟨q1, q2⟩ := many6_le h6
  have h1 := joinB_le [44, 32] 336 (r.2.2.map fun l => txtP l.2) fun x hx => by
    obtain ⟨l, hl, rfl⟩ := List.mem_map.1 hx
    exact txtP_le8 (h.mem l hl).1 (q2 l hl)
  simp only [List.length_map] at h1
  have h2 : r.2.2.length * (336 + ([44, 32] : Str).length) ≤ 6 * 338 := Nat.mul_le_mul q1 (by simp)
  have h3 := txtP_le8 h.left (long8_le h8)
  have h4 := orE_le (s := joinB [44, 32] (r.2.2.map fun l => txtP l.2)) (n := 2028) (by omega) (by omega)
  unfold ruleT
  simp only [List.length_append, List.length_cons, List.length_nil]
  omega

theorem form_len {g : Gram} (hck : checkG g = 0) (hs : smallG g = true) : (formG g).length ≤ 65536 := by
  have hT := tame_of hck
  unfold smallG at hs
  simp only [Bool.and_eq_true, decide_eq_true_eq, Bool.not_eq_true'] at hs
  obtain ⟨h1, h2, h3, h4⟩ := hs
  have a1 := flatten_le metaT 2082 g.1.2 fun m hm => metaT_le6 (hT.metas m hm) (Bool.eq_false_iff.2 (List.any_eq_false.1 h3 m hm))
  have a2 := flatten_le ruleT 2370 g.2.2 fun r hr => by
    have := Bool.eq_false_iff.2 (List.any_eq_false.1 h4 r hr)
    simp only [Bool.or_eq_false_iff] at this
    exact ruleT_le6 (hT.rules r hr) this.1 this.2
  have a3 : g.1.2.length * 2082 ≤ 8 * 2082 := Nat.mul_le_mul_right _ (by omega)
  have a4 : g.2.2.length * 2370 ≤ 20 * 2370 := Nat.mul_le_mul_right _ (by omega)
  unfold formG
  rw [List.length_append]
  omega

theorem eqG_self {g : Gram} (h : OkGram g) : EqG g g where
  ml := rfl
  ms := fun i x y hx hy => by
    rw [hx] at hy
    cases hy
    have hm := h.metas x (List.mem_of_getElem? hx)
    exact ⟨rfl, ⟨rfl, fun i x y hx hy => by rw [hx] at hy; cases hy; rfl⟩, Nat.lt_of_le_of_lt hm.alts.len (by decide), fun l hl => Nat.lt_of_le_of_lt (hm.alts.mem l hl).len (by decide)⟩
  mb := Nat.lt_of_le_of_lt h.ml (by decide)
  rl := rfl
  rs := fun i x y hx hy => by
    rw [hx] at hy
    cases hy
    have hr := h.rules x (List.mem_of_getElem? hx)
    exact ⟨rfl, Nat.lt_of_le_of_lt hr.left.len (by decide), ⟨rfl, fun i x y hx hy => by rw [hx] at hy; cases hy; rfl⟩, Nat.lt_of_le_of_lt hr.right.len (by decide), fun l hl => Nat.lt_of_le_of_lt (hr.right.mem l hl).len (by decide)⟩
  rb := Nat.lt_of_le_of_lt h.rl (by decide)

/-- The law, the examples' run taken as given. -/
theorem c9 (hawake : ∀ σ : St, σ = [] → Ret W 13 [] σ (.bool true)) {g : Gram} (hg : OkGram g) : Ret W 9 [pvGram g] [] (.bool true) := by
  refine ret_of fun R hR => ?_
  rw [fn9_eq]
  unfold fn9
  have hbox : opC.vBoxAny (pvGram g) = some (2, pvGram g) := rfl
  have hpt : ∀ g : Gram, vPart true 2 (pvGram g) 0 = some (pvGram g) := fun _ => rfl
  simp only [hbox, zz, Nat.reduceEqDiff, if_true, if_false, decide_true, decide_false, eq_self]
  refine (hawake [] rfl).callB ?_
  simp only [hpt, zz, Nat.reduceEqDiff, if_true, if_false, decide_true, decide_false, eq_self]
  refine (c14 hg []).callB ?_
  cases h : smallG g with
  | false =>
    simp only [zz, Nat.reduceEqDiff, if_true, if_false, decide_true, decide_false, eq_self]
    exact weakW_keep hR
  | true =>
    simp only [hpt, zz, Nat.reduceEqDiff, if_true, if_false, decide_true, decide_false, eq_self]
    refine (c32 hg []).callB ?_
    by_cases hck : checkG g = 0
    · have hw : writeG g = formG g := by simp [writeG, hck]
      have h00 : ((0 : Int) != 0) = false := rfl
      have h000 : ((0 : Int) == 0) = true := rfl
      have hgr := okGram_ref hg
      have hckr : checkG (refGram g) = 0 := by rw [checkG_ref]; exact hck
      have hwr : writeG (refGram g) = formG g := by rw [writeG_ref]; exact hw
      obtain ⟨ts, hL, hread⟩ := read_form hck
      have hread := hread (ts.length + 1) (Nat.lt_succ_self _)
      have hrv : readV (readF (formG g) none (ts.length + 1) ts) = .tuple [pvGram (refGram g), pvFlt (0, 0)] := by
        rw [hread]
        show PV.tuple [pvGram (mkGram (g.1.2.map toP) (g.2.2.map toR)), pvFlt (0, 0)] = _
        rw [mkGram_ref]
      have hpf : ∀ e : Flt, vPut 2 (.agg [(.int .i64 0), (.int .i64 0)]) 0 (pvFlt e) = some (pvFlt e) := fun e => rfl
      have hpg : ∀ g : Gram, vPut 2 (.agg [(.list .nil []), (.list .nil [])]) 0 (pvGram g) = some (pvGram g) := fun g => rfl
      have hqf : ∀ e : Flt, vPart true 2 (pvFlt e) 0 = some (pvFlt e) := fun e => rfl
      have hbd : vBuild [(.int .i64 0), (.int .i64 0)] [] = some [.int .i64 0, .int .i64 0] := rfl
      have heq : vBin (some (.st [.int, .int])) .eql (pvFlt (0, 0)) (.agg [.int .i64 0, .int .i64 0]) = some (.bool true) := by
        simp [vBin, vEq, vEqL, vEqS, pvFlt]
      simp only [hw, hck, h00, zz, Nat.reduceEqDiff, if_true, if_false, decide_true, decide_false, eq_self]
      refine (c20 (n := ts.length + 1) (form_len hck h) (Nat.lt_succ_self _) hL []).callB ?_
      rw [hrv]
      simp only [hpf, hpg, hpt, zz, Nat.reduceEqDiff, if_true, if_false, decide_true, decide_false, eq_self]
      refine (c32 hgr []).callB ?_
      simp only [hwr, hckr, hqf, hbd, heq, h000, BEq.rfl, hpt, zz, Nat.reduceEqDiff, if_true, if_false, decide_true, decide_false, eq_self]
      refine (c17 hg []).callB ?_
      refine (c22 (eqG_self hgr) []).callB ?_
      simp only [hpt, zz, Nat.reduceEqDiff, if_true, if_false, decide_true, decide_false, eq_self]
      refine (c15 hgr []).callB ?_
      simp only [hckr, h000, BEq.rfl, zz, Nat.reduceEqDiff, if_true, if_false, decide_true, decide_false, eq_self]
      exact weakW_keep hR
    · have hw : writeG g = [] := by simp [writeG, hck]
      have hne : (checkG g != 0) = true := by simp [hck]
      simp only [hw, hne, BEq.rfl, hpt, zz, Nat.reduceEqDiff, if_true, if_false, decide_true, decide_false, eq_self]
      refine (c15 hg []).callB ?_
      simp only [BEq.rfl, zz, Nat.reduceEqDiff, if_true, if_false, decide_true, decide_false, eq_self]
      exact weakW_keep hR

end Go.Proofs.YtiniifbmeobmgaaGreatDoor
