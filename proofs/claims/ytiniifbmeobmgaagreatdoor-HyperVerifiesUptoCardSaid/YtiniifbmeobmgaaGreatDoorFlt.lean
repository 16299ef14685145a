/- Values that name no place; what is given up. -/
import Derived.Test.YtiniifbmeobmgaaGreatDoorSpcC
set_option linter.unusedVariables false
set_option linter.unusedSimpArgs false
namespace Go.Proofs.YtiniifbmeobmgaaGreatDoor
open Go Go.Abs

/-- Values that name no place. -/
inductive Flat : PV → Prop where
  | bool (b) : Flat (.bool b)
  | int (k i) : Flat (.int k i)
  | str (l) : Flat (.str l)
  | list (k xs) : (∀ x ∈ xs, Flat x) → Flat (.list k xs)
  | agg (xs) : (∀ x ∈ xs, Flat x) → Flat (.agg xs)
  | tuple (xs) : (∀ x ∈ xs, Flat x) → Flat (.tuple xs)

theorem Flat.free {x : PV} (h : Flat x) (D : Nat → Prop) : Free D x := by
  induction h with
  | bool b => exact .bool b
  | int k i => exact .int k i
  | str l => exact .str l
  | list k xs _ ih => exact .list k xs fun i x hx => ih x (List.mem_of_getElem? hx)
  | agg xs _ ih => exact .agg xs fun i x hx => ih x (List.mem_of_getElem? hx)
  | tuple xs _ ih => exact .tuple xs fun i x hx => ih x (List.mem_of_getElem? hx)

theorem Flat.frz {x : PV} (h : Flat x) (σ : St) (D : Nat → Prop) : FrzD σ D x x := .base _ (h.free D)

theorem flatPart (p : Part) : Flat (pvPart p) := .agg _ fun x h => by
  simp only [List.mem_cons, List.not_mem_nil, or_false] at h
  rcases h with rfl | rfl
  · exact .bool _
  · exact .str _
theorem flatSl {α : Type} {enc : α → PV} (h : ∀ a, Flat (enc a)) (p : Sl α) : Flat (pvSl enc p) := .list _ _ fun x hx => by
  obtain ⟨a, _, rfl⟩ := List.mem_map.1 hx
  exact h a
theorem flatParts (p : Sl Part) : Flat (pvParts p) := flatSl flatPart p
theorem flatLists (p : Lists) : Flat (pvLists p) := flatSl flatParts p
theorem flatMeta (m : Meta19) : Flat (pvMeta m) := .agg _ fun x h => by
  simp only [List.mem_cons, List.not_mem_nil, or_false] at h
  rcases h with rfl | rfl
  · exact .str _
  · exact flatLists _
theorem flatRule (m : Rule19) : Flat (pvRule m) := .agg _ fun x h => by
  simp only [List.mem_cons, List.not_mem_nil, or_false] at h
  rcases h with rfl | rfl
  · exact flatParts _
  · exact flatLists _

def FrzL (σ : St) (D : Nat → Prop) : List (Nat × PV) → List (Nat × PV) → Prop
  | [], [] => True
  | a :: l, b :: l' => a.1 = b.1 ∧ FrzD σ D a.2 b.2 ∧ FrzL σ D l l'
  | _, _ => False

theorem lookP_frz {σ : St} {D : Nat → Prop} : ∀ {l l' : List (Nat × PV)}, FrzL σ D l l' → ∀ t, FrzD σ D (lookP l t) (lookP l' t)
  | [], [], _, t => .base _ .any
  | a :: l, b :: l', h, t => by
    obtain ⟨h1, h2, h3⟩ := h
    obtain ⟨k, x⟩ := a
    obtain ⟨k', y⟩ := b
    simp only at h1 h2
    subst h1
    simp only [lookP]
    split
    · exact h2
    · exact lookP_frz h3 t
  | [], _ :: _, h, t => h.elim
  | _ :: _, [], h, t => h.elim

/-- A store whose blocks name no place. -/
def FlatSt (σ : St) : Prop := ∀ (b : Nat) k, σ[b]? = some k → ∃ g z xs, k = .arr g z xs ∧ ∀ x ∈ xs, Flat x

/-- All blocks from one on are given up. -/
theorem kill_to {σ₀ σ σ2 : St} (hp : σ <+: σ2) (h0 : σ₀.length ≤ σ.length) (hf : FlatSt σ) : Kill σ₀ (fun b => σ.length ≤ b) σ2 σ := by
  refine ⟨fun b hb => Nat.le_trans h0 hb, hp.length_le, fun b hb _ => hb, fun b k' hb => .inr ⟨?_, k', ?_, .inl (.inr ?_)⟩⟩
  · have := (List.getElem?_eq_some_iff.1 hb).1
    omega
  · obtain ⟨t, rfl⟩ := hp
    rw [List.getElem?_append_left (List.getElem?_eq_some_iff.1 hb).1]
    exact hb
  · obtain ⟨g, z, xs, rfl, hx⟩ := hf b k' hb
    refine ⟨xs, rfl, rfl, fun i x y hx' hy => ?_⟩
    rw [hx'] at hy
    cases hy
    exact (hx x (List.mem_of_getElem? hx')).frz _ _

theorem grow_frzD {n0 sz : Nat} {σ : St} {x : PV} {ys : List PV} (h : Grow n0 sz σ x ys) {D : Nat → Prop} (hD : ∀ b, n0 ≤ b → D b) (hu : ∀ y ∈ ys, Flat y) : FrzD σ D x (growV ys) := by
  rcases h with ⟨rfl, rfl⟩ | ⟨b, g, hb0, rfl, hb, hne⟩
  · exact .list _ _ _ rfl (by simp)
  · cases ys with
    | nil => exact absurd rfl hne
    | cons y ys =>
      refine .sref b g sz 0 _ g sz _ _ hb rfl (hD b hb0) rfl (by omega) fun i a c hi ha hc => ?_
      rw [Nat.zero_add, hc] at ha
      cases ha
      exact (hu a (List.mem_of_getElem? hc)).frz _ _

/-- Growing keeps a store flat. -/
theorem flat_app {σ0 : St} {sz by_ : Nat} {σ : St} {x : PV} {ys zs : List PV} {k : LK} (h : Grow σ0.length sz σ x ys) (hp : σ0 <+: σ) (hz : ∀ z ∈ zs, Sized sz z) (hr : (ys.length + zs.length) * by_ ≤ 140737488355328)
    (hf : FlatSt σ) (hzf : ∀ z ∈ zs, Flat z) :
    ∃ x' σ', vAppend sz by_ x (.list k zs) σ = some (x', σ') ∧ Grow σ0.length sz σ' x' (ys ++ zs) ∧ σ0 <+: σ' ∧ FlatSt σ' := by
  obtain ⟨x', σ', h1, h2, h3, _⟩ := h.app (by_ := by_) (y := .list k zs) hp rfl hz hr
  refine ⟨x', σ', h1, h2, h3, ?_⟩
  have hy : vElems (.list k zs) σ = some zs := rfl
  simp only [vAppend, hy] at h1
  rcases h with ⟨rfl, rfl⟩ | ⟨b, g, hb0, rfl, hb, hne⟩
  · simp only at h1
    split at h1
    · cases h1; exact hf
    · split at h1
      · cases h1
        intro c q hc
        rw [List.getElem?_append] at hc
        split at hc
        · exact hf c q hc
        · rw [List.getElem?_singleton] at hc
          split at hc
          · exact ⟨_, _, _, (Option.some.inj hc).symm, by simpa using hzf⟩
          · cases hc
      · cases h1
  · simp only [hb] at h1
    split at h1
    · cases h1; exact hf
    · split at h1
      · cases h1
        intro c q hc
        rw [List.getElem?_set] at hc
        split at hc
        · split at hc
          · obtain rfl := (Option.some.inj hc).symm
            refine ⟨_, _, _, rfl, fun z hz => ?_⟩
            rcases List.mem_append.1 hz with hz | hz
            · obtain ⟨_, _, _, h5, h6⟩ := hf b _ hb
              cases h5
              exact h6 z (List.mem_of_mem_drop (List.mem_of_mem_take hz))
            · exact hzf z hz
          · cases hc
        · exact hf c q hc
      · cases h1

end Go.Proofs.YtiniifbmeobmgaaGreatDoor
