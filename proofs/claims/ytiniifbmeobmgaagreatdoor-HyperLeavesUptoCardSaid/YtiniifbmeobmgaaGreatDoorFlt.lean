/- Values that name no place; what is given up. -/
import Derived.Test.YtiniifbmeobmgaaGreatDoorSpcC
set_option linter.unusedVariables false
set_option linter.unusedSimpArgs false
namespace Go.Proofs.YtiniifbmeobmgaaGreatDoor
open Go Go.Abs

/-- Values that name no place. -/
inductive Flat : PV → Prop where
  | bool (b) : Flat (.bool b)
  | int (k i) : Flat (.int k i)
  | str (l) : Flat (.str l)
  | list (k xs) : (∀ x ∈ xs, Flat x) → Flat (.list k xs)
  | agg (xs) : (∀ x ∈ xs, Flat x) → Flat (.agg xs)
  | tuple (xs) : (∀ x ∈ xs, Flat x) → Flat (.tuple xs)

theorem Flat.free {x : PV} (h : Flat x) (D : Nat → Prop) : Free D x := by
  induction h with
  | bool b => exact .bool b
  | int k i => exact .int k i
  | str l => exact .str l
  | list k xs _ ih => exact .list k xs fun i x hx => ih x (List.mem_of_getElem? hx)
  | agg xs _ ih => exact .agg xs fun i x hx => ih x (List.mem_of_getElem? hx)
  | tuple xs _ ih => exact .tuple xs fun i x hx => ih x (List.mem_of_getElem? hx)

theorem Flat.frz {x : PV} (h : Flat x) (σ : St) (D : Nat → Prop) : FrzD σ D x x := .base _ (h.free D)

theorem flatPart (p : Part) : Flat (pvPart p) := .agg _ fun x h => by
  simp only [List.mem_cons, List.not_mem_nil, or_false] at h
  rcases h with rfl | rfl
  · exact .bool _
  · exact .str _
theorem flatSl {α : Type} {enc : α → PV} (h : ∀ a, Flat (enc a)) (p : Sl α) : Flat (pvSl enc p) := .list _ _ fun x hx => by
  obtain ⟨a, _, rfl⟩ := List.mem_map.1 hx
  exact h a
theorem flatParts (p : Sl Part) : Flat (pvParts p) := flatSl flatPart p
theorem flatLists (p : Lists) : Flat (pvLists p) := flatSl flatParts p
theorem flatMeta (m : Meta19) : Flat (pvMeta m) := .agg _ fun x h => by
  simp only [List.mem_cons, List.not_mem_nil, or_false] at h
  rcases h with rfl | rfl
  · exact .str _
  · exact flatLists _
theorem flatRule (m : Rule19) : Flat (pvRule m) := .agg _ fun x h => by
  simp only [List.mem_cons, List.not_mem_nil, or_false] at h
  rcases h with rfl | rfl
  · exact flatParts _
  · exact flatLists _

def FrzL (σ : St) (D : Nat → Prop) : List (Nat × PV) → List (Nat × PV) → Prop
  | [], [] => True
  | a :: l, b :: l' => a.1 = b.1 ∧ FrzD σ D a.2 b.2 ∧ FrzL σ D l l'
  | _, _ => False

theorem lookP_frz {σ : St} {D : Nat → Prop} : ∀ {l l' : List (Nat × PV)}, FrzL σ D l l' → ∀ t, FrzD σ D (lookP l t) (lookP l' t)
  | [], [], _, t => .base _ .any
  | a :: l, b :: l', h, t => by
    obtain ⟨h1, h2, h3⟩ := h
    obtain ⟨k, x⟩ := a
    obtain ⟨k', y⟩ := b
    simp only at h1 h2
    subst h1
    simp only [lookP]
    split
    · exact h2
    · exact lookP_frz h3 t
  | [], _ :: _, h, t => h.elim
  | _ :: _, [], h, t => h.elim

end Go.Proofs.YtiniifbmeobmgaaGreatDoor
