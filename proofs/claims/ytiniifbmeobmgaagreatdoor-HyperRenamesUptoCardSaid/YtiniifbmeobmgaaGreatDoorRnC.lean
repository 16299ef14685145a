/- Grammars as arguments: a nil slice is empty. -/
import Derived.Test.YtiniifbmeobmgaaGreatDoorRowKitG
import Derived.Test.YtiniifbmeobmgaaGreatDoorRnB
set_option linter.unusedVariables false
set_option linter.unusedSimpArgs false
namespace Go.Proofs.YtiniifbmeobmgaaGreatDoor
open Go Go.Abs Go.ChangeShapes Go.WideShapes Go.ChangeAt Go.RowKit

theorem kind_of {H : Type} {α : Type} {dat : α → DataW H → Prop} {p : Sl α} {d : DataW H} (h : datSl dat p d) : (p.1 = .nil → p.2 = []) ∧ ∀ a ∈ p.2, ∃ e, dat a e := by
  rcases h with ⟨rfl, rfl⟩ | ⟨es, sp, rfl, hk, hl, hr⟩
  · exact ⟨fun _ => rfl, fun a (ha : a ∈ []) => by simp at ha⟩
  · refine ⟨fun e => (by rw [hk] at e; cases e), fun a ha => ?_⟩
    obtain ⟨i, hi⟩ := List.getElem?_of_mem ha
    have hil : i < es.length := by rw [← hl]; exact (List.getElem?_eq_some_iff.1 hi).1
    exact ⟨es[i], hr i a _ hi (by simp [hil])⟩

theorem kGram_of {H : Type} {g : Gram} {d : DataW H} (h : dGram g d) : KGram g := by
  obtain ⟨x, y, rfl, hx, hy⟩ := h
  obtain ⟨_, m2⟩ := kind_of hx
  obtain ⟨_, r2⟩ := kind_of hy
  refine ⟨fun m hm l hl => ?_, fun r hr => ?_, fun r hr l hl => ?_⟩
  · obtain ⟨e, x, y, rfl, hx, hy⟩ := m2 m hm
    obtain ⟨e, he⟩ := (kind_of hy).2 l hl
    exact (kind_of he).1
  · obtain ⟨e, x, y, rfl, hx, hy⟩ := r2 r hr
    exact (kind_of hx).1
  · obtain ⟨e, x, y, rfl, hx, hy⟩ := r2 r hr
    obtain ⟨e, he⟩ := (kind_of hy).2 l hl
    exact (kind_of he).1

theorem u8_of {H : Type} {n : Int} {d : DataW H} (h : d = .lit (.int .u8 n) ∧ (Lit.int .u8 n).wf = true) : 0 ≤ n ∧ n < 256 := by
  have := h.2
  simp only [Lit.wf, Bool.and_eq_true, decide_eq_true_eq] at this
  have h1 : IntKind.u8.min = 0 := rfl
  have h2 : IntKind.u8.max = 255 := rfl
  omega

end Go.Proofs.YtiniifbmeobmgaaGreatDoor
