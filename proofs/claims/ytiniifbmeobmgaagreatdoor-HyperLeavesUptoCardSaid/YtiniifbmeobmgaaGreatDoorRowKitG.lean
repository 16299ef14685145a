/- Grammars as arguments of rows. -/
import Derived.Test.YtiniifbmeobmgaaGreatDoorRowKit19
import Derived.Test.YtiniifbmeobmgaaGreatDoorSpcC
set_option linter.unusedVariables false
set_option linter.unusedSimpArgs false
namespace Go.Proofs.YtiniifbmeobmgaaGreatDoor
open Go Go.Abs Go.ChangeShapes Go.WideShapes Go.ChangeAt Go.RowKit

section
variable {H : Type} {encH : TypeId × Value → H} {W : World}

abbrev dParts (l : Sl Part) (d : DataW H) : Prop := datSl dPart l d
abbrev dLists (l : Lists) (d : DataW H) : Prop := datSl dParts l d
abbrev dMeta (p : Meta19) (d : DataW H) : Prop := ∃ x y, d = .agg [x, y] ∧ dStr p.1 x ∧ dLists p.2 y
abbrev dRule (p : Rule19) (d : DataW H) : Prop := ∃ x y, d = .agg [x, y] ∧ dParts p.1 x ∧ dLists p.2 y
abbrev dGram (p : Gram) (d : DataW H) : Prop := ∃ x y, d = .agg [x, y] ∧ datSl dMeta p.1 x ∧ datSl dRule p.2 y

theorem opensLists : Opens encH Tryz.prog W (encSl (encSl pvPart)) dLists 74 1 := opens_slice Tryz.underlying74 (by kernel_rfl) (by decide) opensParts
theorem opensMeta : Opens encH Tryz.prog W pvMeta dMeta 76 2 :=
  opens_pair (e0 := PV.str) (e1 := encSl (encSl pvPart)) (t0 := 9) (t1 := 74) (s0 := 1) (s1 := 1) Tryz.underlying76 (by kernel_rfl) rfl rfl rfl rfl (opens_str Tryz.underlying9 (by kernel_rfl)) opensLists
theorem opensRule : Opens encH Tryz.prog W pvRule dRule 85 2 :=
  opens_pair (e0 := encSl pvPart) (e1 := encSl (encSl pvPart)) (t0 := 48) (t1 := 74) (s0 := 1) (s1 := 1) Tryz.underlying85 (by kernel_rfl) rfl rfl rfl rfl opensParts opensLists
theorem opensMetas : Opens encH Tryz.prog W (encSl pvMeta) (datSl dMeta) 22 1 := opens_slice Tryz.underlying22 (by kernel_rfl) (by decide) opensMeta
theorem opensRules : Opens encH Tryz.prog W (encSl pvRule) (datSl dRule) 23 1 := opens_slice Tryz.underlying23 (by kernel_rfl) (by decide) opensRule
theorem opensGram : Opens encH Tryz.prog W pvGram dGram 25 2 :=
  opens_pair (e0 := encSl pvMeta) (e1 := encSl pvRule) (t0 := 22) (t1 := 23) (s0 := 1) (s1 := 1) Tryz.underlying25 (by kernel_rfl) rfl rfl rfl rfl opensMetas opensRules

theorem bulk_mem {d : DataW H} : ∀ {l : List (DataW H)}, d ∈ l → Rows.uptoBulk d ≤ Rows.uptoBulkAll l
  | x :: r, h => by
    simp only [Rows.uptoBulkAll]
    rcases List.mem_cons.1 h with rfl | h
    · omega
    · have := bulk_mem h
      omega

theorem bulk_one : ∀ d : DataW H, 1 ≤ Rows.uptoBulk d
  | .lit (.string b) => by simp [Rows.uptoBulk]
  | .lit (.bool _) => by simp [Rows.uptoBulk]
  | .lit (.int _ _) => by simp [Rows.uptoBulk]
  | .lit (.float _ _) => by simp [Rows.uptoBulk]
  | .lit .nil => by simp [Rows.uptoBulk]
  | .nil => by simp [Rows.uptoBulk]
  | .ptr _ => by simp [Rows.uptoBulk]
  | .slice _ _ => by simp [Rows.uptoBulk]
  | .agg _ => by simp [Rows.uptoBulk]
  | .iface _ _ => by simp [Rows.uptoBulk]
  | .map _ => by simp [Rows.uptoBulk]
  | .held _ => by simp [Rows.uptoBulk]

theorem bulk_len : ∀ l : List (DataW H), l.length ≤ Rows.uptoBulkAll l
  | [] => Nat.zero_le _
  | d :: l => by
    have h1 := bulk_one d
    have h2 := bulk_len l
    simp only [Rows.uptoBulkAll, List.length_cons]
    omega

theorem bulk_sl {α : Type} {dat : α → DataW H → Prop} {p : Sl α} {d : DataW H} {n : Nat} (h : datSl dat p d) (hb : Rows.uptoBulk d ≤ n) : p.2.length ≤ n ∧ ∀ a ∈ p.2, ∃ e, dat a e ∧ Rows.uptoBulk e ≤ n := by
  rcases h with ⟨rfl, rfl⟩ | ⟨es, sp, rfl, _, hl, hr⟩
  · exact ⟨Nat.zero_le _, fun a ha => by cases ha⟩
  · simp only [Rows.uptoBulk] at hb
    refine ⟨?_, fun a ha => ?_⟩
    · have := bulk_len es
      omega
    · obtain ⟨i, hi⟩ := List.getElem?_of_mem ha
      have hil : i < es.length := by rw [← hl]; exact (List.getElem?_eq_some_iff.1 hi).1
      have he : es[i]? = some es[i] := by simp [hil]
      refine ⟨es[i], hr i a _ hi he, ?_⟩
      have := bulk_mem (List.mem_of_getElem? he)
      omega

theorem bulk_str {s : Str} {d : DataW H} {n : Nat} (h : dStr s d) (hb : Rows.uptoBulk d ≤ n) : s.length ≤ n := by
  subst h
  simp only [Rows.uptoBulk] at hb
  omega

theorem bulk_two {x y : DataW H} {n : Nat} (hb : Rows.uptoBulk (.agg [x, y] : DataW H) ≤ n) : Rows.uptoBulk x ≤ n ∧ Rows.uptoBulk y ≤ n := by
  simp only [Rows.uptoBulk, Rows.uptoBulkAll] at hb
  omega

theorem okParts_of {l : Sl Part} {d : DataW H} (h : dParts l d) (hb : Rows.uptoBulk d ≤ 1048576) : OkParts l := by
  obtain ⟨h1, h2⟩ := bulk_sl h hb
  refine ⟨h1, fun p hp => ?_⟩
  obtain ⟨e, ⟨x, y, rfl, _, hy⟩, he⟩ := h2 p hp
  exact bulk_str hy (bulk_two he).2

theorem okLists_of {l : Lists} {d : DataW H} (h : dLists l d) (hb : Rows.uptoBulk d ≤ 1048576) : OkLists l := by
  obtain ⟨h1, h2⟩ := bulk_sl h hb
  refine ⟨h1, fun p hp => ?_⟩
  obtain ⟨e, he, hb⟩ := h2 p hp
  exact okParts_of he hb

theorem okGram_of {g : Gram} {d : DataW H} (h : dGram g d) (hb : Rows.uptoBulk d ≤ 1048576) : OkGram g := by
  obtain ⟨x, y, rfl, hx, hy⟩ := h
  obtain ⟨bx, by_⟩ := bulk_two hb
  obtain ⟨m1, m2⟩ := bulk_sl hx bx
  obtain ⟨r1, r2⟩ := bulk_sl hy by_
  refine ⟨m1, r1, fun m hm => ?_, fun r hr => ?_⟩
  · obtain ⟨e, ⟨x, y, rfl, hx, hy⟩, he⟩ := m2 m hm
    exact ⟨bulk_str hx (bulk_two he).1, okLists_of hy (bulk_two he).2⟩
  · obtain ⟨e, ⟨x, y, rfl, hx, hy⟩, he⟩ := r2 r hr
    exact ⟨okParts_of hx (bulk_two he).1, okLists_of hy (bulk_two he).2⟩
end

end Go.Proofs.YtiniifbmeobmgaaGreatDoor
