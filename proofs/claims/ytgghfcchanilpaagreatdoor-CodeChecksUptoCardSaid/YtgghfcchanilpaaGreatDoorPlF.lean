import Derived.Lib.IndexMore
import Derived.Test.YtgghfcchanilpaaGreatDoorPlJ
set_option linter.unusedVariables false
set_option linter.unusedSimpArgs false
namespace Go.Abs
open Go.Lib (contains index occAt index_spec)
theorem contains_iff {s t : Str} : contains s t = true ↔ ∃ i, i ≤ s.length ∧ occAt s t i = true := by
 unfold contains
 rw [decide_eq_true_iff]
 rcases index_spec s t with ⟨h1, h2⟩ | ⟨i, h1, h2, h3, -⟩
 ·constructor
  ·intro h; omega
  ·rintro ⟨i, hi, ho⟩
   rw [h2 i hi] at ho
   cases ho
 ·exact ⟨fun _ => ⟨i, h2, h3⟩, fun _ => by omega⟩
def wordTab : List Str := [[112, 114, 105, 110, 116], [114, 101, 97, 100], [112, 114, 105, 110, 116, 102], [114, 101, 97, 100, 102], [112, 117, 116, 98, 105, 110], [103, 101, 116, 98, 105, 110]]
def wordLine : Str := [32, 112, 114, 105, 110, 116, 32, 114, 101, 97, 100, 32, 112, 114, 105, 110, 116, 102, 32, 114, 101, 97, 100, 102, 32, 112, 117, 116, 98, 105, 110, 32, 103, 101, 116, 98, 105, 110, 32]
def wordBad (w : Str) : Bool := !wordTab.any (fun x => w == x)
theorem tw_at : ∀ k : Fin 40, wordLine[k.val]? = some 32 → (wordLine.drop (k.val + 1)).takeWhile (fun b => !(b == 32)) = [] ∨ (wordTab.any fun x => (wordLine.drop (k.val + 1)).takeWhile (fun b => !(b == 32)) == x) = true := by
 decide +kernel
theorem tab_ok : wordTab.all (fun w => !(w == []) && (!contains w [32] && contains wordLine ([32] ++ w ++ [32]))) = true := by decide +kernel
theorem one_occ {w : Str} {c : UInt8} (h : c ∈ w) : contains w [c] = true := by
 rw [contains_iff]
 obtain ⟨i, hi, rfl⟩ := List.getElem_of_mem h
 refine ⟨i, by omega, ?_⟩
 unfold occAt
 rw [List.drop_eq_getElem_cons hi]
 simp [List.isPrefixOf]
theorem tw_word {w r : Str} (h : ∀ c ∈ w, c ≠ 32) : (w ++ 32 :: r).takeWhile (fun b => !(b == 32)) = w := by
 induction w with
 | nil => rfl
 | cons c w ih =>
  have hc : (!(c == 32)) = true := by simpa using h c (by simp)
  rw [List.cons_append, List.takeWhile_cons, if_pos hc, ih fun d hd => h d (by simp [hd])]
theorem word_both (w : Str) : ((w == [] || contains w [32]) || !contains wordLine ([32] ++ w ++ [32])) = wordBad w := by
 unfold wordBad
 by_cases ht : (wordTab.any fun x => w == x) = true
 ·rw [ht]
  obtain ⟨x, hx, he⟩ := List.any_eq_true.1 ht
  obtain rfl : w = x := eq_of_beq he
  have := List.all_eq_true.1 tab_ok w hx
  simp only [Bool.and_eq_true, Bool.not_eq_true'] at this
  obtain ⟨h1, h2, h3⟩ := this
  rw [h1, h2, h3]
  rfl
 ·rw [Bool.not_eq_true] at ht
  rw [ht]
  by_cases h0 : (w == []) = true
  ·rw [h0]; rfl
  by_cases h1 : contains w [32] = true
  ·rw [h1]; simp
  rw [Bool.not_eq_true] at h0 h1
  rw [h0, h1]
  cases h2 : contains wordLine ([32] ++ w ++ [32]) with
  | false => rfl
  | true =>
   exfalso
   obtain ⟨i, hi, ho⟩ := contains_iff.1 h2
   have hns : ∀ c ∈ w, c ≠ 32 := fun c hc e => by
    subst e
    rw [one_occ hc] at h1
    cases h1
   unfold occAt at ho
   rw [List.isPrefixOf_iff_prefix] at ho
   obtain ⟨r, hr⟩ := ho
   have hi39 : i < 40 := by
    have : wordLine.length = 39 := rfl
    omega
   have hd : wordLine.drop i = 32 :: (w ++ 32 :: r) := by rw [← hr]; simp
   have hg : wordLine[i]? = some 32 := by
    have := congrArg (fun l => l[0]?) hd
    simpa using this
   have hd1 : wordLine.drop (i + 1) = w ++ 32 :: r := by
    rw [← List.drop_drop, hd]
    rfl
   have := tw_at ⟨i, hi39⟩ hg
   simp only [hd1, tw_word hns] at this
   rcases this with e | e
   ·rw [e] at h0
    cases h0
   ·rw [e] at ht
    cases ht
def transBad (c : CodeS) : Bool := c.trans.2.any fun t => wordBad t.word || !inS t.map (len c.maps)
def lAt (c : CodeS) (k : Nat) : Int := (c.lines.2.getD k (0, 0)).1
def prevS (c : CodeS) (k : Nat) : Int := match k with | 0 => -1 | k + 1 => lAt c k
def lineE (c : CodeS) (k : Nat) : Int := if !inS (lAt c k) (len c.insts) || decide (lAt c k ≤ prevS c k) then 10 else 0
def tablesE (c : CodeS) : Int := if transBad c then 11 else firstE (lineE c) c.lines.2.length
theorem line_prev {c : CodeS} {k : Nat} (h : ∀ j, j < k → lineE c j = 0) : -1 ≤ prevS c k := by
 cases k with
 | zero => simp [prevS]
 | succ k =>
  have := h k (by omega)
  simp only [lineE] at this
  simp only [prevS]
  cases hb : inS (lAt c k) (len c.insts) with
  | false => rw [hb] at this; simp at this
  | true =>
   simp only [inS, Bool.and_eq_true, decide_eq_true_eq] at hb
   omega
theorem line_chk {c : CodeS} {k : Nat} (h : ∀ j, j < k → lineE c j = 0) : (decide (lAt c k ≤ prevS c k) || decide (lAt c k ≥ len c.insts)) = (!inS (lAt c k) (len c.insts) || decide (lAt c k ≤ prevS c k)) := by
 have := line_prev h
 rw [Bool.eq_iff_iff]
 simp only [inS, Bool.or_eq_true, Bool.not_eq_true', Bool.and_eq_false_iff, decide_eq_true_eq, decide_eq_false_iff_not]
 omega
end Go.Abs
