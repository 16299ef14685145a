import Derived.Test.YteikomnahelckaaGreatDoorPlF
set_option linter.unusedVariables false
set_option linter.unusedSimpArgs false
namespace Go.Abs
def addK (acc : List Str) (k : Str) : List Str := if k ∈ acc then acc else acc ++ [k]
def nubR (key : Nat → Str) (n : Nat) : List Str := (List.range n).foldl (fun acc i => addK acc (key i)) []
theorem nubR_succ (key : Nat → Str) (n : Nat) : nubR key (n + 1) = addK (nubR key n) (key n) := by
 unfold nubR
 rw [List.range_succ,List.foldl_append]
 rfl
theorem mem_nubR {key : Nat → Str} {k : Str} : ∀ {n : Nat},k ∈ nubR key n ↔ ∃ i,i < n ∧ key i = k
 | 0 => by simp [nubR]
 | n + 1 => by
  rw [nubR_succ]
  have ih := mem_nubR (key := key) (k := k) (n := n)
  unfold addK
  split
  ·rename_i h
   rw [ih]
   constructor
   ·rintro ⟨i,hi,he⟩; exact ⟨i,by omega,he⟩
   ·rintro ⟨i,hi,he⟩
    by_cases hn : i = n
    ·subst hn
     rw [← he]
     exact mem_nubR.1 h
    ·exact ⟨i,by omega,he⟩
  ·rw [List.mem_append,ih,List.mem_singleton]
   constructor
   ·rintro (⟨i,hi,he⟩ | rfl)
    ·exact ⟨i,by omega,he⟩
    ·exact ⟨n,by omega,rfl⟩
   ·rintro ⟨i,hi,he⟩
    by_cases hn : i = n
    ·subst hn; exact .inr he.symm
    ·exact .inl ⟨i,by omega,he⟩
theorem nubR_pre (key : Nat → Str) (n : Nat) : nubR key n <+: nubR key (n + 1) := by
 rw [nubR_succ]
 unfold addK
 split
 ·exact List.prefix_refl _
 ·exact List.prefix_append _ _
theorem nubR_idx {key : Nat → Str} {n i : Nat} (hi : i < n) : (nubR key (n + 1)).idxOf (key i) = (nubR key n).idxOf (key i) := idxOf_pre (nubR_pre key n) (mem_nubR.2 ⟨i,hi,rfl⟩)
theorem nubR_len (key : Nat → Str) : ∀ n,(nubR key n).length = (List.range n).countP fun i => (List.range i).all fun j => key j != key i
 | 0 => rfl
 | n + 1 => by
  rw [nubR_succ,List.range_succ,List.countP_append,← nubR_len key n]
  unfold addK
  have e : ((List.range n).all fun j => key j != key n) = true ↔ key n ∉ nubR key n := by
   rw [mem_nubR]
   simp only [List.all_eq_true,List.mem_range,bne_iff_ne,ne_eq]
   constructor
   ·rintro h ⟨i,hi,he⟩; exact h i hi he
   ·exact fun h i hi he => h ⟨i,hi,he⟩
  by_cases hm : key n ∈ nubR key n
  ·rw [if_pos hm]
   have : ((List.range n).all fun j => key j != key n) = false := by
    cases h : (List.range n).all fun j => key j != key n with
    | false => rfl
    | true => exact absurd hm (e.1 h)
   simp [this]
  ·rw [if_neg hm]
   simp [e.2 hm]
theorem nubR_cnt {key : Nat → Str} {cl f : Nat → Nat} {n : Nat} (h : ∀ i j,i < n → j < n → (key i = key j ↔ cl (f i) = cl (f j))) : (nubR key n).length = cntCl cl f n := by
 rw [nubR_len]
 unfold cntCl
 refine List.countP_congr fun i hi => ?_
 have hi : i < n := by simpa using hi
 unfold isNew
 have : ∀ m,m ≤ i → ((List.range m).all fun j => key j != key i) = (List.range m).all fun j => cl (f j) != cl (f i) := by
  intro m hm
  induction m with
  | zero => rfl
  | succ m ih =>
   rw [List.range_succ,List.all_append,List.all_append,ih (by omega)]
   congr 1
   simp only [List.all_cons,List.all_nil,Bool.and_true]
   rw [Bool.eq_iff_iff,bne_iff_ne,bne_iff_ne,ne_eq,ne_eq,h m i (by omega) hi]
 rw [this i (Nat.le_refl _)]
theorem idx_eq_iff {key : Nat → Str} {n i j : Nat} (hi : i < n) (hj : j < n) : (nubR key n).idxOf (key i) = (nubR key n).idxOf (key j) ↔ key i = key j := by
 constructor
 ·intro h
  have hm := mem_nubR.2 (⟨i,hi,rfl⟩ : ∃ x,x < n ∧ key x = key i)
  have h1 := List.idxOf_lt_length_of_mem hm
  have h2 : (nubR key n).idxOf (key j) < (nubR key n).length := h ▸ h1
  have e1 := List.getElem_idxOf h1
  have e2 := List.getElem_idxOf h2
  rw [← e1,← e2]
  congr 1
 ·intro h; rw [h]
theorem nubR_le (key : Nat → Str) (n : Nat) : (nubR key n).length ≤ n := by
 rw [nubR_len]
 have := List.countP_le_length (p := fun i => (List.range i).all fun j => key j != key i) (l := List.range n)
 simpa using this
def namE (ks : List Str) : List (PV × PV) := ks.mapIdx fun i k => (.str k,.int .i64 (i : Nat))
theorem vFind_nam {k0 : Str} : ∀ (ks : List Str) (j n : Nat),vFind .str (.str k0) (ks.mapIdx fun i k => (.str k,.int .i64 ((j + i : Nat) : Int))) n = if k0 ∈ ks then some (some (n + ks.idxOf k0,.int .i64 ((j + ks.idxOf k0 : Nat) : Int))) else some none
 | [],j,n => rfl
 | k :: ks,j,n => by
  rw [List.mapIdx_cons]
  simp only [vFind,vEqS]
  by_cases hc : k0 = k
  ·subst hc
   simp
  ·have h0 : (k0 == k) = false := beq_eq_false_iff_ne.2 hc
   rw [h0]
   simp only
   have e : (ks.mapIdx fun i k => (PV.str k,PV.int .i64 ((j + (i + 1) : Nat) : Int))) = ks.mapIdx fun i k => (.str k,.int .i64 ((j + 1 + i : Nat) : Int)) := by
    congr 1
    funext i c
    rw [Nat.add_assoc,Nat.add_comm 1 i]
   rw [e,vFind_nam ks (j + 1) (n + 1)]
   have hm : k0 ∈ k :: ks ↔ k0 ∈ ks := by simp [hc]
   have hi : (k :: ks).idxOf k0 = ks.idxOf k0 + 1 := by
    have h1 : (k == k0) = false := beq_eq_false_iff_ne.2 (Ne.symm hc)
    rw [List.idxOf_cons,h1]
    rfl
   by_cases hcm : k0 ∈ ks
   ·rw [if_pos hcm,if_pos (hm.2 hcm),hi]
    congr 3
    ·omega
    ·congr 1; omega
   ·rw [if_neg hcm,if_neg (fun h => hcm (hm.1 h))]
theorem nam_find (ks : List Str) (k0 : Str) : vFind .str (.str k0) (namE ks) 0 = if k0 ∈ ks then some (some (ks.idxOf k0,.int .i64 (ks.idxOf k0 : Nat))) else some none := by
 have := vFind_nam (k0 := k0) ks 0 0
 simpa [namE] using this
theorem namE_add (ks : List Str) (k : Str) : namE (ks ++ [k]) = namE ks ++ [(.str k,.int .i64 (ks.length : Nat))] := by
 unfold namE
 rw [List.mapIdx_append]
 simp
end Go.Abs
