/- Which metanotions produce which words: the least table (plain Lean, no program in sight). -/
import Derived.Test.YtiniifbmeobmgaaGreatDoorSpcA
import Derived.Test.YtiniifbmeobmgaaGreatDoorSpcD
import Derived.Test.YtiniifbmeobmgaaGreatDoorFnC
import Derived.Test.YtiniifbmeobmgaaGreatDoorSpcU
set_option linter.unusedVariables false
set_option linter.unusedSimpArgs false
namespace Go.Proofs.YtiniifbmeobmgaaGreatDoor
open Go Go.Abs

abbrev Tab := Nat → Nat → Nat → Bool

/-- Whether a part produces the words from a to b. -/
def partB (ix : Str → Nat) (ws : List Str) (T : Tab) (p : Part) (a b : Nat) : Bool :=
  if p.1 then T (ix (metaOf p.2)) a b else decide (b = a + 1) && (ws[a]? == some p.2)

open Classical in
/-- Where a further part may end. -/
noncomputable def stepB (f : Nat → Nat → Bool) (i j : Nat) (E : Nat → Bool) (b : Nat) : Bool := decide (∃ a, i ≤ a ∧ a ≤ b ∧ b ≤ j ∧ E a = true ∧ f a b = true)

theorem stepB_iff {f : Nat → Nat → Bool} {i j : Nat} {E : Nat → Bool} {b : Nat} : stepB f i j E b = true ↔ ∃ a, i ≤ a ∧ a ≤ b ∧ b ≤ j ∧ E a = true ∧ f a b = true := by
  unfold stepB
  exact @decide_eq_true_iff _ (Classical.propDecidable _)

noncomputable def endsB (fp : Part → Nat → Nat → Bool) (i j : Nat) : List Part → (Nat → Bool) → Nat → Bool
  | [], E => E
  | p :: l, E => endsB fp i j l (stepB (fp p) i j E)

/-- Whether parts produce the words from i to j, each part by itself. -/
noncomputable def spanB (fp : Part → Nat → Nat → Bool) (i j : Nat) (l : List Part) : Bool := endsB fp i j l (fun k => decide (k = i)) j

theorem bool_ext {a b : Bool} (h : a = true ↔ b = true) : a = b := by
  cases a <;> cases b <;> simp_all

theorem endsB_mono {fp fp' : Part → Nat → Nat → Bool} {i j : Nat} : ∀ {l : List Part} {E E' : Nat → Bool}, (∀ p ∈ l, ∀ a b, i ≤ a → a ≤ b → b ≤ j → fp p a b = true → fp' p a b = true) → (∀ k, i ≤ k → k ≤ j → E k = true → E' k = true) → ∀ k, i ≤ k → k ≤ j → endsB fp i j l E k = true → endsB fp' i j l E' k = true
  | [], E, E', _, hE, k, h1, h2, h => hE k h1 h2 h
  | p :: l, E, E', hf, hE, k, h1, h2, h => by
    refine endsB_mono (l := l) (fun q hq => hf q (by simp [hq])) (fun b hb1 hb2 hb => ?_) k h1 h2 h
    obtain ⟨a, ha1, ha2, ha3, ha4, ha5⟩ := stepB_iff.1 hb
    exact stepB_iff.2 ⟨a, ha1, ha2, ha3, hE a ha1 (by omega) ha4, hf p (by simp) a b ha1 ha2 ha3 ha5⟩

theorem spanB_mono {fp fp' : Part → Nat → Nat → Bool} {i j : Nat} (hij : i ≤ j) {l : List Part} (h : ∀ p ∈ l, ∀ a b, i ≤ a → a ≤ b → b ≤ j → fp p a b = true → fp' p a b = true) (hs : spanB fp i j l = true) : spanB fp' i j l = true :=
  endsB_mono h (fun _ _ _ h => h) j hij (Nat.le_refl _) hs

theorem endsB_none {fp : Part → Nat → Nat → Bool} {i j : Nat} (hij : i ≤ j) : ∀ {l : List Part} {E : Nat → Bool}, (∀ k, i ≤ k → k ≤ j → E k = false) → endsB fp i j l E j = false
  | [], E, h => h j hij (Nat.le_refl _)
  | p :: l, E, h => by
    refine endsB_none hij (l := l) fun k h1 h2 => ?_
    cases hs : stepB (fp p) i j E k with
    | false => rfl
    | true =>
      obtain ⟨a, ha1, ha2, ha3, ha4, _⟩ := stepB_iff.1 hs
      rw [h a ha1 (by omega)] at ha4
      cases ha4

/-- What metanotions produce. -/
inductive Der (M : Nat) (alts : Nat → List (List Part)) (ix : Str → Nat) (ws : List Str) : Nat → Nat → Nat → Prop where
  | mk (T : Tab) (l : List Part) (m i j : Nat) : m < M → l ∈ alts m → (∀ m a b, T m a b = true → Der M alts ix ws m a b) → spanB (partB ix ws T) i j l = true → Der M alts ix ws m i j

section
variable {M : Nat} {alts : Nat → List (List Part)} {ix : Str → Nat} {ws : List Str}

open Classical in
noncomputable def derB (M : Nat) (alts : Nat → List (List Part)) (ix : Str → Nat) (ws : List Str) (m i j : Nat) : Bool := decide (Der M alts ix ws m i j)

theorem derB_iff {m i j : Nat} : derB M alts ix ws m i j = true ↔ Der M alts ix ws m i j := by
  unfold derB
  exact @decide_eq_true_iff _ (Classical.propDecidable _)

theorem Der.lt {m i j : Nat} (h : Der M alts ix ws m i j) : m < M := by
  cases h
  assumption

/-- All that is noted is produced. -/
def Sound (M : Nat) (alts : Nat → List (List Part)) (ix : Str → Nat) (ws : List Str) (T : Tab) : Prop := ∀ m a b, T m a b = true → Der M alts ix ws m a b

/-- Nothing is lacking for the words from i to j. -/
def Closed (M : Nat) (alts : Nat → List (List Part)) (ix : Str → Nat) (ws : List Str) (T : Tab) (i j : Nat) : Prop := ∀ m < M, T m i j = true ∨ (alts m).any (spanB (partB ix ws T) i j) = false

def Right (M : Nat) (alts : Nat → List (List Part)) (ix : Str → Nat) (ws : List Str) (T : Tab) (i j : Nat) : Prop := ∀ m < M, T m i j = derB M alts ix ws m i j

theorem right_of {T : Tab} {i j : Nat} (hij : i ≤ j) (hs : Sound M alts ix ws T) (hin : ∀ a b, i ≤ a → a ≤ b → b ≤ j → ¬ (a = i ∧ b = j) → Right M alts ix ws T a b) (hc : Closed M alts ix ws T i j) : Right M alts ix ws T i j := by
  have key : ∀ m a b, Der M alts ix ws m a b → a = i → b = j → T m i j = true := by
    intro m a b h
    induction h with
    | mk T' l m a b hm hl hT hsp ih =>
      rintro rfl rfl
      rcases hc m hm with h | h
      · exact h
      · have : spanB (partB ix ws T) a b l = true := by
          refine spanB_mono hij (fun p _ x y h1 h2 h3 hp => ?_) hsp
          unfold partB at hp ⊢
          split
          · rename_i hp1
            rw [if_pos hp1] at hp
            by_cases hxy : x = a ∧ y = b
            · obtain ⟨rfl, rfl⟩ := hxy
              exact ih _ _ _ hp rfl rfl
            · rw [hin x y h1 h2 h3 hxy _ (hT _ _ _ hp).lt]
              exact derB_iff.2 (hT _ _ _ hp)
          · rename_i hp1
            rw [if_neg hp1] at hp
            exact hp
        rw [List.any_eq_false] at h
        exact absurd this (by simpa using h l hl)
  intro m hm
  exact bool_ext ⟨fun h => derB_iff.2 (hs m i j h), fun h => key m i j (derB_iff.1 h) rfl rfl⟩

def setT (T : Tab) (m i j : Nat) : Tab := fun m' a b => if m' = m ∧ a = i ∧ b = j then true else T m' a b

theorem setT_sound {T : Tab} (hs : Sound M alts ix ws T) {m i j : Nat} (hm : m < M) (h : (alts m).any (spanB (partB ix ws T) i j) = true) : Sound M alts ix ws (setT T m i j) := by
  intro m' a b hT
  unfold setT at hT
  split at hT
  · rename_i he
    obtain ⟨rfl, rfl, rfl⟩ := he
    obtain ⟨l, hl, hsp⟩ := List.any_eq_true.1 h
    exact .mk T l m' a b hm hl hs hsp
  · exact hs m' a b hT

/-- How many metanotions are noted for the words from i to j. -/
def cnt (M : Nat) (T : Tab) (i j : Nat) : Nat := ((List.range M).filter fun m => T m i j).length

theorem cnt_le (T : Tab) (i j : Nat) : cnt M T i j ≤ M := by
  have := List.length_filter_le (fun m => T m i j) (List.range M)
  simpa [cnt] using this

theorem filter_len_lt {α : Type} {p q : α → Bool} : ∀ {l : List α} {x : α}, (∀ y ∈ l, p y = true → q y = true) → x ∈ l → p x = false → q x = true → (l.filter p).length < (l.filter q).length
  | a :: l, x, h, hx, h1, h2 => by
    have hle : (l.filter p).length ≤ (l.filter q).length := by
      clear hx
      have h' : ∀ y ∈ l, p y = true → q y = true := fun y hy => h y (by simp [hy])
      clear h
      induction l with
      | nil => simp
      | cons b l ih =>
        have := ih fun y hy => h' y (by simp [hy])
        have hb := h' b (by simp)
        cases hp : p b with
        | false => rw [List.filter_cons_of_neg (by simp [hp])]; cases hq : q b with
          | false => rw [List.filter_cons_of_neg (by simp [hq])]; exact this
          | true => rw [List.filter_cons_of_pos hq]; simp; omega
        | true => rw [List.filter_cons_of_pos hp, List.filter_cons_of_pos (hb hp)]; simpa using this
    rcases List.mem_cons.1 hx with rfl | hx
    · rw [List.filter_cons_of_neg (by simp [h1]), List.filter_cons_of_pos h2]
      simp
      omega
    · have ih := filter_len_lt (fun y hy => h y (by simp [hy])) hx h1 h2
      have ha := h a (by simp)
      cases hp : p a with
      | false => rw [List.filter_cons_of_neg (by simp [hp])]; cases hq : q a with
        | false => rw [List.filter_cons_of_neg (by simp [hq])]; exact ih
        | true => rw [List.filter_cons_of_pos hq]; simp; omega
      | true => rw [List.filter_cons_of_pos hp, List.filter_cons_of_pos (ha hp)]; simpa using ih

theorem cnt_set {T : Tab} {m i j : Nat} (hm : m < M) (h : T m i j = false) : cnt M T i j < cnt M (setT T m i j) i j := by
  refine filter_len_lt (x := m) (fun y _ hy => ?_) (by simpa using hm) h (by simp [setT])
  simp [setT, hy]

theorem cnt_mono {T T' : Tab} {i j : Nat} (h : ∀ m, T m i j = true → T' m i j = true) : cnt M T i j ≤ cnt M T' i j := by
  unfold cnt
  induction List.range M with
  | nil => simp
  | cons b l ih =>
    have hb := h b
    cases hp : T b i j with
    | false => rw [List.filter_cons_of_neg (by simp [hp])]; cases hq : T' b i j with
      | false => rw [List.filter_cons_of_neg (by simp [hq])]; exact ih
      | true => rw [List.filter_cons_of_pos (by simpa using hq)]; simp; omega
    | true => rw [List.filter_cons_of_pos (by simpa using hp), List.filter_cons_of_pos (by simpa using hb hp)]; simpa using ih

/-- What some words have been found to be stays right where other words are noted. -/
theorem Right.congr {T T' : Tab} {a b : Nat} (h : Right M alts ix ws T a b) (he : ∀ m < M, T' m a b = T m a b) : Right M alts ix ws T' a b := fun m hm => by rw [he m hm, h m hm]

end

end Go.Proofs.YtiniifbmeobmgaaGreatDoor

/- Tables of the package: what is read in them; a list of parts against a table. -/
set_option linter.unusedVariables false
set_option linter.unusedSimpArgs false
namespace Go.Proofs.YtiniifbmeobmgaaGreatDoor
open Go Go.Abs

/-! ### Blocks of truth values -/

def bl (n : Nat) (F : Nat → Bool) : List PV := (List.range n).map fun k => .bool (F k)

theorem bl_len (n : Nat) (F : Nat → Bool) : (bl n F).length = n := by simp [bl]
theorem bl_get {n : Nat} {F : Nat → Bool} {k : Nat} (h : k < n) : (bl n F)[k]? = some (.bool (F k)) := by
  simp [bl, h]
theorem bl_rep (n : Nat) : List.replicate n (PV.bool false) = bl n fun _ => false := by
  refine List.ext_getElem? fun k => ?_
  by_cases h : k < n
  · rw [bl_get h]; simp [h]
  · simp [bl, h]
theorem bl_congr {n : Nat} {F G : Nat → Bool} (h : ∀ k < n, F k = G k) : bl n F = bl n G := by
  unfold bl
  refine List.map_congr_left fun k hk => ?_
  rw [h k (by simpa using hk)]
theorem bl_set {n : Nat} {F : Nat → Bool} {t : Nat} {v : Bool} : (bl n F).set t (.bool v) = bl n fun k => if k = t then v else F k := by
  refine List.ext_getElem? fun k => ?_
  rw [List.getElem?_set]
  by_cases h : k < n
  · rw [bl_get h, bl_get h, bl_len]
    by_cases hk : t = k
    · subst hk; simp [h]
    · rw [if_neg hk, if_neg (Ne.symm hk)]
  · have h1 : (bl n F)[k]? = none := by simp [bl]; omega
    have h2 : (bl n fun k => if k = t then v else F k)[k]? = none := by simp [bl]; omega
    rw [h1, h2, bl_len]
    split
    · split
      · omega
      · rfl
    · rfl

theorem ix_sref {b n k : Nat} {q : IntKind} (h : k < n) : vIndex 1 (.sref b 0 1 0 n) (.int q (k : Nat)) = some (.ptr b 0 k 0) := by
  simp [vIndex, h]
theorem ix_sref0 {b n : Nat} {q : IntKind} (h : 0 < n) : vIndex 1 (.sref b 0 1 0 n) (.int q 0) = some (.ptr b 0 0 0) := by
  simp [vIndex, h]
theorem ld_bl {σ : St} {b n k : Nat} {F : Nat → Bool} (hb : σ[b]? = some (.arr 0 1 (bl n F))) (h : k < n) : vLoad false 1 (.ptr b 0 k 0) σ = some (.bool (F k)) := by
  simp [vLoad, hb, bl_get h]
theorem st_bl {σ : St} {b n k : Nat} {F : Nat → Bool} {v : Bool} (hb : σ[b]? = some (.arr 0 1 (bl n F))) (h : k < n) : vStore 1 (.ptr b 0 k 0) (.bool v) σ = some (σ.set b (.arr 0 1 (bl n fun j => if j = k then v else F j))) := by
  have hp : vPut 1 (.bool (F k)) 0 (.bool v) = some (.bool v) := rfl
  simp only [vStore, hb, bl_get h, hp, bl_set, if_true]
theorem mk_bl {σ : St} {n : Nat} (h : n ≤ 1048580) : vMakeSl 1 1 (.bool false) (.int .i64 (n : Nat)) (.int .i64 (n : Nat)) σ = some (.sref σ.length 0 1 0 n, σ ++ [.arr 0 1 (bl n fun _ => false)]) := by
  have hr : roomy n 1 = true := by simp [roomy]; omega
  have hb : vBox 1 (.bool false) = some (.bool false) := rfl
  simp [vMakeSl, hr, hb, bl_rep]
theorem mk_nl {σ : St} {n : Nat} (h : n ≤ 1048580) : vMakeSl 1 24 (.list .nil []) (.int .i64 (n : Nat)) (.int .i64 (n : Nat)) σ = some (.sref σ.length 0 1 0 n, σ ++ [.arr 0 1 (List.replicate n (.list .nil []))]) := by
  have hr : roomy n 24 = true := by simp [roomy]; omega
  have hb : vBox 1 (.list .nil []) = some (.list .nil []) := rfl
  simp [vMakeSl, hr, hb]
theorem vNil_ptr (b g i o : Nat) : vNil (.ptr b g i o) = some (.ptr b g i o) := rfl

/-! ### Tables -/

/-- A table of truth values: rows by metanotions, then by where words begin; s: where the cells begin; L: how many there are. -/
structure TabAt (σ : St) (A : Nat) (bm : Nat → Nat) (bc : Nat → Nat → Nat) (M N : Nat) (s L : Nat → Nat) (T : Tab) : Prop where
  top : σ[A]? = some (.arr 0 1 ((List.range M).map fun m => .sref (bm m) 0 1 0 (N + 1)))
  mid : ∀ m < M, σ[bm m]? = some (.arr 0 1 ((List.range (N + 1)).map fun a => .sref (bc m a) 0 1 0 (L a)))
  bot : ∀ m < M, ∀ a ≤ N, σ[bc m a]? = some (.arr 0 1 (bl (L a) fun k => T m a (k + s a)))
  inj : ∀ m < M, ∀ a ≤ N, ∀ m' < M, ∀ a' ≤ N, bc m a = bc m' a' → m = m' ∧ a = a'
  neA : ∀ m < M, ∀ a ≤ N, bc m a ≠ A
  neM : ∀ m < M, ∀ a ≤ N, ∀ m' < M, bc m a ≠ bm m'

section
variable {σ : St} {A : Nat} {bm : Nat → Nat} {bc : Nat → Nat → Nat} {M N : Nat} {s L : Nat → Nat} {T : Tab}

theorem TabAt.rd0 (h : TabAt σ A bm bc M N s L T) {m : Nat} (hm : m < M) : vLoad false 1 (.ptr A 0 m 0) σ = some (.sref (bm m) 0 1 0 (N + 1)) := by
  simp [vLoad, h.top, hm, vPart, PV.cells?]
theorem TabAt.rd1 (h : TabAt σ A bm bc M N s L T) {m a : Nat} (hm : m < M) (ha : a ≤ N) : vLoad false 1 (.ptr (bm m) 0 a 0) σ = some (.sref (bc m a) 0 1 0 (L a)) := by
  simp [vLoad, h.mid m hm, Nat.lt_succ_of_le ha, vPart, PV.cells?]
theorem TabAt.rd2 (h : TabAt σ A bm bc M N s L T) {m a k : Nat} (hm : m < M) (ha : a ≤ N) (hk : k < L a) : vLoad false 1 (.ptr (bc m a) 0 k 0) σ = some (.bool (T m a (k + s a))) := ld_bl (h.bot m hm a ha) hk

theorem TabAt.agree (h : TabAt σ A bm bc M N s L T) {σ' : St} (hA : σ'[A]? = σ[A]?) (hm : ∀ m < M, σ'[bm m]? = σ[bm m]?) (hc : ∀ m < M, ∀ a ≤ N, σ'[bc m a]? = σ[bc m a]?) : TabAt σ' A bm bc M N s L T :=
  ⟨by rw [hA]; exact h.top, fun m hm' => by rw [hm m hm']; exact h.mid m hm', fun m hm' a ha => by rw [hc m hm' a ha]; exact h.bot m hm' a ha, h.inj, h.neA, h.neM⟩

theorem get_pre {σ σ' : St} (hp : σ <+: σ') {b : Nat} {k : Blk} (h : σ[b]? = some k) : σ'[b]? = some k := by
  obtain ⟨t, rfl⟩ := hp
  rw [List.getElem?_append_left (List.getElem?_eq_some_iff.1 h).1]
  exact h

theorem TabAt.pre (h : TabAt σ A bm bc M N s L T) {σ' : St} (hp : σ <+: σ') : TabAt σ' A bm bc M N s L T :=
  ⟨get_pre hp h.top, fun m hm => get_pre hp (h.mid m hm), fun m hm a ha => get_pre hp (h.bot m hm a ha), h.inj, h.neA, h.neM⟩

/-- A cell is set. -/
theorem TabAt.put (h : TabAt σ A bm bc M N s L T) {m a k j : Nat} (hm : m < M) (ha : a ≤ N) (hk : k < L a) (hj : k + s a = j) :
    vStore 1 (.ptr (bc m a) 0 k 0) (.bool true) σ = some (σ.set (bc m a) (.arr 0 1 (bl (L a) fun i => if i = k then true else T m a (i + s a)))) ∧
    TabAt (σ.set (bc m a) (.arr 0 1 (bl (L a) fun i => if i = k then true else T m a (i + s a)))) A bm bc M N s L (setT T m a j) := by
  have hb := h.bot m hm a ha
  refine ⟨st_bl hb hk, ?_, fun m' hm' => ?_, fun m' hm' a' ha' => ?_, h.inj, h.neA, h.neM⟩
  · rw [List.getElem?_set_ne (h.neA m hm a ha)]; exact h.top
  · rw [List.getElem?_set_ne (h.neM m hm a ha m' hm')]; exact h.mid m' hm'
  · by_cases he : bc m a = bc m' a'
    · obtain ⟨rfl, rfl⟩ := h.inj m hm a ha m' hm' a' ha' he
      rw [List.getElem?_set_self (List.getElem?_eq_some_iff.1 hb).1]
      congr 2
      refine bl_congr fun i hi => ?_
      unfold setT
      by_cases hik : i = k
      · subst hik; simp [hj]
      · rw [if_neg hik, if_neg (by omega)]
    · rw [List.getElem?_set_ne he, h.bot m' hm' a' ha']
      congr 2
      refine bl_congr fun i hi => ?_
      unfold setT
      rw [if_neg (fun ⟨h1, h2, _⟩ => he (by rw [h1, h2]))]
end

/-! ### Names and their places -/

def ixN : List Str → Str → Nat
  | [], _ => 0
  | n :: l, s => if s = n then 0 else ixN l s + 1

def pvIx : List Str → Nat → List (PV × PV)
  | [], _ => []
  | n :: l, k => (.str n, .int .i64 (k : Nat)) :: pvIx l (k + 1)

theorem pvIx_app : ∀ (l : List Str) (k : Nat) (n : Str), pvIx (l ++ [n]) k = pvIx l k ++ [(.str n, .int .i64 ((k + l.length : Nat) : Int))]
  | [], k, n => rfl
  | a :: l, k, n => by
    simp only [List.cons_append, pvIx, pvIx_app l (k + 1) n, List.length_cons]
    congr 3
    simp only [Prod.mk.injEq, PV.int.injEq, true_and, List.cons.injEq, and_true]
    omega

theorem find_ix (s : Str) : ∀ (l : List Str) (k i : Nat), ∃ o, vFind .str (.str s) (pvIx l k) i = some o ∧ (match o with
    | some (_, v) => v = .int .i64 ((k + ixN l s : Nat) : Int) ∧ l.contains s = true
    | none => l.contains s = false)
  | [], k, i => ⟨none, rfl, rfl⟩
  | a :: l, k, i => by
    obtain ⟨o, h1, h2⟩ := find_ix s l (k + 1) (i + 1)
    by_cases h : s = a
    · subst h
      exact ⟨some (i, .int .i64 (k : Nat)), by simp [pvIx, vFind, vEqS], by simp [ixN], by simp⟩
    · have hb : (s == a) = false := by simpa using h
      refine ⟨o, ?_, ?_⟩
      · simp only [pvIx, vFind, vEqS, hb]
        exact h1
      · cases o with
        | none => simp only [List.contains_cons, hb, Bool.false_or]; exact h2
        | some p =>
          refine ⟨?_, by simp only [List.contains_cons, hb, Bool.false_or]; exact h2.2⟩
          rw [h2.1]
          simp only [ixN, if_neg h]
          congr 2
          omega

theorem lookup_ix {σ : St} {b v : Nat} {l : List Str} (h : σ[b]? = some (.map v (pvIx l 0))) {s : Str} (hs : l.contains s = true) : vLookup .str (.int .i64 0) false (.mref b) (.str s) σ = some (.int .i64 (ixN l s : Nat)) := by
  obtain ⟨o, h1, h2⟩ := find_ix s l 0 0
  simp only [vLookup, h, isKey, if_true, h1]
  cases o with
  | none => rw [hs] at h2; cases h2
  | some p =>
    obtain ⟨i, x⟩ := p
    obtain ⟨rfl, h3⟩ := h2
    rw [Nat.zero_add]
    rfl

theorem set_ix {σ : St} {b v : Nat} {l : List Str} (h : σ[b]? = some (.map v (pvIx l 0))) {s : Str} (hs : l.contains s = false) : vMapSet .str (.mref b) (.str s) (.int .i64 (l.length : Nat)) σ = some (σ.set b (.map (v + 1) (pvIx (l ++ [s]) 0))) := by
  obtain ⟨o, h1, h2⟩ := find_ix s l 0 0
  cases o with
  | some p => rw [hs] at h2; exact absurd h2.2 (by simp)
  | none => simp only [vMapSet, h, isKey, if_true, h1]; simp [pvIx_app]

theorem ixN_lt : ∀ {l : List Str} {s : Str}, l.contains s = true → ixN l s < l.length
  | [], s, h => by cases h
  | a :: l, s, h => by
    unfold ixN
    split
    · simp
    · rename_i hs
      have hb : (s == a) = false := by simpa using hs
      rw [List.contains_cons, hb, Bool.false_or] at h
      have := ixN_lt h
      simp only [List.length_cons]
      omega

/-! ### The package's table -/

structure HT (σ : St) (t A ixb : Nat) (bm : Nat → Nat) (bc : Nat → Nat → Nat) (g : Gram) (ws : List Str) (wk : LK) (T : Tab) : Prop where
  cell : σ[t]? = some (.arr 0 5 [.agg [pvSl pvMeta g.1, pvSl pvRule g.2, .mref ixb, .list wk (ws.map .str), .sref A 0 1 0 g.1.2.length]])
  map : ∃ v, σ[ixb]? = some (.map v (pvIx (names g) 0))
  tab : TabAt σ A bm bc g.1.2.length ws.length (fun a => a) (fun a => ws.length + 1 - a) T

abbrev fpart (g : Gram) (ws : List Str) (T : Tab) : Part → Nat → Nat → Bool := partB (ixN (names g)) ws T

def knownP (g : Gram) (p : Part) : Prop := p.1 = true → (names g).contains (metaOf p.2) = true

section
variable {σ : St} {t A ixb : Nat} {bm : Nat → Nat} {bc : Nat → Nat → Nat} {g : Gram} {ws : List Str} {wk : LK} {T : Tab}

theorem HT.ld2 (h : HT σ t A ixb bm bc g ws wk T) : vLoad false 1 (.ptr t 0 0 2) σ = some (.mref ixb) := by simp [vLoad, h.cell]
theorem HT.ld3 (h : HT σ t A ixb bm bc g ws wk T) : vLoad false 1 (.ptr t 0 0 3) σ = some (.list wk (ws.map .str)) := by simp [vLoad, h.cell]
theorem HT.ld4 (h : HT σ t A ixb bm bc g ws wk T) : vLoad false 1 (.ptr t 0 0 4) σ = some (.sref A 0 1 0 g.1.2.length) := by simp [vLoad, h.cell]
theorem HT.ld0 (h : HT σ t A ixb bm bc g ws wk T) : vLoad false 1 (.ptr t 0 0 0) σ = some (pvSl pvMeta g.1) := by simp [vLoad, h.cell]

theorem HT.pre (h : HT σ t A ixb bm bc g ws wk T) {σ' : St} (hp : σ <+: σ') : HT σ' t A ixb bm bc g ws wk T :=
  ⟨get_pre hp h.cell, by obtain ⟨v, hv⟩ := h.map; exact ⟨v, get_pre hp hv⟩, h.tab.pre hp⟩

theorem c93 (h : HT σ t A ixb bm bc g ws wk T) {p : Part} (hp : okS p.2) (hk : knownP g p) {i n : Nat} (hin : i + n ≤ ws.length) :
    Ret W 93 [.ptr t 0 0 0, pvPart p, .int .i64 (i : Nat), .int .i64 (n : Nat)] σ (.bool (fpart g ws T p i (i + n))) := by
  refine ret_of fun R hR => ?_
  rw [fn93_eq]
  unfold fn93
  obtain ⟨m, x⟩ := p
  have hbox : opC.vBoxAny (.agg [.bool m, .str x]) = some (2, .agg [.bool m, .str x]) := rfl
  simp only [pvPart, hbox, zz, Nat.reduceEqDiff]
  cases m with
  | true =>
    simp only [vNil_ptr, h.ld4, h.ld2, zz, Nat.reduceEqDiff]
    refine (c64 hp _).callC ?_
    obtain ⟨v, hv⟩ := h.map
    have hkn := hk rfl
    have hlt : ixN (names g) (metaOf x) < g.1.2.length := by
      have := ixN_lt hkn
      simpa [names] using this
    have e0 := lookup_ix hv hkn
    have e1 := ix_sref (b := A) (q := .i64) hlt
    have e2 := h.tab.rd0 hlt
    have e3 := ix_sref (b := bm (ixN (names g) (metaOf x))) (q := .i64) (Nat.lt_succ_of_le (show i ≤ ws.length by omega))
    have e4 := h.tab.rd1 hlt (show i ≤ ws.length by omega)
    have hn : n < ws.length + 1 - i := by omega
    have e5 := ix_sref (b := bc (ixN (names g) (metaOf x)) i) (q := .i64) hn
    have e6 := h.tab.rd2 hlt (show i ≤ ws.length by omega) hn
    simp only at e0 e4
    simp only [e0, e1, e2, e3, e4, e5, e6, zz, Nat.reduceEqDiff]
    refine weakW_keep ?_
    have : fpart g ws T (true, x) i (i + n) = T (ixN (names g) (metaOf x)) i (n + i) := by
      simp [partB, Nat.add_comm]
    rw [this] at hR
    exact hR
  | false =>
    simp only [zz, Nat.reduceEqDiff]
    cases e : ((n : Int) == 1) with
    | false =>
      simp only [zz, Nat.reduceEqDiff]
      refine weakW_keep ?_
      have hn : ¬ n = 1 := fun h => by subst h; cases e
      have : fpart g ws T (false, x) i (i + n) = false := by
        simp [partB, hn]
      rw [this] at hR
      exact hR
    | true =>
      have hn : n = 1 := by have := eq_of_beq e; omega
      subst hn
      have hil : i < ws.length := by omega
      have hgi : ws[i]? = some ws[i] := by simp [hil]
      generalize ws[i] = w at hgi
      simp only [vNil_ptr, h.ld3, encStr.index hgi, zz, Nat.reduceEqDiff]
      refine weakW_keep ?_
      have : fpart g ws T (false, x) i (i + 1) = (w == x) := by
        simp [partB, hgi]
      rw [this] at hR
      exact hR
end

end Go.Proofs.YtiniifbmeobmgaaGreatDoor

/- A list of parts against the package's table. -/
set_option linter.unusedVariables false
set_option linter.unusedSimpArgs false
namespace Go.Proofs.YtiniifbmeobmgaaGreatDoor
open Go Go.Abs

theorem set_new (σ : St) (a b : Blk) : (σ ++ [a]).set σ.length b = σ ++ [b] := by
  rw [List.set_append_right _ _ (Nat.le_refl _), Nat.sub_self]
  rfl

theorem vMin_nat (a b : Nat) : vMin (.int .i64 (a : Nat)) (.int .i64 (b : Nat)) = some (.int .i64 ((if b < a then b else a : Nat) : Int)) := by
  by_cases h : b < a
  · have : (b : Int) < (a : Int) := by omega
    simp [vMin, h]
  · have : ¬ (b : Int) < (a : Int) := by omega
    simp [vMin, h]

section
variable {σ : St} {t A ixb : Nat} {bm : Nat → Nat} {bc : Nat → Nat → Nat} {g : Gram} {ws : List Str} {wk : LK} {T : Tab}

/-- The first part's quick look. -/
theorem first168 (h : HT σ t A ixb bm bc g ws wk T) {lk : LK} {p0 : Part} {l0 : List Part} {i n : Nat} (hin : i + n ≤ ws.length) {K : PV → St → Prop}
    (hstop : p0.1 = false → (n = 0 ∨ ws[i]? ≠ some p0.2) → K (.bool true) σ) (hgo : K (.bool false) σ) :
    bindO False (vIndex 2 (.list lk ((p0 :: l0).map pvPart)) (.int .i64 0)) fun v3 =>
    bindO False (vField 0 v3) fun v4 =>
    bindO False (vLoad false 1 v4 σ) fun v5 =>
    bindO False (vUn .not v5) fun v6 =>
    guardG False v6 true (fun J7 =>
    bindO False (vBin none .eql (.int .i64 (n : Nat)) (.int .i64 0)) fun v10 =>
    J7 (lookE [(29, (.v (.int .i64 (n : Nat)))), (30, (.v v10)), (31, (.v v10))]) σ) σ (fun y8 σ9 =>
    guardG False (y8 31).pv false (fun J11 =>
    bindO False (vNil (.ptr t 0 0 0)) fun v14 =>
    bindO False (vField 3 v14) fun v15 =>
    bindO False (vLoad false 1 v15 σ9) fun v16 =>
    bindO False (vIndex 1 v16 (.int .i64 (i : Nat))) fun v17 =>
    bindO False (vLoad false 1 v17 σ9) fun v18 =>
    bindO False (vIndex 2 (.list lk ((p0 :: l0).map pvPart)) (.int .i64 0)) fun v19 =>
    bindO False (vField 1 v19) fun v20 =>
    bindO False (vLoad false 1 v20 σ9) fun v21 =>
    bindO False (vBin none .neq v18 v21) fun v22 =>
    J11 (lookE [(32, (.v (.ptr t 0 0 0))), (33, (.v v14)), (34, (.v v15)), (35, (.v v16)), (36, (.v (.int .i64 (i : Nat)))), (37, (.v v17)), (38, (.v v18)), (39, (.v (.list lk ((p0 :: l0).map pvPart)))), (40, (.v v19)), (41, (.v v20)), (42, (.v v21)), (43, (.v v22))]) σ9) σ9 (fun y12 σ13 =>
    guardG False v6 true (fun J23 =>
    bindO False (vPick (y8 31).pv (.bool true) (y12 43).pv) fun v26 =>
    J23 (lookE [(44, (.v v26))]) σ13) σ13 (fun y24 σ25 =>
    bindO False (vPick v6 (y24 44).pv (.bool false)) fun v27 => K v27 σ25))) := by
  have x0 : vIndex 2 (.list lk ((p0 :: l0).map pvPart)) (.int .i64 0) = some (.eptr (pvPart p0) 0) := encPart.index (l := p0 :: l0) (i := 0) rfl
  obtain ⟨m, s⟩ := p0
  simp only [x0, zz, Nat.reduceEqDiff]
  simp only [pvPart, zz, Nat.reduceEqDiff]
  cases m with
  | true =>
    simp only [zz, Nat.reduceEqDiff]
    exact hgo
  | false =>
    simp only [zz, Nat.reduceEqDiff]
    cases e : ((n : Int) == 0) with
    | true =>
      simp only [zz, Nat.reduceEqDiff]
      have := eq_of_beq e
      exact hstop rfl (.inl (by omega))
    | false =>
      have hn : n ≠ 0 := fun h => by subst h; cases e
      have hil : i < ws.length := by omega
      have hgi : ws[i]? = some ws[i] := by simp [hil]
      simp only [vNil_ptr, h.ld3, encStr.index hgi, zz, Nat.reduceEqDiff]
      cases e2 : (ws[i] == s) with
      | true =>
        simp only [zz, Nat.reduceEqDiff]
        exact hgo
      | false =>
        simp only [zz, Nat.reduceEqDiff]
        refine hstop rfl (.inr ?_)
        rw [hgi]
        intro h
        simp only [Option.some.injEq] at h
        rw [h] at e2
        simp at e2

theorem span_stop {fp : Part → Nat → Nat → Bool} {p0 : Part} {l0 : List Part} {i n : Nat} (hf : ∀ b, fp p0 i b = true → b = i + 1 ∧ ws[i]? = some p0.2) (h : n = 0 ∨ ws[i]? ≠ some p0.2) : spanB fp i (i + n) (p0 :: l0) = false := by
  show endsB fp i (i + n) l0 (stepB (fp p0) i (i + n) fun k => decide (k = i)) (i + n) = false
  refine endsB_none (by omega) fun k h1 h2 => ?_
  cases hs : stepB (fp p0) i (i + n) (fun k => decide (k = i)) k with
  | false => rfl
  | true =>
    obtain ⟨a, _, ha2, ha3, ha4, ha5⟩ := stepB_iff.1 hs
    obtain rfl : a = i := by simpa using ha4
    obtain ⟨q1, q2⟩ := hf k ha5
    rcases h with h | h
    · omega
    · exact absurd q2 h

theorem word_part {p : Part} (hp : p.1 = false) {a b : Nat} (h : fpart g ws T p a b = true) : b = a + 1 ∧ ws[a]? = some p.2 := by
  simp [partB, hp] at h
  exact h

theorem c168 (h : HT σ t A ixb bm bc g ws wk T) {l : Sl Part} (hl : OkParts l) (hk : ∀ p ∈ l.2, knownP g p) {i n : Nat} (hin : i + n ≤ ws.length) (hw : ws.length ≤ 1048576) :
    Ret W 168 [.ptr t 0 0 0, pvParts l, .int .i64 (i : Nat), .int .i64 (n : Nat)] σ (.bool (spanB (fpart g ws T) i (i + n) l.2)) := by
  refine ret_of fun R hR => ?_
  rw [fn168_eq]
  unfold fn168
  obtain ⟨lk, L⟩ := l
  have hlen := hl.len
  simp only at hlen hk hR
  have hlv : pvParts (lk, L) = .list lk (L.map pvPart) := rfl
  rw [hlv]
  have fin : ∀ (b : Bool) (σ' : St), σ <+: σ' → spanB (fpart g ws T) i (i + n) L = b → weakW σ (.bool b) σ' fun v σ => R (.ret v) σ := fun b σ' hp he => weakW_clean hp (.base _ (.bool _)) (by rw [he] at hR; exact hR)
  cases L with
  | nil =>
    simp only [List.map_nil, List.length_nil, Int.ofNat_zero, Int.natCast_zero, show ((0 : Int) == 0) = true from rfl, zz, Nat.reduceEqDiff]
    refine weakW_keep ?_
    have : spanB (fpart g ws T) i (i + n) [] = ((n : Int) == 0) := by
      refine bool_ext ?_
      simp [spanB, endsB]
    rw [this] at hR
    exact hR
  | cons p0 l0 =>
    have hne : (((p0 :: l0).length : Int) == 0) = false := by
      rw [beq_eq_false_iff_ne]
      simp only [List.length_cons]
      omega
    simp only [List.length_map, hne, zZ, zA, zU, zE]
    refine first168 h hin (fun h1 h2 => ?_) ?_
    · simp only [zz, Nat.reduceEqDiff]
      exact fin false σ List.prefix_rfl (span_stop (fun b hb => word_part h1 hb) h2)
    generalize hL : p0 :: l0 = L at *
    simp only [add_one (a := n) (by omega), mk_bl (σ := σ) (n := n + 1) (by omega), ix_sref0 (b := σ.length) (q := .i64) (Nat.succ_pos n), st_bl (new_get σ _) (Nat.succ_pos n), set_new, List.length_map, zz, Nat.reduceEqDiff]
    refine Lfp_up L.length (fun q x σ' => ∃ (be : Nat) (E : Nat → Bool), x = lookP [(0, .ptr t 0 0 0), (2, .int .i64 (i : Nat)), (3, .int .i64 (n : Nat)), (9, .sref be 0 1 0 (n + 1)), (51, .list lk (L.map pvPart)), (52, .int .i64 L.length), (53, .int .i64 q)] ∧ σ <+: σ' ∧ σ.length ≤ be ∧ σ'[be]? = some (.arr 0 1 (bl (n + 1) fun k => E (i + k))) ∧
      spanB (fpart g ws T) i (i + n) L = endsB (fpart g ws T) i (i + n) (L.drop q) E (i + n)) ?_ ⟨σ.length, fun k => decide (k = i), rfl, ⟨_, rfl⟩, Nat.le_refl _, ?_, rfl⟩
    rotate_left
    · rw [new_get]
      congr 2
      refine bl_congr fun k _ => ?_
      by_cases hk0 : k = 0 <;> simp [hk0]
    rintro Φ q x σ' hq ⟨be, E, rfl, hp, hbe, hE, hsp⟩ next
    simp only [zz, Nat.reduceEqDiff]
    by_cases hlt : q < L.length
    · have hgi : L[q]? = some L[q] := by simp [hlt]
      have hmem : L[q] ∈ L := by simp
      generalize L[q] = p at hgi hmem
      have hput : vPut 2 (.agg [.bool false, .str []]) 0 (pvPart p) = some (pvPart p) := rfl
      rw [drop_cons hgi, endsB] at hsp
      have hbl : be < σ'.length := (List.getElem?_eq_some_iff.1 hE).1
      have hσ2 : ∀ F, HT (σ' ++ [.arr 0 1 (bl (n + 1) F)]) t A ixb bm bc g ws wk T := fun F => h.pre (pre_app hp _)
      have hE2 : ∀ F, (σ' ++ [Blk.arr 0 1 (bl (n + 1) F)])[be]? = some (.arr 0 1 (bl (n + 1) fun k => E (i + k))) := fun F => by rw [List.getElem?_append_left hbl]; exact hE
      simp only [hlt, encPart.index hgi, encPart.part, hput, add_one (a := n) (by omega), mk_bl (σ := σ') (n := n + 1) (by omega), zz, Nat.reduceEqDiff]
      refine Lfp_up (n + 1) (fun k x σ2 => ∃ F any, x = lookP [(0, .ptr t 0 0 0), (2, .int .i64 (i : Nat)), (3, .int .i64 (n : Nat)), (12, .sref σ'.length 0 1 0 (n + 1)), (13, .bool any), (51, .list lk (L.map pvPart)), (52, .int .i64 L.length), (53, .int .i64 q), (60, .sref be 0 1 0 (n + 1)), (61, .int .i64 ((n + 1 : Nat) : Int)), (62, .int .i64 k), (11, pvPart p)] ∧ σ2 = σ' ++ [.arr 0 1 (bl (n + 1) F)] ∧
        (∀ b ≤ n, F b = true ↔ ∃ a, a < k ∧ a ≤ b ∧ E (i + a) = true ∧ fpart g ws T p (i + a) (i + b) = true) ∧ (any = true ↔ ∃ b ≤ n, F b = true)) ?_ ⟨fun _ => false, false, rfl, rfl, fun b _ => by simp, by simp⟩
      rintro Φ2 k x σ2 hkn ⟨F, any, rfl, rfl, hF, hany⟩ next2
      simp only [zz, Nat.reduceEqDiff]
      by_cases hklt : k < n + 1
      · simp only [hklt, ix_sref (b := be) (q := .i64) hklt, ld_bl (hE2 F) hklt, zz, Nat.reduceEqDiff]
        cases eE : E (i + k) with
        | false =>
          simp only [add_one (a := k) (by omega), zz, Nat.reduceEqDiff]
          refine next2 _ _ hklt ⟨F, any, rfl, rfl, fun b hb => ?_, hany⟩
          rw [hF b hb]
          refine ⟨fun ⟨a, h1, h2⟩ => ⟨a, by omega, h2⟩, fun ⟨a, h1, h2, h3, h4⟩ => ⟨a, ?_, h2, h3, h4⟩⟩
          have : a ≠ k := fun he => by rw [he, eE] at h3; cases h3
          omega
        | true =>
          have hpp : vPart false 1 (pvPart p) 0 = some (.bool p.1) := rfl
          simp only [hpp, zz, Nat.reduceEqDiff]
          cases hm : p.1 with
          | false =>
            simp only [add_one (a := k) (by omega), vMin_nat, zz, Nat.reduceEqDiff]
            have hlast : k ≤ (if k + 1 < n then k + 1 else n) ∧ (if k + 1 < n then k + 1 else n) ≤ n ∧ ∀ b ≤ n, b = k + 1 → b ≤ (if k + 1 < n then k + 1 else n) := by
              split
              · exact ⟨by omega, by omega, fun b _ h => by omega⟩
              · exact ⟨by omega, by omega, fun b h _ => h⟩
            generalize (if k + 1 < n then k + 1 else n) = lst at hlast
            obtain ⟨hl1, hl2, hl3⟩ := hlast
            refine Lfp_up (lst + 1 - k) (fun u x σ3 => ∃ F' any', x = lookP [(0, .ptr t 0 0 0), (2, .int .i64 (i : Nat)), (3, .int .i64 (n : Nat)), (12, .sref σ'.length 0 1 0 (n + 1)), (13, .bool any'), (14, .int .i64 (k : Nat)), (16, .int .i64 (lst : Nat)), (17, .int .i64 ((k + u : Nat) : Int)), (51, .list lk (L.map pvPart)), (52, .int .i64 L.length), (53, .int .i64 q), (60, .sref be 0 1 0 (n + 1)), (61, .int .i64 ((n + 1 : Nat) : Int)), (62, .int .i64 k), (11, pvPart p)] ∧ σ3 = σ' ++ [.arr 0 1 (bl (n + 1) F')] ∧
                (∀ b ≤ n, F' b = true ↔ F b = true ∨ k ≤ b ∧ b < k + u ∧ fpart g ws T p (i + k) (i + b) = true) ∧ (any' = true ↔ ∃ b ≤ n, F' b = true)) ?_ ⟨F, any, rfl, rfl, fun b _ => ⟨.inl, fun h => h.elim id fun h => absurd h.2.1 (by omega)⟩, hany⟩
            rintro Φ3 u x σ3 hu ⟨F', any', rfl, rfl, hF', hany'⟩ next3
            simp only [Int.ofNat_le, zz, Nat.reduceEqDiff]
            by_cases hul : k + u ≤ lst
            · have hun : k + u ≤ n := by omega
              simp only [hul, encPart.part, add_nat (a := i) (b := k) (by omega), sub_nat (a := k + u) (b := k) (by omega) (by omega), show k + u - k = u by omega, zz, Nat.reduceEqDiff]
              refine (c93 (i := i + k) (n := u) (hσ2 F') (hl.okS p hmem) (hk p hmem) (by omega)).callB ?_
              rw [show i + k + u = i + (k + u) by omega]
              cases ef : fpart g ws T p (i + k) (i + (k + u)) with
              | true =>
                simp only [ix_sref (b := σ'.length) (q := .i64) (Nat.lt_succ_of_le hun), st_bl (new_get σ' _) (Nat.lt_succ_of_le hun), set_new, add_one (a := k + u) (by omega), zz, Nat.reduceEqDiff]
                refine next3 _ _ (by omega) ⟨fun b => if b = k + u then true else F' b, true, by rw [Nat.add_assoc], rfl, fun b hb => ?_, ?_⟩
                · by_cases hbk : b = k + u
                  · subst hbk
                    simp only [if_true, true_iff]
                    exact .inr ⟨by omega, by omega, ef⟩
                  · simp only [hbk, if_false]
                    rw [hF' b hb]
                    refine ⟨fun h => h.imp id fun h => ⟨h.1, by omega, h.2.2⟩, fun h => h.imp id fun h => ⟨h.1, by omega, h.2.2⟩⟩
                · exact ⟨fun _ => ⟨k + u, hun, by simp⟩, fun _ => rfl⟩
              | false =>
                simp only [add_one (a := k + u) (by omega), zz, Nat.reduceEqDiff]
                refine next3 _ _ (by omega) ⟨F', any', by rw [Nat.add_assoc], rfl, fun b hb => ?_, hany'⟩
                rw [hF' b hb]
                refine ⟨fun h => h.imp id fun h => ⟨h.1, by omega, h.2.2⟩, fun h => h.imp id fun h => ⟨h.1, ?_, h.2.2⟩⟩
                have : b ≠ k + u := fun he => by rw [he, ef] at h; cases h.2.2
                omega
            · have hue : k + u = lst + 1 := by omega
              simp only [hul, add_one (a := k) (by omega), zz, Nat.reduceEqDiff]
              refine next2 _ _ (by omega) ⟨F', any', rfl, rfl, fun b hb => ?_, hany'⟩
              rw [hF' b hb, hF b hb]
              refine ⟨fun h => ?_, fun h => ?_⟩
              · rcases h with ⟨a, h1, h2, h3, h4⟩ | ⟨h1, h2, h3⟩
                · exact ⟨a, by omega, h2, h3, h4⟩
                · exact ⟨k, by omega, h1, eE, h3⟩
              · obtain ⟨a, h1, h2, h3, h4⟩ := h
                by_cases hak : a = k
                · subst hak
                  exact .inr ⟨h2, by have := hl3 b hb (by have := (word_part hm h4).1; omega); omega, h4⟩
                · exact .inl ⟨a, by omega, h2, h3, h4⟩
          | true =>
            simp only [zz, Nat.reduceEqDiff]
            refine Lfp_up (n + 1 - k) (fun u x σ3 => ∃ F' any', x = lookP [(0, .ptr t 0 0 0), (2, .int .i64 (i : Nat)), (3, .int .i64 (n : Nat)), (12, .sref σ'.length 0 1 0 (n + 1)), (13, .bool any'), (14, .int .i64 (k : Nat)), (16, .int .i64 (n : Nat)), (17, .int .i64 ((k + u : Nat) : Int)), (51, .list lk (L.map pvPart)), (52, .int .i64 L.length), (53, .int .i64 q), (60, .sref be 0 1 0 (n + 1)), (61, .int .i64 ((n + 1 : Nat) : Int)), (62, .int .i64 k), (11, pvPart p)] ∧ σ3 = σ' ++ [.arr 0 1 (bl (n + 1) F')] ∧
                (∀ b ≤ n, F' b = true ↔ F b = true ∨ k ≤ b ∧ b < k + u ∧ fpart g ws T p (i + k) (i + b) = true) ∧ (any' = true ↔ ∃ b ≤ n, F' b = true)) ?_ ⟨F, any, rfl, rfl, fun b _ => ⟨.inl, fun h => h.elim id fun h => absurd h.2.1 (by omega)⟩, hany⟩
            rintro Φ3 u x σ3 hu ⟨F', any', rfl, rfl, hF', hany'⟩ next3
            simp only [Int.ofNat_le, zz, Nat.reduceEqDiff]
            by_cases hul : k + u ≤ n
            · have hun : k + u ≤ n := by omega
              simp only [hul, encPart.part, add_nat (a := i) (b := k) (by omega), sub_nat (a := k + u) (b := k) (by omega) (by omega), show k + u - k = u by omega, zz, Nat.reduceEqDiff]
              refine (c93 (i := i + k) (n := u) (hσ2 F') (hl.okS p hmem) (hk p hmem) (by omega)).callB ?_
              rw [show i + k + u = i + (k + u) by omega]
              cases ef : fpart g ws T p (i + k) (i + (k + u)) with
              | true =>
                simp only [ix_sref (b := σ'.length) (q := .i64) (Nat.lt_succ_of_le hun), st_bl (new_get σ' _) (Nat.lt_succ_of_le hun), set_new, add_one (a := k + u) (by omega), zz, Nat.reduceEqDiff]
                refine next3 _ _ (by omega) ⟨fun b => if b = k + u then true else F' b, true, by rw [Nat.add_assoc], rfl, fun b hb => ?_, ?_⟩
                · by_cases hbk : b = k + u
                  · subst hbk
                    simp only [if_true, true_iff]
                    exact .inr ⟨by omega, by omega, ef⟩
                  · simp only [hbk, if_false]
                    rw [hF' b hb]
                    refine ⟨fun h => h.imp id fun h => ⟨h.1, by omega, h.2.2⟩, fun h => h.imp id fun h => ⟨h.1, by omega, h.2.2⟩⟩
                · exact ⟨fun _ => ⟨k + u, hun, by simp⟩, fun _ => rfl⟩
              | false =>
                simp only [add_one (a := k + u) (by omega), zz, Nat.reduceEqDiff]
                refine next3 _ _ (by omega) ⟨F', any', by rw [Nat.add_assoc], rfl, fun b hb => ?_, hany'⟩
                rw [hF' b hb]
                refine ⟨fun h => h.imp id fun h => ⟨h.1, by omega, h.2.2⟩, fun h => h.imp id fun h => ⟨h.1, ?_, h.2.2⟩⟩
                have : b ≠ k + u := fun he => by rw [he, ef] at h; cases h.2.2
                omega
            · have hue : k + u = n + 1 := by omega
              simp only [hul, add_one (a := k) (by omega), zz, Nat.reduceEqDiff]
              refine next2 _ _ (by omega) ⟨F', any', rfl, rfl, fun b hb => ?_, hany'⟩
              rw [hF' b hb, hF b hb]
              refine ⟨fun h => ?_, fun h => ?_⟩
              · rcases h with ⟨a, h1, h2, h3, h4⟩ | ⟨h1, h2, h3⟩
                · exact ⟨a, by omega, h2, h3, h4⟩
                · exact ⟨k, by omega, h1, eE, h3⟩
              · obtain ⟨a, h1, h2, h3, h4⟩ := h
                by_cases hak : a = k
                · subst hak
                  exact .inr ⟨h2, by omega, h4⟩
                · exact .inl ⟨a, by omega, h2, h3, h4⟩
      · obtain rfl : k = n + 1 := by omega
        simp only [hklt, zz, Nat.reduceEqDiff]
        have hstep : ∀ b ≤ n, F b = stepB (fpart g ws T p) i (i + n) E (i + b) := fun b hb => by
          refine bool_ext ?_
          rw [hF b hb, stepB_iff]
          refine ⟨fun ⟨a, h1, h2, h3, h4⟩ => ⟨i + a, by omega, by omega, by omega, h3, h4⟩, fun ⟨a, h1, h2, h3, h4, h5⟩ => ⟨a - i, by omega, by omega, ?_, ?_⟩⟩
          · rw [show i + (a - i) = a by omega]; exact h4
          · rw [show i + (a - i) = a by omega]; exact h5
        cases any with
        | false =>
          simp only [zz, Nat.reduceEqDiff]
          refine fin false _ (pre_app hp _) ?_
          rw [hsp]
          refine endsB_none (by omega) fun b h1 h2 => ?_
          rw [show b = i + (b - i) by omega, ← hstep (b - i) (by omega)]
          cases hFb : F (b - i) with
          | false => rfl
          | true => exact absurd (hany.2 ⟨b - i, by omega, hFb⟩) (by simp)
        | true =>
          simp only [add_one (a := q) (by omega), zz, Nat.reduceEqDiff]
          refine next _ _ hlt ⟨σ'.length, stepB (fpart g ws T p) i (i + n) E, rfl, pre_app hp _, hp.length_le, ?_, hsp⟩
          rw [new_get]
          congr 2
          exact bl_congr fun k hk => hstep k (by omega)
    · obtain rfl : q = L.length := by omega
      rw [List.drop_length, endsB] at hsp
      simp only [hlt, ix_sref (b := be) (q := .i64) (Nat.lt_succ_self n), ld_bl hE (Nat.lt_succ_self n), zz, Nat.reduceEqDiff]
      exact fin _ _ hp hsp
end

end Go.Proofs.YtiniifbmeobmgaaGreatDoor

/- The package's table grows. -/
set_option linter.unusedVariables false
set_option linter.unusedSimpArgs false
namespace Go.Proofs.YtiniifbmeobmgaaGreatDoor
open Go Go.Abs

/-! ### What a right grammar has -/

theorem check_facts {g : Gram} (h : checkG g = 0) : metasErr g.1.2 [] = 0 ∧ rulesErr g.2.2 = 0 ∧ (g.1.2.any fun m => m.2.2.any (unkL (names g))) = false ∧ (g.2.2.any fun r => (ruleAll r).any (unkL (names g))) = false := by
  unfold checkG at h
  split at h
  · cases h
  split at h
  · rename_i h1
    split at h
    · rename_i h2
      split at h
      · cases h
      rename_i h3
      split at h
      · cases h
      rename_i h4
      exact ⟨h1, h2, by simpa using h3, by simpa using h4⟩
    · rename_i h2
      exact absurd h h2
  · rename_i h1
    exact absurd h h1

theorem unk_known {g : Gram} {p : Part} (h : unkPart (names g) p = false) : knownP g p := by
  intro hp
  unfold unkPart at h
  rw [hp] at h
  simpa using h

theorem known_metas {g : Gram} (h : checkG g = 0) {m : Meta19} (hm : m ∈ g.1.2) {l : Sl Part} (hl : l ∈ m.2.2) {p : Part} (hp : p ∈ l.2) : knownP g p := by
  have h3 := (check_facts h).2.2.1
  rw [List.any_eq_false] at h3
  have h4 := h3 m hm
  simp only [Bool.not_eq_true] at h4
  rw [List.any_eq_false] at h4
  have h5 := h4 l hl
  unfold unkL at h5
  simp only [Bool.not_eq_true] at h5
  rw [List.any_eq_false] at h5
  exact unk_known (by simpa using h5 p hp)

theorem metas_once : ∀ {ms : List Meta19} {seen : List Str}, metasErr ms seen = 0 → ∀ (i : Nat) (m : Meta19), ms[i]? = some m → (seen ++ (ms.take i).map (·.1)).contains m.1 = false
  | [], _, _, i, m, h => by simp at h
  | a :: ms, seen, h, i, m, hi => by
    rw [metasErr] at h
    split at h
    · cases h
    split at h
    · cases h
    rename_i h2
    split at h
    · cases h
    split at h
    · cases h
    cases i with
    | zero =>
      simp only [List.getElem?_cons_zero, Option.some.injEq] at hi
      subst hi
      simpa using h2
    | succ i =>
      have := metas_once h i m (by simpa using hi)
      simpa using this

theorem names_once {g : Gram} (h : checkG g = 0) {i : Nat} {m : Meta19} (hi : g.1.2[i]? = some m) : ((g.1.2.take i).map (·.1)).contains m.1 = false := by
  have := metas_once (check_facts h).1 i m hi
  simpa using this

/-- The alternatives of a metarule. -/
def altsG (g : Gram) (m : Nat) : List (List Part) := match g.1.2[m]? with
  | some x => x.2.2.map (·.2)
  | none => []

theorem altsG_any {g : Gram} {m : Nat} {x : Meta19} (h : g.1.2[m]? = some x) (f : List Part → Bool) : (altsG g m).any f = x.2.2.any fun l => f l.2 := by
  unfold altsG
  rw [h]
  simp only [List.any_map]
  rfl

section
variable {σ : St} {t A ixb : Nat} {bm : Nat → Nat} {bc : Nat → Nat → Nat} {g : Gram} {ws : List Str} {wk : LK} {T : Tab}

theorem HT.put (h : HT σ t A ixb bm bc g ws wk T) {m a k j : Nat} (hm : m < g.1.2.length) (ha : a ≤ ws.length) (hk : k < ws.length + 1 - a) (hj : k + a = j) :
    vStore 1 (.ptr (bc m a) 0 k 0) (.bool true) σ = some (σ.set (bc m a) (.arr 0 1 (bl (ws.length + 1 - a) fun i => if i = k then true else T m a (i + a)))) ∧
    HT (σ.set (bc m a) (.arr 0 1 (bl (ws.length + 1 - a) fun i => if i = k then true else T m a (i + a)))) t A ixb bm bc g ws wk (setT T m a j) := by
  obtain ⟨h1, h2⟩ := h.tab.put hm ha hk hj
  have hb := h.tab.bot m hm a ha
  refine ⟨h1, ?_, ?_, h2⟩
  · have : bc m a ≠ t := fun he => by rw [he, h.cell] at hb; simp at hb
    rw [List.getElem?_set_ne this]
    exact h.cell
  · obtain ⟨v, hv⟩ := h.map
    have : bc m a ≠ ixb := fun he => by rw [he, hv] at hb; simp at hb
    exact ⟨v, by rw [List.getElem?_set_ne this]; exact hv⟩

theorem hb167 : hasBody 167 = true := by kernel_rfl

theorem c167 (h : HT σ t A ixb bm bc g ws wk T) {l : Sl Part} (hl : OkParts l) (hk : ∀ p ∈ l.2, knownP g p) {i n : Nat} (hin : i + n ≤ ws.length) (hw : ws.length ≤ 1048576)
    {q1 q2 q3 : Nat} (e1 : σ[q1]? = some (.arr 0 1 [.ptr t 0 0 0])) (e2 : σ[q2]? = some (.arr 0 1 [.int .i64 (i : Nat)])) (e3 : σ[q3]? = some (.arr 0 1 [.int .i64 (n : Nat)])) :
    Ret W 167 [pvParts l, .ptr q1 0 0 0, .ptr q2 0 0 0, .ptr q3 0 0 0] σ (.bool (spanB (fpart g ws T) i (i + n) l.2)) := by
  refine ret_of fun R hR => ?_
  rw [fn167_eq]
  unfold fn167
  have l1 : vLoad false 1 (.ptr q1 0 0 0) σ = some (.ptr t 0 0 0) := by simp [vLoad, e1, vPart, PV.cells?]
  have l2 : vLoad false 1 (.ptr q2 0 0 0) σ = some (.int .i64 (i : Nat)) := by simp [vLoad, e2, vPart, PV.cells?]
  have l3 : vLoad false 1 (.ptr q3 0 0 0) σ = some (.int .i64 (n : Nat)) := by simp [vLoad, e3, vPart, PV.cells?]
  simp only [l1, l2, l3, zz, Nat.reduceEqDiff]
  refine (c168 h hl hk hin hw).callB ?_
  exact weakW_keep hR

abbrev SoundG (g : Gram) (ws : List Str) (T : Tab) : Prop := Sound g.1.2.length (altsG g) (ixN (names g)) ws T
abbrev ClosedG (g : Gram) (ws : List Str) (T : Tab) (i j : Nat) : Prop := Closed g.1.2.length (altsG g) (ixN (names g)) ws T i j
abbrev RightG (g : Gram) (ws : List Str) (T : Tab) (i j : Nat) : Prop := Right g.1.2.length (altsG g) (ixN (names g)) ws T i j

/-- What a turn of growing leaves. -/
structure Grown (σ : St) (bc : Nat → Nat → Nat) (g : Gram) (ws : List Str) (T : Tab) (i n : Nat) (b : Bool) (σ' : St) (T' : Tab) : Prop where
  sound : SoundG g ws T'
  len : σ.length ≤ σ'.length
  agree : ∀ c < σ.length, (∀ m < g.1.2.length, c ≠ bc m i) → σ'[c]? = σ[c]?
  other : ∀ m a b, ¬ (a = i ∧ b = i + n) → T' m a b = T m a b
  up : ∀ m, T m i (i + n) = true → T' m i (i + n) = true
  closed : b = false → ClosedG g ws T' i (i + n)
  more : b = true → cnt g.1.2.length T i (i + n) < cnt g.1.2.length T' i (i + n)

theorem c134 (hg : OkGram g) (hck : checkG g = 0) (h : HT σ t A ixb bm bc g ws wk T) (hT : SoundG g ws T) {i n : Nat} (hin : i + n ≤ ws.length) (hw : ws.length ≤ 1048576) {R : Res → St → Prop}
    (hR : ∀ b σ' T', HT σ' t A ixb bm bc g ws wk T' → Grown σ bc g ws T i n b σ' T' → R (.ret (.bool b)) σ') : W 134 [.ptr t 0 0 0, .int .i64 (i : Nat), .int .i64 (n : Nat)] σ R := by
  refine callW_fold ?_
  rw [fn134_eq]
  unfold fn134
  have hbx1 : opC.vBoxAny (.ptr t 0 0 0) = some (1, .ptr t 0 0 0) := rfl
  have hbx2 : ∀ k : Int, opC.vBoxAny (.int .i64 k) = some (1, .int .i64 k) := fun _ => rfl
  have h01 : 0 < 1 := by decide
  simp only [hbx1, hbx2, h01, newW_eq, zz, Nat.reduceEqDiff]
  have f1 : (σ ++ [Blk.arr 0 1 [.ptr t 0 0 0]])[σ.length]? = some (.arr 0 1 [.ptr t 0 0 0]) := new_get _ _
  have p1 : σ <+: σ ++ [Blk.arr 0 1 [.ptr t 0 0 0]] := ⟨_, rfl⟩
  generalize hσ1 : σ ++ [Blk.arr 0 1 [.ptr t 0 0 0]] = σ1 at *
  have f2 : (σ1 ++ [Blk.arr 0 1 [.int .i64 (i : Nat)]])[σ1.length]? = some (.arr 0 1 [.int .i64 (i : Nat)]) := new_get _ _
  have p2 : σ1 <+: σ1 ++ [Blk.arr 0 1 [.int .i64 (i : Nat)]] := ⟨_, rfl⟩
  generalize hσ2 : σ1 ++ [Blk.arr 0 1 [.int .i64 (i : Nat)]] = σ2 at *
  have f3 : (σ2 ++ [Blk.arr 0 1 [.int .i64 (n : Nat)]])[σ2.length]? = some (.arr 0 1 [.int .i64 (n : Nat)]) := new_get _ _
  have p3 : σ2 <+: σ2 ++ [Blk.arr 0 1 [.int .i64 (n : Nat)]] := ⟨_, rfl⟩
  generalize hσ3 : σ2 ++ [Blk.arr 0 1 [.int .i64 (n : Nat)]] = σ3 at *
  have f1 := get_pre (p2.trans p3) f1
  have f2 := get_pre p3 f2
  have pre : σ <+: σ3 := p1.trans (p2.trans p3)
  have hl1 : σ.length ≤ σ1.length := p1.length_le
  have hl2 : σ.length ≤ σ2.length := (p1.trans p2).length_le
  have h3 : HT σ3 t A ixb bm bc g ws wk T := h.pre pre
  generalize hq1 : σ.length = q1 at f1 ⊢
  generalize hq2 : σ1.length = q2 at f2 ⊢
  generalize hq3 : σ2.length = q3 at f3 ⊢
  have hmlen := hg.ml
  have l1 : ∀ σ' : St, σ'[q1]? = some (.arr 0 1 [.ptr t 0 0 0]) → vLoad false 1 (.ptr q1 0 0 0) σ' = some (.ptr t 0 0 0) := fun σ' e => by simp [vLoad, e, vPart, PV.cells?]
  have l2 : ∀ σ' : St, σ'[q2]? = some (.arr 0 1 [.int .i64 (i : Nat)]) → vLoad false 1 (.ptr q2 0 0 0) σ' = some (.int .i64 (i : Nat)) := fun σ' e => by simp [vLoad, e, vPart, PV.cells?]
  have l3 : ∀ σ' : St, σ'[q3]? = some (.arr 0 1 [.int .i64 (n : Nat)]) → vLoad false 1 (.ptr q3 0 0 0) σ' = some (.int .i64 (n : Nat)) := fun σ' e => by simp [vLoad, e, vPart, PV.cells?]
  have hmv : pvSl pvMeta g.1 = .list g.1.1 (g.1.2.map pvMeta) := rfl
  simp only [l1 σ3 f1, vNil_ptr, h3.ld0, hmv, List.length_map, zz, Nat.reduceEqDiff]
  refine Lfp_up g.1.2.length (fun m x σ' => ∃ T' gr, x = lookP [(3, .ptr q1 0 0 0), (4, .ptr q2 0 0 0), (5, .ptr q3 0 0 0), (7, .bool gr), (14, .list g.1.1 (g.1.2.map pvMeta)), (15, .int .i64 g.1.2.length), (16, .int .i64 m)] ∧ HT σ' t A ixb bm bc g ws wk T' ∧ SoundG g ws T' ∧
      σ'[q1]? = some (.arr 0 1 [.ptr t 0 0 0]) ∧ σ'[q2]? = some (.arr 0 1 [.int .i64 (i : Nat)]) ∧ σ'[q3]? = some (.arr 0 1 [.int .i64 (n : Nat)]) ∧ q1 ≤ σ'.length ∧
      (∀ c < q1, (∀ m < g.1.2.length, c ≠ bc m i) → σ'[c]? = σ[c]?) ∧ (∀ m a b, ¬ (a = i ∧ b = i + n) → T' m a b = T m a b) ∧ (∀ m, T m i (i + n) = true → T' m i (i + n) = true) ∧
      (gr = false → T' = T ∧ ∀ m' < m, T m' i (i + n) = true ∨ (altsG g m').any (spanB (fpart g ws T) i (i + n)) = false) ∧ (gr = true → cnt g.1.2.length T i (i + n) < cnt g.1.2.length T' i (i + n))) ?_
    ⟨T, false, rfl, h3, hT, f1, f2, f3, by have := pre.length_le; omega, fun c hc _ => ?_, fun _ _ _ _ => rfl, fun _ h => h, fun _ => ⟨rfl, fun _ h => absurd h (Nat.not_lt_zero _)⟩, fun h => by cases h⟩
  rotate_left
  · obtain ⟨e, rfl⟩ := pre
    rw [List.getElem?_append_left (by omega)]
  rintro Φ m x σ' hm ⟨T', gr, rfl, hH, hS, e1, e2, e3, hlen, hag, hot, hup, hcl, hmo⟩ next
  simp only [zz, Nat.reduceEqDiff]
  by_cases hlt : m < g.1.2.length
  · have hgi : g.1.2[m]? = some g.1.2[m] := by simp [hlt]
    have hmem : g.1.2[m] ∈ g.1.2 := by simp
    generalize g.1.2[m] = y at hgi hmem
    have hy := hg.metas y hmem
    have hput : vPut 2 (.agg [.str [], .list .nil []]) 0 (pvMeta y) = some (pvMeta y) := rfl
    have hi : i ≤ ws.length := by omega
    have hn : n < ws.length + 1 - i := by omega
    have a1 := ix_sref (b := A) (q := .i64) hlt
    have a2 := hH.tab.rd0 hlt
    have a3 := ix_sref (b := bm m) (q := .i64) (Nat.lt_succ_of_le hi)
    have a4 := hH.tab.rd1 hlt hi
    have a5 := ix_sref (b := bc m i) (q := .i64) hn
    have a6 := hH.tab.rd2 hlt hi hn
    try simp only at a4
    try simp only at a6
    rw [Nat.add_comm n i] at a6
    simp only [hlt, encMeta.index hgi, encMeta.part, hput, l1 σ' e1, l2 σ' e2, l3 σ' e3, vNil_ptr, hH.ld4, a1, a2, a3, a4, a5, a6, zz, Nat.reduceEqDiff]
    cases eT : T' m i (i + n) with
    | true =>
      simp only [add_one (a := m) (by omega), zz, Nat.reduceEqDiff]
      refine next _ _ hlt ⟨T', gr, rfl, hH, hS, e1, e2, e3, hlen, hag, hot, hup, fun hgr => ⟨(hcl hgr).1, fun m' hm' => ?_⟩, hmo⟩
      by_cases hmm : m' = m
      · subst hmm
        rw [(hcl hgr).1] at eT
        exact .inl eT
      · exact (hcl hgr).2 m' (by omega)
    | false =>
      have hpm : pvMeta y = .agg [.str y.1, .list y.2.1 (y.2.2.map pvParts)] := rfl
      simp only [hpm, zz, Nat.reduceEqDiff]
      refine (c51 encParts (fun l => spanB (fpart g ws T') i (i + n) l.2) hb167 (Nat.lt_of_le_of_lt hy.alts.len (by decide)) fun l hl => c167 hH (hy.alts.mem l hl) (fun p hp => known_metas hck hmem hl hp) hin hw e1 e2 e3).callB ?_
      have hany := altsG_any hgi (spanB (fpart g ws T') i (i + n))
      rw [← hany]
      cases ea : (altsG g m).any (spanB (fpart g ws T') i (i + n)) with
      | true =>
        obtain ⟨s1, s2⟩ := hH.put (j := i + n) hlt hi hn (by omega)
        have hbcl : bc m i < σ.length := by
          have := hag (bc m i)
          have hb := h.tab.bot m hlt i hi
          exact (List.getElem?_eq_some_iff.1 hb).1
        simp only [l1 σ' e1, l2 σ' e2, l3 σ' e3, vNil_ptr, hH.ld4, a1, a2, a3, a4, a5, s1, add_one (a := m) (by omega), zz, Nat.reduceEqDiff]
        refine next _ _ hlt ⟨setT T' m i (i + n), true, rfl, s2, setT_sound hS hlt ea, ?_, ?_, ?_, by simpa using hlen, fun c hc hne => ?_, fun m' a b hab => ?_, fun m' hm' => ?_, (fun h => by cases h), fun _ => ?_⟩
        · rw [List.getElem?_set_ne (by omega)]; exact e1
        · rw [List.getElem?_set_ne (by omega)]; exact e2
        · rw [List.getElem?_set_ne (by omega)]; exact e3
        · rw [List.getElem?_set_ne (Ne.symm (hne m hlt))]; exact hag c hc hne
        · rw [← hot m' a b hab]
          unfold setT
          rw [if_neg (fun h => hab h.2)]
        · unfold setT
          split
          · rfl
          · exact hup m' hm'
        · exact Nat.lt_of_le_of_lt (cnt_mono hup) (cnt_set hlt eT)
      | false =>
        simp only [add_one (a := m) (by omega), zz, Nat.reduceEqDiff]
        refine next _ _ hlt ⟨T', gr, rfl, hH, hS, e1, e2, e3, hlen, hag, hot, hup, fun hgr => ⟨(hcl hgr).1, fun m' hm' => ?_⟩, hmo⟩
        by_cases hmm : m' = m
        · subst hmm
          rw [(hcl hgr).1] at ea
          exact .inr ea
        · exact (hcl hgr).2 m' (by omega)
  · obtain rfl : m = g.1.2.length := by omega
    simp only [hlt, zz, Nat.reduceEqDiff]
    refine weakW_keep (hR gr σ' T' hH ⟨hS, by omega, fun c hc hne => hag c (by omega) hne, hot, hup, fun hgr => ?_, hmo⟩)
    obtain ⟨rfl, hc⟩ := hcl hgr
    exact hc
end

end Go.Proofs.YtiniifbmeobmgaaGreatDoor

