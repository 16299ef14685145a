/- The operations that build, slice, index, make and append. -/
import Derived.Test.YtiniifbmeobmgaaGreatDoorAbsOps
import Derived.Great.BuildSlice
set_option linter.unusedVariables false
set_option linter.unusedSimpArgs false
namespace Go.Abs

/-- The places of 'fill' written one after the other are a splice. -/
theorem fold_splice (off : Nat) : ∀ (ms : List Value) (k : Nat) (cells : Array Value), off + k + ms.length ≤ cells.size →
    ((ms.zipIdx k).foldl (fun (cs : Array Value) (x : Value × Nat) => cs.setIfInBounds (off + x.2) x.1) cells).toList = cells.toList.take (off + k) ++ ms ++ cells.toList.drop (off + k + ms.length)
  | [], k, cells, h => by simp
  | m :: ms, k, cells, h => by
    have hl : off + k < cells.size := by simp at h; omega
    simp only [List.zipIdx_cons, List.foldl_cons]
    rw [fold_splice off ms (k + 1) _ (by simp at h ⊢; omega)]
    have e := list_seg_step cells.toList (off + k) m ms (by simp at h ⊢; omega)
    simp only [Array.toList_setIfInBounds]
    simpa [Nat.add_assoc] using e

theorem fold_splice' (off : Nat) (ms : Array Value) (cells : Array Value) (h : off + ms.size ≤ cells.size) :
    (ms.zipIdx.foldl (fun (cs : Array Value) (x : Value × Nat) => cs.setIfInBounds (off + x.2) x.1) cells).toList = cells.toList.take off ++ ms.toList ++ cells.toList.drop (off + ms.toList.length) := by
  have := fold_splice off ms.toList 0 cells (by simpa using h)
  simp only [Nat.add_zero] at this
  rw [← this, ← Array.foldl_toList, Array.toList_zipIdx]

/-- Cells that stand for values of one cell each. -/
def CellsR (G : Gh) (cs : List PV) (vs : List Value) : Prop :=
  cs.length = vs.length ∧ (∀ (i : Nat) (x : PV) (v : Value), cs[i]? = some x → vs[i]? = some v → RelV G x v) ∧ ∀ v ∈ vs, v.oneCell' = true

theorem RelV.cellsR {G : Gh} {x : PV} {v : Value} {cs : List PV} (r : RelV G x v) (h : x.cells? = some cs) : CellsR G cs v.cells.toList := by
  obtain ⟨h1, h2, h3⟩ := r.cells h
  refine ⟨by simpa using h1, fun i x u hx hu => h2 i x u hx (by simpa using hu), fun u hu => ?_⟩
  obtain ⟨j, hj⟩ := List.getElem?_of_mem hu
  exact h3 j u (by simpa using hj)

theorem CellsR.splice {G : Gh} {cs ws : List PV} {vs us : List Value} {off : Nat} (h : CellsR G cs vs) (k : CellsR G ws us) (hle : off + ws.length ≤ cs.length) :
    CellsR G (setRange cs off ws) (vs.take off ++ us ++ vs.drop (off + us.length)) := by
  obtain ⟨a1, a2, a3⟩ := h
  obtain ⟨b1, b2, b3⟩ := k
  have hle' : off + us.length ≤ vs.length := by omega
  refine ⟨?_, fun i x v hx hv => ?_, fun v hv => ?_⟩
  · simp only [setRange]; rw [size_splice _ _ _ hle, size_splice _ _ _ hle', a1]
  · simp only [setRange] at hx
    rw [getElem?_splice _ _ _ hle] at hx
    rw [getElem?_splice _ _ _ hle', ← b1] at hv
    split at hx
    · rename_i hc; rw [if_pos hc] at hv; exact b2 _ _ _ hx hv
    · rename_i hc; rw [if_neg hc] at hv; exact a2 _ _ _ hx hv
  · simp only [List.mem_append] at hv
    rcases hv with (hv | hv) | hv
    · exact a3 v (List.mem_of_mem_take hv)
    · exact b3 v hv
    · exact a3 v (List.mem_of_mem_drop hv)

theorem vBuild_sound {G : Gh} {place : Nat → Option (Nat × Nat)} : ∀ (ps : List (Nat × Nat × PV)) (pv : List (Nat × Value)) (cs cs' : List PV) (cells : Array Value),
    ps.length = pv.length → (∀ (i : Nat) (a : Nat × Nat × PV) (b : Nat × Value), ps[i]? = some a → pv[i]? = some b → place b.1 = some (a.1, a.2.1) ∧ RelV G a.2.2 b.2) →
    CellsR G cs cells.toList → vBuild cs ps = some cs' → ∃ cells', Instr.fill place cells pv = some cells' ∧ CellsR G cs' cells'.toList
  | [], [], cs, cs', cells, _, _, hc, h => by
    simp [vBuild] at h
    subst h
    exact ⟨cells, rfl, hc⟩
  | [], b :: pv, _, _, _, hl, _, _, _ => by simp at hl
  | a :: ps, [], _, _, _, hl, _, _, _ => by simp at hl
  | (off, sz, x) :: ps, (i, v) :: pv, cs, cs', cells, hl, hp, hc, h => by
    obtain ⟨h1, h2⟩ := hp 0 _ _ rfl rfl
    simp only at h1 h2
    simp only [vBuild] at h
    cases hx : x.cells? with
    | none => simp [hx] at h
    | some ws =>
      simp only [hx] at h
      split at h
      · rename_i hh
        have hr := h2.cellsR hx
        have hvs : v.cells.size = sz := by have := hr.1; simp at this; omega
        have hcl : cs.length = cells.size := by simpa using hc.1
        have hsp := hc.splice (off := off) hr (by omega)
        obtain ⟨cells', e1, e2⟩ := vBuild_sound ps pv (setRange cs off ws) cs' (v.cells.zipIdx.foldl (fun (cs : Array Value) (x : Value × Nat) => cs.setIfInBounds (off + x.2) x.1) cells) (by simpa using hl)
          (fun i a b ha hb => hp (i + 1) a b (by simpa using ha) (by simpa using hb)) (by rw [fold_splice' off _ _ (by omega)]; exact hsp) h
        refine ⟨cells', ?_, e2⟩
        simp only [Instr.fill, h1]
        have hb1 : (v.cells.size != sz) = false := by simp [hvs]
        have hb2 : ¬ (v.cells.size ≠ sz ∨ off + v.cells.size > cells.size) := by omega
        have hb3 : (decide (v.cells.size ≠ sz) || decide (off + v.cells.size > cells.size)) = false := by simp [hvs]; omega
        simp only [hb3, Bool.false_eq_true, if_false]
        exact e1
      · simp at h

section
variable {P : Program} {G : Gh} (w : World)

theorem partsOf_spec {pl : List (Nat × Nat)} {fr : Fr} : ∀ (l : List (Nat × Operand)) (ps : List (Nat × Nat × PV)), partsOf pl fr l = some ps →
    ps.length = l.length ∧ ∀ (i : Nat) (a : Nat × Nat × PV) (b : Nat × Operand), ps[i]? = some a → l[i]? = some b → pl[b.1]? = some (a.1, a.2.1) ∧ a.2.2 = evP fr b.2
  | [], ps, h => by simp [partsOf] at h; subst h; simp
  | (i, x) :: l, ps, h => by
    simp only [partsOf] at h
    cases hp : pl[i]? with
    | none => simp [hp] at h
    | some q =>
      obtain ⟨off, sz⟩ := q
      simp only [hp] at h
      cases hr : partsOf pl fr l with
      | none => simp [hr] at h
      | some r =>
        simp only [hr, Option.some.injEq] at h
        subst h
        obtain ⟨h1, h2⟩ := partsOf_spec l r hr
        refine ⟨by simp [h1], fun j a b ha hb => ?_⟩
        cases j with
        | zero => simp at ha hb; subst ha hb; exact ⟨hp, rfl⟩
        | succ j => exact h2 j a b (by simpa using ha) (by simpa using hb)

theorem build_sound {t : TypeId} {pl : List (Nat × Nat)} {ps : List (Nat × Nat × PV)} {fr : Fr} {parts : Array (Nat × Operand)} {ρ : Operand → Value} {zs cs : List PV}
    (hpl : placesOf P t = some pl) (hps : partsOf pl fr parts.toList = some ps) (hz : zeroOf P t = some (.agg zs)) (hr : ∀ x, RelV G (evP fr x) (ρ x)) (h : vBuild zs ps = some cs) :
    ∃ v, (Instr.build t (parts.map fun (i, x) => (i, ρ x))).run P w = .ok v w ∧ RelV G (.agg cs) v := by
  unfold placesOf at hpl
  split at hpl
  · rename_i fields hu
    unfold zeroOf at hz
    cases hi : P.info? t with
    | none => simp [hi] at hz
    | some it =>
      simp only [hi] at hz
      cases hzz : it.zero with
      | none => simp [hzz] at hz
      | some z =>
        simp only [hzz, Option.some.injEq] at hz
        have rz : RelV G (.agg zs) z := hz ▸ rel_ofVal G z
        obtain ⟨p1, p2⟩ := partsOf_spec _ _ hps
        obtain ⟨cells', e1, e2⟩ := vBuild_sound (G := G) (place := (pl.toArray[·]?)) ps (parts.map fun (i, x) => (i, ρ x)).toList zs cs z.cells (by simpa using p1) (fun i a b ha hb => by
          simp only [Array.toList_map, List.getElem?_map, Option.map_eq_some_iff] at hb
          obtain ⟨c, hc, rfl⟩ := hb
          obtain ⟨q1, q2⟩ := p2 i a c ha hc
          exact ⟨by simpa using q1, q2 ▸ hr _⟩) (rz.cellsR rfl) h
        refine ⟨.agg cells', run_build w t _ cells' ?_, ?_⟩
        · simp only [Program.built, hi, hu, hzz, hpl]
          exact e1
        · obtain ⟨q1, q2, q3⟩ := e2
          exact .agg _ _ (by simpa using q1) (fun i x v hx hv => q2 i x v hx (by simpa using hv)) (fun i v hv => q3 v (by simpa using Array.mem_of_getElem? hv))
  · simp at hpl

/-! ### Rows of elements -/

theorem RowAt.set {cs cs' : Array Value} {O z i : Nat} {xs : List PV} {e : PV} {ve : Value} (h : RowAt G cs O z xs) (hi : i < xs.length) (re : RelV G e ve) (hz : ve.cells.size = z) (h1 : ∀ u ∈ ve.cells.toList, u.oneCell' = true)
    (hle : O + xs.length * z ≤ cs.size) (hcs : cs'.toList = cs.toList.take (O + i * z) ++ ve.cells.toList ++ cs.toList.drop (O + i * z + ve.cells.toList.length)) : RowAt G cs' O z (xs.set i e) := by
  obtain ⟨vs, hrel, hcell⟩ := h
  have hmul : O + i * z + z ≤ cs.size := by
    have : (i + 1) * z ≤ xs.length * z := Nat.mul_le_mul_right _ hi
    rw [Nat.add_mul] at this
    omega
  have hzl : ve.cells.toList.length = z := by simpa using hz
  have hget : ∀ j : Nat, cs'[j]? = if O + i * z ≤ j ∧ j < O + i * z + z then ve.cells.toList[j - (O + i * z)]? else cs.toList[j]? := by
    intro j
    have : cs'[j]? = cs'.toList[j]? := by simp
    rw [this, hcs, getElem?_splice _ _ _ (by simp at *; omega), hzl]
  refine ⟨fun k => if k = i then ve else vs k, ?_, ?_⟩
  · intro k y hk
    rw [List.getElem?_set] at hk
    by_cases hki : i = k
    · subst hki
      simp [hi] at hk
      subst hk
      simpa using re
    · simp only [hki, if_false] at hk
      show RelV G y (if k = i then ve else vs k)
      rw [if_neg (Ne.symm hki)]
      exact hrel k y hk
  · intro k hk
    simp only [List.length_set] at hk
    by_cases hki : k = i
    · subst hki
      simp only [if_true]
      refine ⟨hz, fun j u hu => ⟨h1 u (by simpa using Array.mem_of_getElem? hu), ?_⟩⟩
      have hjz : j < z := by have := (Array.getElem?_eq_some_iff.1 hu).1; omega
      rw [hget, if_pos (by omega)]
      rw [show O + k * z + j - (O + k * z) = j by omega]
      simpa using hu
    · simp only [hki, if_false]
      obtain ⟨q1, q2⟩ := hcell k hk
      refine ⟨q1, fun j u hu => ⟨(q2 j u hu).1, ?_⟩⟩
      have hjz : j < z := by have := (Array.getElem?_eq_some_iff.1 hu).1; omega
      rw [hget, if_neg ?_]
      · simpa using (q2 j u hu).2
      · rintro ⟨g1, g2⟩
        rcases Nat.lt_or_ge k i with hlt | hge
        · have : (k + 1) * z ≤ i * z := Nat.mul_le_mul_right _ hlt
          rw [Nat.add_mul] at this
          omega
        · have : (i + 1) * z ≤ k * z := Nat.mul_le_mul_right _ (by omega)
          rw [Nat.add_mul] at this
          omega

theorem RowAt.zeros {n z : Nat} {x : PV} {v : Value} {xs : List PV} (hx : x.cells? = some xs) (r : RelV G x v) (hz : v.cells.size = z) (hpos : 0 < z) :
    RowAt G ((Array.range (n * z)).map (v.cells[· % v.cells.size]!)) 0 z (List.replicate n x) := by
  obtain ⟨h1, h2, h3⟩ := r.cells hx
  refine ⟨fun _ => v, fun i y hy => ?_, fun i hi => ⟨hz, fun j u hu => ⟨h3 j u hu, ?_⟩⟩⟩
  · rw [List.getElem?_replicate] at hy
    split at hy
    · simp at hy; subst hy; exact r
    · simp at hy
  · simp only [List.length_replicate] at hi
    have hjs : j < v.cells.size := (Array.getElem?_eq_some_iff.1 hu).1
    have hjz : j < z := by omega
    have hlt : i * z + j < n * z := by
      have : (i + 1) * z ≤ n * z := Nat.mul_le_mul_right _ hi
      rw [Nat.add_mul] at this
      omega
    have hmod : (i * z + j) % z = j := by rw [Nat.mul_add_mod_self_right, Nat.mod_eq_of_lt hjz]
    simp [Array.getElem?_map, Array.getElem?_range, hlt, hz, hmod]
    simp [hjs] at hu ⊢
    exact hu

end
end Go.Abs
