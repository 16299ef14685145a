/- What an abstract value stands for in a world: the relation, and what loads, stores and the pure operations do to it. -/
import Derived.Test.YtiniifbmeobmgaaGreatDoorAbsCtl
import Derived.Laws.CopyRow
import Derived.Laws.Rows
import Derived.Below
set_option linter.unusedVariables false
set_option linter.unusedSimpArgs false
namespace Go.Abs

/-- Cells that never change, and where the blocks of the abstract store lie: block, base, cells an element, cells of the block. -/
structure Gh where
  I : Nat → Nat → Option Value
  μ : Nat → Nat → Option (Nat × Nat × Nat × Nat)
  /-- What the maps held: by block and version. -/
  H : Nat → Nat → Option (Array MapEntry × Nat)

structure Gh.le (G G' : Gh) : Prop where
  imm : ∀ B o v, G.I B o = some v → G'.I B o = some v
  at_ : ∀ b g x, G.μ b g = some x → G'.μ b g = some x
  his : ∀ b n x, G.H b n = some x → G'.H b n = some x

theorem Gh.le.refl (G : Gh) : G.le G := ⟨fun _ _ _ h => h, fun _ _ _ h => h, fun _ _ _ h => h⟩
theorem Gh.le.trans {G G' G'' : Gh} (h : G.le G') (k : G'.le G'') : G.le G'' := ⟨fun _ _ _ e => k.imm _ _ _ (h.imm _ _ _ e), fun _ _ _ e => k.at_ _ _ _ (h.at_ _ _ _ e), fun _ _ _ e => k.his _ _ _ (h.his _ _ _ e)⟩

inductive RelV (G : Gh) : PV → Value → Prop where
  | any (v) : RelV G .any v
  | bool (b) : RelV G (.bool b) (.bool b)
  | int (k n) : RelV G (.int k n) (.int k n)
  | str (s : ByteArray) : RelV G (.str s.data.toList) (.string s)
  | nilptr : RelV G .nilptr (.pointer none)
  | ptr (b g i off B O z n) : G.μ b g = some (B, O, z, n) → RelV G (.ptr b g i off) (.pointer (some ⟨B, O + i * z + off, none⟩))
  | eptr (e off B O ve) : RelV G e ve → (∀ j v, ve.cells[j]? = some v → v.oneCell' = true ∧ G.I B (O + j) = some v) → RelV G (.eptr e off) (.pointer (some ⟨B, O + off, none⟩))
  | nillist : RelV G (.list .nil []) (.slice none 0 0)
  | emptyl (a : Addr) (cap : Nat) : RelV G (.list .part []) (.slice (some a) 0 cap)
  | list (k xs B O z cap) (vs : Nat → Value) : k ≠ .nil → (k = .full → cap = xs.length) → xs.length ≤ cap →
      (∀ i x, xs[i]? = some x → RelV G x (vs i)) →
      (∀ i, i < xs.length → (vs i).cells.size = z ∧ ∀ j v, (vs i).cells[j]? = some v → v.oneCell' = true ∧ G.I B (O + i * z + j) = some v) →
      RelV G (.list k xs) (.slice (some ⟨B, O, none⟩) xs.length cap)
  | sref (b g z off len B O n cap) : G.μ b g = some (B, O, z, n) → len ≤ cap → O + (off + cap) * z ≤ n → RelV G (.sref b g z off len) (.slice (some ⟨B, O + off * z, none⟩) len cap)
  | nilmap : RelV G .nilmap (.map none)
  | mref (b B) : G.μ b 0 = some (B, 0, 0, 0) → RelV G (.mref b) (.map (some B))
  | func (f cs) (vs : Array Value) : cs.length = vs.size → (∀ (i : Nat) (x : PV) (v : Value), cs[i]? = some x → vs[i]? = some v → RelV G x v) → RelV G (.func f cs) (.func (.func f) #[] vs)
  | nilfunc : RelV G .nilfunc .nilFunc
  | iface (t x v) : RelV G x v → RelV G (.iface t x) (.iface t v)
  | nilIface : RelV G .nilIface .nilIface
  | agg (cs) (vs : Array Value) : cs.length = vs.size → (∀ (i : Nat) (x : PV) (v : Value), cs[i]? = some x → vs[i]? = some v → RelV G x v) → (∀ (i : Nat) (v : Value), vs[i]? = some v → v.oneCell' = true) → RelV G (.agg cs) (.agg vs)
  | tuple (cs) (vs : Array Value) : cs.length = vs.size → (∀ (i : Nat) (x : PV) (v : Value), cs[i]? = some x → vs[i]? = some v → RelV G x v) → RelV G (.tuple cs) (.tuple vs)

theorem RelV.mono {G G' : Gh} (h : G.le G') {x : PV} {v : Value} (r : RelV G x v) : RelV G' x v := by
  induction r with
  | any v => exact .any v
  | bool b => exact .bool b
  | int k n => exact .int k n
  | str s => exact .str s
  | nilptr => exact .nilptr
  | ptr b g i off B O z n hm => exact .ptr b g i off B O z n (h.at_ _ _ _ hm)
  | eptr e off B O ve _ hc ih => exact .eptr e off B O ve ih fun j v hj => ⟨(hc j v hj).1, h.imm _ _ _ (hc j v hj).2⟩
  | nillist => exact .nillist
  | emptyl a c => exact .emptyl a c
  | list k xs B O z cap vs h1 h2 h3 _ hc ih => exact .list k xs B O z cap vs h1 h2 h3 ih fun i hi => ⟨(hc i hi).1, fun j v hj => ⟨((hc i hi).2 j v hj).1, h.imm _ _ _ ((hc i hi).2 j v hj).2⟩⟩
  | sref b g z off len B O n cap hm h1 h2 => exact .sref b g z off len B O n cap (h.at_ _ _ _ hm) h1 h2
  | nilmap => exact .nilmap
  | mref b B hm => exact .mref b B (h.at_ _ _ _ hm)
  | func f cs vs hl _ ih => exact .func f cs vs hl ih
  | nilfunc => exact .nilfunc
  | iface t x v _ ih => exact .iface t x v ih
  | nilIface => exact .nilIface
  | agg cs vs hl _ hc ih => exact .agg cs vs hl ih hc
  | tuple cs vs hl _ ih => exact .tuple cs vs hl ih

/-- The places below n alone. -/
def Gh.upto (G : Gh) (n : Nat) : Gh := { G with μ := fun b g => if b < n then G.μ b g else none, H := fun b g => if b < n then G.H b g else none }

theorem RelV.upto {G : Gh} {n : Nat} {x : PV} {v : Value} (r : RelV G x v) (hu : Under n x) : RelV (G.upto n) x v := by
  induction r with
  | any v => exact .any v
  | bool b => exact .bool b
  | int k n => exact .int k n
  | str s => exact .str s
  | nilptr => exact .nilptr
  | ptr b g i off B O z m hm => cases hu with | ptr _ _ _ _ hb => exact .ptr b g i off B O z m (by simp [Gh.upto, hb, hm])
  | eptr e off B O ve _ hc ih => cases hu with | eptr _ _ he => exact .eptr e off B O ve (ih he) hc
  | nillist => exact .nillist
  | emptyl a c => exact .emptyl a c
  | list k xs B O z cap vs h1 h2 h3 _ hc ih => cases hu with | list _ _ hx => exact .list k xs B O z cap vs h1 h2 h3 (fun i x hi => ih i x hi (hx i x hi)) hc
  | sref b g z off len B O m cap hm h1 h2 => cases hu with | sref _ _ _ _ _ hb => exact .sref b g z off len B O m cap (by simp [Gh.upto, hb, hm]) h1 h2
  | nilmap => exact .nilmap
  | mref b B hm => cases hu with | mref _ hb => exact .mref b B (by simp [Gh.upto, hb, hm])
  | func f cs vs hl _ ih => cases hu with | func _ _ hx => exact .func f cs vs hl fun i x v hi hv => ih i x v hi hv (hx i x hi)
  | nilfunc => exact .nilfunc
  | iface t x v _ ih => cases hu with | iface _ _ hx => exact .iface t x v (ih hx)
  | nilIface => exact .nilIface
  | agg cs vs hl _ hc ih => cases hu with | agg _ hx => exact .agg cs vs hl (fun i x v hi hv => ih i x v hi hv (hx i x hi)) hc
  | tuple cs vs hl _ ih => cases hu with | tuple _ hx => exact .tuple cs vs hl fun i x v hi hv => ih i x v hi hv (hx i x hi)

/-- What a value names lies below n, if all places do. -/
theorem RelV.under {G : Gh} {n : Nat} (hd : ∀ b g y, G.μ b g = some y → b < n) {x : PV} {v : Value} (r : RelV G x v) : Under n x := by
  induction r with
  | any v => exact .any
  | bool b => exact .bool b
  | int k n => exact .int k n
  | str s => exact .str _
  | nilptr => exact .nilptr
  | ptr b g i off B O z m hm => exact .ptr _ _ _ _ (hd _ _ _ hm)
  | eptr e off B O ve _ hc ih => exact .eptr _ _ ih
  | nillist => exact .list _ _ (by simp)
  | emptyl a c => exact .list _ _ (by simp)
  | list k xs B O z cap vs h1 h2 h3 _ hc ih => exact .list _ _ fun i x hi => ih i x hi
  | sref b g z off len B O m cap hm h1 h2 => exact .sref _ _ _ _ _ (hd _ _ _ hm)
  | nilmap => exact .nilmap
  | mref b B hm => exact .mref _ (hd _ _ _ hm)
  | func f cs vs hl _ ih =>
    refine .func _ _ fun i x hi => ?_
    have hlt : i < vs.size := by rw [← hl]; exact (List.getElem?_eq_some_iff.1 hi).1
    exact ih i x vs[i] hi (by simp [hlt])
  | nilfunc => exact .nilfunc
  | iface t x v _ ih => exact .iface _ _ ih
  | nilIface => exact .nilIface
  | agg cs vs hl _ hc ih =>
    refine .agg _ fun i x hi => ?_
    have hlt : i < vs.size := by rw [← hl]; exact (List.getElem?_eq_some_iff.1 hi).1
    exact ih i x vs[i] hi (by simp [hlt])
  | tuple cs vs hl _ ih =>
    refine .tuple _ fun i x hi => ?_
    have hlt : i < vs.size := by rw [← hl]; exact (List.getElem?_eq_some_iff.1 hi).1
    exact ih i x vs[i] hi (by simp [hlt])

/-! ### Constants -/

theorem rel_ofVal1 (G : Gh) (v : Value) : RelV G (ofVal1 v) v := by
  cases v with
  | bool b => exact .bool _
  | int k n => exact .int _ _
  | string s => exact .str _
  | pointer a => cases a with
    | none => exact .nilptr
    | some a => exact .any _
  | slice a l c => cases a with
    | none =>
      simp only [ofVal1]
      split
      · rename_i h; obtain ⟨rfl, rfl⟩ := h; exact .nillist
      · exact .any _
    | some a => exact .any _
  | map r => cases r with
    | none => exact .nilmap
    | some a => exact .any _
  | func fn a c => cases fn with
    | func f =>
      simp only [ofVal1]
      split
      · rename_i h
        obtain ⟨h1, h2⟩ := h
        obtain rfl : a = #[] := Array.eq_empty_of_size_eq_zero h1
        obtain rfl : c = #[] := Array.eq_empty_of_size_eq_zero h2
        exact .func _ _ _ (by simp) (by simp)
      · exact .any _
    | _ => exact .any _
  | nilFunc => exact .nilfunc
  | nilIface => exact .nilIface
  | _ => exact .any _

theorem rel_ofVal (G : Gh) (v : Value) : RelV G (ofVal v) v := by
  cases v with
  | agg cs =>
    simp only [ofVal]
    split
    · rename_i h
      refine .agg _ _ (by simp) (fun i x v hi hv => ?_) (fun i v hv => ?_)
      · simp only [List.getElem?_map, Option.map_eq_some_iff] at hi
        obtain ⟨u, hu, rfl⟩ := hi
        have h2 : cs.toList[i]? = cs[i]? := by simp
        rw [h2, hv] at hu
        obtain rfl := Option.some.inj hu
        exact rel_ofVal1 G _
      · rw [List.all_eq_true] at h
        exact h v (by simpa using Array.mem_of_getElem? hv)
    · exact .any _
  | tuple vs =>
    simp only [ofVal]
    split
    · rename_i h
      obtain rfl : vs = #[] := Array.eq_empty_of_size_eq_zero h
      exact .tuple _ _ (by simp) (by simp)
    · exact .any _
  | _ => simp only [ofVal]; exact rel_ofVal1 G _

/-! ### Cells -/

theorem oneCell_cells {v : Value} (h : v.oneCell' = true) : v.cells = #[v] := by
  cases v <;> first | rfl | simp [Value.oneCell'] at h

/-- A value's cells, seen from both sides. -/
theorem RelV.cells {G : Gh} {x : PV} {v : Value} {cs : List PV} (r : RelV G x v) (h : x.cells? = some cs) :
    cs.length = v.cells.size ∧ (∀ (j : Nat) (c : PV) (u : Value), cs[j]? = some c → v.cells[j]? = some u → RelV G c u) ∧ ∀ (j : Nat) (u : Value), v.cells[j]? = some u → u.oneCell' = true := by
  have one : ∀ {x : PV} {v : Value}, RelV G x v → v.oneCell' = true → cs = [x] → cs.length = v.cells.size ∧ (∀ (j : Nat) (c : PV) (u : Value), cs[j]? = some c → v.cells[j]? = some u → RelV G c u) ∧ ∀ (j : Nat) (u : Value), v.cells[j]? = some u → u.oneCell' = true := by
    intro x v r hv hcs
    subst hcs
    rw [oneCell_cells hv]
    refine ⟨rfl, fun j c u hc hu => ?_, fun j u hu => ?_⟩
    · cases j with
      | zero => simp at hc hu; subst hc hu; exact r
      | succ j => simp at hc
    · cases j with
      | zero => simp at hu; subst hu; exact hv
      | succ j => simp at hu
  cases r with
  | any v => simp [PV.cells?] at h
  | tuple cs' vs hl hr => simp [PV.cells?] at h
  | agg cs' vs hl hr hc =>
    simp [PV.cells?] at h
    subst h
    exact ⟨hl, hr, hc⟩
  | bool b => exact one (.bool b) rfl (by simpa [PV.cells?] using h.symm)
  | int k n => exact one (.int k n) rfl (by simpa [PV.cells?] using h.symm)
  | str s => exact one (.str s) rfl (by simpa [PV.cells?] using h.symm)
  | nilptr => exact one .nilptr rfl (by simpa [PV.cells?] using h.symm)
  | ptr b g i off B O z n hm => exact one (.ptr b g i off B O z n hm) rfl (by simpa [PV.cells?] using h.symm)
  | eptr e off B O ve he hc => exact one (.eptr e off B O ve he hc) rfl (by simpa [PV.cells?] using h.symm)
  | nillist => exact one .nillist rfl (by simpa [PV.cells?] using h.symm)
  | emptyl a c => exact one (.emptyl a c) rfl (by simpa [PV.cells?] using h.symm)
  | list k xs B O z cap vs h1 h2 h3 h4 h5 => exact one (.list k xs B O z cap vs h1 h2 h3 h4 h5) rfl (by simpa [PV.cells?] using h.symm)
  | sref b g z off len B O n cap h1 h2 h3 => exact one (.sref b g z off len B O n cap h1 h2 h3) rfl (by simpa [PV.cells?] using h.symm)
  | nilmap => exact one .nilmap rfl (by simpa [PV.cells?] using h.symm)
  | mref b B h1 => exact one (.mref b B h1) rfl (by simpa [PV.cells?] using h.symm)
  | func f cs' vs h1 h2 => exact one (.func f cs' vs h1 h2) rfl (by simpa [PV.cells?] using h.symm)
  | nilfunc => exact one .nilfunc rfl (by simpa [PV.cells?] using h.symm)
  | iface t x v h1 => exact one (.iface t x v h1) rfl (by simpa [PV.cells?] using h.symm)
  | nilIface => exact one .nilIface rfl (by simpa [PV.cells?] using h.symm)

theorem addr_add (B o k : Nat) : (⟨B, o, none⟩ : Addr).add k = ⟨B, o + k, none⟩ := by
  unfold Addr.add
  split
  · rename_i h; subst h; rfl
  · rfl

theorem szOf_run {P : Program} {t : TypeId} {n : Nat} (h : szOf P t = some n) (w : World) : (sizeOf t).run P w = .ok n w := by
  unfold szOf at h
  cases hq : P.info? t with
  | none => simp [hq] at h
  | some i =>
    simp [hq] at h
    simp [sizeOf, typeInfo, hq, h]

theorem aggOf_run {P : Program} {t : TypeId} {b : Bool} (h : aggOf P t = some b) (w : World) : (isAgg t).run P w = .ok b w := by
  unfold aggOf at h
  split at h <;> simp at h <;> subst h
  · simp [isAgg, underlying, *]
  · simp [isAgg, underlying, *]
  · rename_i d hd h1 h2
    cases d <;> simp_all [isAgg, underlying]

/-- A load out of a value's cells, wherever they lie. -/
theorem load_part {P : Program} {G : Gh} {w : World} {t : TypeId} {ag : Bool} {sz : Nat} {e x : PV} {ve : Value} {off B O : Nat}
    (ha : aggOf P t = some ag) (hs : szOf P t = some sz) (r : RelV G e ve) (hc : ∀ j v, ve.cells[j]? = some v → w.cell? ⟨B, O + j, none⟩ = some v)
    (h : vPart ag sz e off = some x) : ∃ v, (loadVar t ⟨B, O + off, none⟩).run P w = .ok v w ∧ RelV G x v := by
  cases ag with
  | false =>
    simp only [vPart] at h
    cases hcs : e.cells? with
    | none => simp [hcs] at h
    | some cs =>
      simp only [hcs] at h
      obtain ⟨hl, hr, h1⟩ := r.cells hcs
      have hlt : off < cs.length := (List.getElem?_eq_some_iff.1 h).1
      have hv : ve.cells[off]? = some (ve.cells[off]'(by omega)) := by simp
      refine ⟨_, ?_, hr _ _ _ h hv⟩
      simp [loadVar, aggOf_run ha, run_load, hc _ _ hv]
  | true =>
    simp only [vPart] at h
    split at h
    · rename_i cs
      obtain ⟨hl, hr, h1⟩ := r.cells (x := .agg cs) rfl
      have key : off + sz ≤ cs.length → x = .agg ((cs.drop off).take sz) → ∃ v, (loadVar t ⟨B, O + off, none⟩).run P w = .ok v w ∧ RelV G x v := by
        intro hle hx
        subst hx
        have hll : ((ve.cells.toList.drop off).take sz).length = sz := by simp; omega
        have hload := run_loadCells_list (P := P) w ⟨B, O + off, none⟩ ((ve.cells.toList.drop off).take sz) (fun j v hj => by
          rw [addr_add]
          rw [List.getElem?_take] at hj
          split at hj
          · rw [List.getElem?_drop] at hj
            rw [show O + off + j = O + (off + j) by omega]
            exact hc _ _ (by simpa using hj)
          · simp at hj)
        rw [hll] at hload
        refine ⟨.agg ((ve.cells.toList.drop off).take sz).toArray, ?_, ?_⟩
        · simp [loadVar, aggOf_run ha, szOf_run hs, hload]
        · refine .agg _ _ (by simp; omega) (fun i c u hc hu => ?_) (fun i u hu => ?_)
          · simp only [List.getElem?_toArray, List.getElem?_take, List.getElem?_drop] at hc hu
            split at hc
            · rename_i hi
              simp only [hi, if_true] at hu
              exact hr _ _ _ hc (by simpa using hu)
            · simp at hc
          · simp only [List.getElem?_toArray, List.getElem?_take, List.getElem?_drop] at hu
            split at hu
            · exact h1 (off + i) u (by simpa using hu)
            · simp at hu
      split at h
      · rename_i hh
        obtain ⟨rfl, rfl⟩ := hh
        simp at h
        exact key (by omega) (by subst h; simp)
      · split at h
        · simp at h
          exact key (by assumption) h.symm
        · simp at h
    · simp at h

end Go.Abs
