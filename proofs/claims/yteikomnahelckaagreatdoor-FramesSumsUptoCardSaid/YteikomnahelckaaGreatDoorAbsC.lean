import Derived.Laws.CopyRow
import Derived.Laws.Rows
import Derived.Below
import Derived.Laws.StructEq
import Derived.Laws.Strings
import Derived.Great.BuildSlice
import Derived.Test.YteikomnahelckaaGreatDoorAbsA
set_option linter.unusedVariables false
set_option linter.unusedSimpArgs false
namespace Go.Abs
structure Gh where
 I : Nat → Nat → Option Value
 μ : Nat → Nat → Option (Nat × Nat × Nat × Nat)
 H : Nat → Nat → Option (Array MapEntry × Nat)
 n0 : Nat
structure Gh.le (G G' : Gh) : Prop where
 imm : ∀ B o v,G.I B o = some v → G'.I B o = some v
 at_ : ∀ b g x,G.μ b g = some x → G'.μ b g = some x
 his : ∀ b n x,G.H b n = some x → G'.H b n = some x
 n0 : G'.n0 = G.n0
theorem Gh.le.refl (G : Gh) : G.le G := ⟨fun _ _ _ h => h,fun _ _ _ h => h,fun _ _ _ h => h,rfl⟩
theorem Gh.le.trans {G G' G'' : Gh} (h : G.le G') (k : G'.le G'') : G.le G'' := ⟨fun _ _ _ e => k.imm _ _ _ (h.imm _ _ _ e),fun _ _ _ e => k.at_ _ _ _ (h.at_ _ _ _ e),fun _ _ _ e => k.his _ _ _ (h.his _ _ _ e),k.n0.trans h.n0⟩
inductive RelV (G : Gh) : PV → Value → Prop where
 | any (v) : RelV G .any v
 | bool (b) : RelV G (.bool b) (.bool b)
 | int (k n) : RelV G (.int k n) (.int k n)
 | str (s : ByteArray) : RelV G (.str s.data.toList) (.string s)
 | nilptr : RelV G .nilptr (.pointer none)
 | ptr (b g i off B O z n) : G.μ b g = some (B,O,z,n) → RelV G (.ptr b g i off) (.pointer (some ⟨B,O + i * z + off,none⟩))
 | eptr (e off B O ve) : RelV G e ve → (∀ j v,ve.cells[j]? = some v → v.oneCell' = true ∧ G.I B (O + j) = some v) → RelV G (.eptr e off) (.pointer (some ⟨B,O + off,none⟩))
 | nillist : RelV G (.list .nil []) (.slice none 0 0)
 | emptyl (a : Addr) (cap : Nat) : RelV G (.list .part []) (.slice (some a) 0 cap)
 | list (k xs B O z cap) (vs : Nat → Value) : k ≠ .nil → (k = .full → cap = xs.length ∧ (xs ≠ [] → G.n0 ≤ B)) → xs.length ≤ cap →
   (∀ i x,xs[i]? = some x → RelV G x (vs i)) →
   (∀ i,i < xs.length → (vs i).cells.size = z ∧ ∀ j v,(vs i).cells[j]? = some v → v.oneCell' = true ∧ G.I B (O + i * z + j) = some v) →
   RelV G (.list k xs) (.slice (some ⟨B,O,none⟩) xs.length cap)
 | sref (b g z off len B O n cap) : G.μ b g = some (B,O,z,n) → len ≤ cap → O + (off + cap) * z = n → RelV G (.sref b g z off len) (.slice (some ⟨B,O + off * z,none⟩) len cap)
 | nilmap : RelV G .nilmap (.map none)
 | mref (b B) : G.μ b 0 = some (B,0,0,0) → RelV G (.mref b) (.map (some B))
 | func (f k cs) (fs vs : Array Value) : fs.size = k → cs.length = fs.size + vs.size → (∀ (i : Nat) (x : PV) (v : Value),cs[i]? = some x → (fs ++ vs)[i]? = some v → RelV G x v) → RelV G (.func f k cs) (.func (.func f) fs vs)
 | nilfunc : RelV G .nilfunc .nilFunc
 | iface (t x v) : RelV G x v → RelV G (.iface t x) (.iface t v)
 | nilIface : RelV G .nilIface .nilIface
 | agg (cs) (vs : Array Value) : cs.length = vs.size → (∀ (i : Nat) (x : PV) (v : Value),cs[i]? = some x → vs[i]? = some v → RelV G x v) → (∀ (i : Nat) (v : Value),vs[i]? = some v → v.oneCell' = true) → RelV G (.agg cs) (.agg vs)
 | tuple (cs) (vs : Array Value) : cs.length = vs.size → (∀ (i : Nat) (x : PV) (v : Value),cs[i]? = some x → vs[i]? = some v → RelV G x v) → RelV G (.tuple cs) (.tuple vs)
theorem RelV.mono {G G' : Gh} (h : G.le G') {x : PV} {v : Value} (r : RelV G x v) : RelV G' x v := by
 induction r with
 | any v => exact .any v
 | bool b => exact .bool b
 | int k n => exact .int k n
 | str s => exact .str s
 | nilptr => exact .nilptr
 | ptr b g i off B O z n hm => exact .ptr b g i off B O z n (h.at_ _ _ _ hm)
 | eptr e off B O ve _ hc ih => exact .eptr e off B O ve ih fun j v hj => ⟨(hc j v hj).1,h.imm _ _ _ (hc j v hj).2⟩
 | nillist => exact .nillist
 | emptyl a c => exact .emptyl a c
 | list k xs B O z cap vs h1 h2 h3 _ hc ih => exact .list k xs B O z cap vs h1 (fun hk => ⟨(h2 hk).1,fun hx => by rw [h.n0]; exact (h2 hk).2 hx⟩) h3 ih fun i hi => ⟨(hc i hi).1,fun j v hj => ⟨((hc i hi).2 j v hj).1,h.imm _ _ _ ((hc i hi).2 j v hj).2⟩⟩
 | sref b g z off len B O n cap hm h1 h2 => exact .sref b g z off len B O n cap (h.at_ _ _ _ hm) h1 h2
 | nilmap => exact .nilmap
 | mref b B hm => exact .mref b B (h.at_ _ _ _ hm)
 | func f k cs fs vs hk hl _ ih => exact .func f k cs fs vs hk hl ih
 | nilfunc => exact .nilfunc
 | iface t x v _ ih => exact .iface t x v ih
 | nilIface => exact .nilIface
 | agg cs vs hl _ hc ih => exact .agg cs vs hl ih hc
 | tuple cs vs hl _ ih => exact .tuple cs vs hl ih
def Gh.upto (G : Gh) (n : Nat) : Gh := { G with μ := fun b g => if b < n then G.μ b g else none,H := fun b g => if b < n then G.H b g else none }
theorem RelV.upto {G : Gh} {n : Nat} {x : PV} {v : Value} (r : RelV G x v) (hu : Under n x) : RelV (G.upto n) x v := by
 induction r with
 | any v => exact .any v
 | bool b => exact .bool b
 | int k n => exact .int k n
 | str s => exact .str s
 | nilptr => exact .nilptr
 | ptr b g i off B O z m hm => cases hu with | ptr _ _ _ _ hb => exact .ptr b g i off B O z m (by simp [Gh.upto,hb,hm])
 | eptr e off B O ve _ hc ih => cases hu with | eptr _ _ he => exact .eptr e off B O ve (ih he) hc
 | nillist => exact .nillist
 | emptyl a c => exact .emptyl a c
 | list k xs B O z cap vs h1 h2 h3 _ hc ih => cases hu with | list _ _ hx => exact .list k xs B O z cap vs h1 h2 h3 (fun i x hi => ih i x hi (hx i x hi)) hc
 | sref b g z off len B O m cap hm h1 h2 => cases hu with | sref _ _ _ _ _ hb => exact .sref b g z off len B O m cap (by simp [Gh.upto,hb,hm]) h1 h2
 | nilmap => exact .nilmap
 | mref b B hm => cases hu with | mref _ hb => exact .mref b B (by simp [Gh.upto,hb,hm])
 | func f k cs fs vs hk hl _ ih => cases hu with | func _ _ _ hx => exact .func f k cs fs vs hk hl fun i x v hi hv => ih i x v hi hv (hx i x hi)
 | nilfunc => exact .nilfunc
 | iface t x v _ ih => cases hu with | iface _ _ hx => exact .iface t x v (ih hx)
 | nilIface => exact .nilIface
 | agg cs vs hl _ hc ih => cases hu with | agg _ hx => exact .agg cs vs hl (fun i x v hi hv => ih i x v hi hv (hx i x hi)) hc
 | tuple cs vs hl _ ih => cases hu with | tuple _ hx => exact .tuple cs vs hl fun i x v hi hv => ih i x v hi hv (hx i x hi)
theorem RelV.under {G : Gh} {n : Nat} (hd : ∀ b g y,G.μ b g = some y → b < n) {x : PV} {v : Value} (r : RelV G x v) : Under n x := by
 induction r with
 | any v => exact .any
 | bool b => exact .bool b
 | int k n => exact .int k n
 | str s => exact .str _
 | nilptr => exact .nilptr
 | ptr b g i off B O z m hm => exact .ptr _ _ _ _ (hd _ _ _ hm)
 | eptr e off B O ve _ hc ih => exact .eptr _ _ ih
 | nillist => exact .list _ _ (by simp)
 | emptyl a c => exact .list _ _ (by simp)
 | list k xs B O z cap vs h1 h2 h3 _ hc ih => exact .list _ _ fun i x hi => ih i x hi
 | sref b g z off len B O m cap hm h1 h2 => exact .sref _ _ _ _ _ (hd _ _ _ hm)
 | nilmap => exact .nilmap
 | mref b B hm => exact .mref _ (hd _ _ _ hm)
 | func f k cs fs vs hk hl _ ih =>
  refine .func _ _ _ fun i x hi => ?_
  have hlt : i < (fs ++ vs).size := by rw [Array.size_append,← hl]; exact (List.getElem?_eq_some_iff.1 hi).1
  exact ih i x (fs ++ vs)[i] hi (by simp [hlt])
 | nilfunc => exact .nilfunc
 | iface t x v _ ih => exact .iface _ _ ih
 | nilIface => exact .nilIface
 | agg cs vs hl _ hc ih =>
  refine .agg _ fun i x hi => ?_
  have hlt : i < vs.size := by rw [← hl]; exact (List.getElem?_eq_some_iff.1 hi).1
  exact ih i x vs[i] hi (by simp [hlt])
 | tuple cs vs hl _ ih =>
  refine .tuple _ fun i x hi => ?_
  have hlt : i < vs.size := by rw [← hl]; exact (List.getElem?_eq_some_iff.1 hi).1
  exact ih i x vs[i] hi (by simp [hlt])
theorem rel_ofVal1 (G : Gh) (v : Value) : RelV G (ofVal1 v) v := by
 cases v with
 | bool b => exact .bool _
 | int k n => exact .int _ _
 | string s => exact .str _
 | pointer a => cases a with
  | none => exact .nilptr
  | some a => exact .any _
 | slice a l c => cases a with
  | none =>
   simp only [ofVal1]
   split
   ·rename_i h; obtain ⟨rfl,rfl⟩ := h; exact .nillist
   ·exact .any _
  | some a => exact .any _
 | map r => cases r with
  | none => exact .nilmap
  | some a => exact .any _
 | func fn a c => cases fn with
  | func f =>
   simp only [ofVal1]
   split
   ·rename_i h
    obtain ⟨h1,h2⟩ := h
    obtain rfl : a = #[] := Array.eq_empty_of_size_eq_zero h1
    obtain rfl : c = #[] := Array.eq_empty_of_size_eq_zero h2
    exact .func _ _ _ _ _ rfl (by simp) (by simp)
   ·exact .any _
  | _ => exact .any _
 | nilFunc => exact .nilfunc
 | nilIface => exact .nilIface
 | _ => exact .any _
theorem rel_ofVal (G : Gh) (v : Value) : RelV G (ofVal v) v := by
 cases v with
 | agg cs =>
  simp only [ofVal]
  split
  ·rename_i h
   refine .agg _ _ (by simp) (fun i x v hi hv => ?_) (fun i v hv => ?_)
   ·simp only [List.getElem?_map,Option.map_eq_some_iff] at hi
    obtain ⟨u,hu,rfl⟩ := hi
    have h2 : cs.toList[i]? = cs[i]? := by simp
    rw [h2,hv] at hu
    obtain rfl := Option.some.inj hu
    exact rel_ofVal1 G _
   ·rw [List.all_eq_true] at h
    exact h v (by simpa using Array.mem_of_getElem? hv)
  ·exact .any _
 | tuple vs =>
  simp only [ofVal]
  split
  ·rename_i h
   obtain rfl : vs = #[] := Array.eq_empty_of_size_eq_zero h
   exact .tuple _ _ (by simp) (by simp)
  ·exact .any _
 | _ => simp only [ofVal]; exact rel_ofVal1 G _
theorem oneCell_cells {v : Value} (h : v.oneCell' = true) : v.cells = #[v] := by
 cases v <;> first | rfl | simp [Value.oneCell'] at h
theorem RelV.cells {G : Gh} {x : PV} {v : Value} {cs : List PV} (r : RelV G x v) (h : x.cells? = some cs) :
  cs.length = v.cells.size ∧ (∀ (j : Nat) (c : PV) (u : Value),cs[j]? = some c → v.cells[j]? = some u → RelV G c u) ∧ ∀ (j : Nat) (u : Value),v.cells[j]? = some u → u.oneCell' = true := by
 have one : ∀ {x : PV} {v : Value},RelV G x v → v.oneCell' = true → cs = [x] → cs.length = v.cells.size ∧ (∀ (j : Nat) (c : PV) (u : Value),cs[j]? = some c → v.cells[j]? = some u → RelV G c u) ∧ ∀ (j : Nat) (u : Value),v.cells[j]? = some u → u.oneCell' = true := by
  intro x v r hv hcs
  subst hcs
  rw [oneCell_cells hv]
  refine ⟨rfl,fun j c u hc hu => ?_,fun j u hu => ?_⟩
  ·cases j with
   | zero => simp at hc hu; subst hc hu; exact r
   | succ j => simp at hc
  ·cases j with
   | zero => simp at hu; subst hu; exact hv
   | succ j => simp at hu
 cases r with
 | any v => simp [PV.cells?] at h
 | tuple cs' vs hl hr => simp [PV.cells?] at h
 | agg cs' vs hl hr hc =>
  simp [PV.cells?] at h
  subst h
  exact ⟨hl,hr,hc⟩
 | bool b => exact one (.bool b) rfl (by simpa [PV.cells?] using h.symm)
 | int k n => exact one (.int k n) rfl (by simpa [PV.cells?] using h.symm)
 | str s => exact one (.str s) rfl (by simpa [PV.cells?] using h.symm)
 | nilptr => exact one .nilptr rfl (by simpa [PV.cells?] using h.symm)
 | ptr b g i off B O z n hm => exact one (.ptr b g i off B O z n hm) rfl (by simpa [PV.cells?] using h.symm)
 | eptr e off B O ve he hc => exact one (.eptr e off B O ve he hc) rfl (by simpa [PV.cells?] using h.symm)
 | nillist => exact one .nillist rfl (by simpa [PV.cells?] using h.symm)
 | emptyl a c => exact one (.emptyl a c) rfl (by simpa [PV.cells?] using h.symm)
 | list k xs B O z cap vs h1 h2 h3 h4 h5 => exact one (.list k xs B O z cap vs h1 h2 h3 h4 h5) rfl (by simpa [PV.cells?] using h.symm)
 | sref b g z off len B O n cap h1 h2 h3 => exact one (.sref b g z off len B O n cap h1 h2 h3) rfl (by simpa [PV.cells?] using h.symm)
 | nilmap => exact one .nilmap rfl (by simpa [PV.cells?] using h.symm)
 | mref b B h1 => exact one (.mref b B h1) rfl (by simpa [PV.cells?] using h.symm)
 | func f k cs' fs vs h0 h1 h2 => exact one (.func f k cs' fs vs h0 h1 h2) rfl (by simpa [PV.cells?] using h.symm)
 | nilfunc => exact one .nilfunc rfl (by simpa [PV.cells?] using h.symm)
 | iface t x v h1 => exact one (.iface t x v h1) rfl (by simpa [PV.cells?] using h.symm)
 | nilIface => exact one .nilIface rfl (by simpa [PV.cells?] using h.symm)
theorem addr_add (B o k : Nat) : (⟨B,o,none⟩ : Addr).add k = ⟨B,o + k,none⟩ := by
 unfold Addr.add
 split
 ·rename_i h; subst h; rfl
 ·rfl
theorem szOf_run {P : Program} {t : TypeId} {n : Nat} (h : szOf P t = some n) (w : World) : (sizeOf t).run P w = .ok n w := by
 unfold szOf at h
 cases hq : P.info? t with
 | none => simp [hq] at h
 | some i =>
  simp [hq] at h
  simp [sizeOf,typeInfo,hq,h]
theorem aggOf_run {P : Program} {t : TypeId} {b : Bool} (h : aggOf P t = some b) (w : World) : (isAgg t).run P w = .ok b w := by
 unfold aggOf at h
 split at h <;> simp at h <;> subst h
 ·simp [isAgg,underlying, *]
 ·simp [isAgg,underlying, *]
 ·rename_i d hd h1 h2
  cases d <;> simp_all [isAgg,underlying]
theorem load_part {P : Program} {G : Gh} {w : World} {t : TypeId} {ag : Bool} {sz : Nat} {e x : PV} {ve : Value} {off B O : Nat}
  (ha : aggOf P t = some ag) (hs : szOf P t = some sz) (r : RelV G e ve) (hc : ∀ j v,ve.cells[j]? = some v → w.cell? ⟨B,O + j,none⟩ = some v)
  (h : vPart ag sz e off = some x) : ∃ v,(loadVar t ⟨B,O + off,none⟩).run P w = .ok v w ∧ RelV G x v := by
 cases ag with
 | false =>
  simp only [vPart] at h
  cases hcs : e.cells? with
  | none => simp [hcs] at h
  | some cs =>
   simp only [hcs] at h
   obtain ⟨hl,hr,h1⟩ := r.cells hcs
   have hlt : off < cs.length := (List.getElem?_eq_some_iff.1 h).1
   have hv : ve.cells[off]? = some (ve.cells[off]'(by omega)) := by simp
   refine ⟨_,?_,hr _ _ _ h hv⟩
   simp [loadVar,aggOf_run ha,run_load,hc _ _ hv]
 | true =>
  simp only [vPart] at h
  split at h
  ·rename_i cs
   obtain ⟨hl,hr,h1⟩ := r.cells (x := .agg cs) rfl
   have key : off + sz ≤ cs.length → x = .agg ((cs.drop off).take sz) → ∃ v,(loadVar t ⟨B,O + off,none⟩).run P w = .ok v w ∧ RelV G x v := by
    intro hle hx
    subst hx
    have hll : ((ve.cells.toList.drop off).take sz).length = sz := by simp; omega
    have hload := run_loadCells_list (P := P) w ⟨B,O + off,none⟩ ((ve.cells.toList.drop off).take sz) (fun j v hj => by
     rw [addr_add]
     rw [List.getElem?_take] at hj
     split at hj
     ·rw [List.getElem?_drop] at hj
      rw [show O + off + j = O + (off + j) by omega]
      exact hc _ _ (by simpa using hj)
     ·simp at hj)
    rw [hll] at hload
    refine ⟨.agg ((ve.cells.toList.drop off).take sz).toArray,?_,?_⟩
    ·simp [loadVar,aggOf_run ha,szOf_run hs,hload]
    ·refine .agg _ _ (by simp; omega) (fun i c u hc hu => ?_) (fun i u hu => ?_)
     ·simp only [List.getElem?_toArray,List.getElem?_take,List.getElem?_drop] at hc hu
      split at hc
      ·rename_i hi
       simp only [hi,if_true] at hu
       exact hr _ _ _ hc (by simpa using hu)
      ·simp at hc
     ·simp only [List.getElem?_toArray,List.getElem?_take,List.getElem?_drop] at hu
      split at hu
      ·exact h1 (off + i) u (by simpa using hu)
      ·simp at hu
   split at h
   ·rename_i hh
    obtain ⟨rfl,rfl⟩ := hh
    simp at h
    exact key (by omega) (by subst h; simp)
   ·split at h
    ·simp at h
     exact key (by assumption) h.symm
    ·simp at h
  ·simp at h
theorem fieldOf_run {P : Program} {t : TypeId} {f : Nat} {fd : Field} (h : fieldOf P t f = some fd) : ∃ fs,P.underlying t = some (.struct fs) ∧ fs[f]? = some fd := by
 unfold fieldOf at h
 split at h
 ·rename_i fs hfs
  exact ⟨fs,hfs,h⟩
 ·cases h
theorem fieldV_sound {P : Program} {G : Gh} {t : TypeId} {f : Nat} {fd : Field} {ag : Bool} {sz : Nat} {x y : PV} {vx : Value} (w : World) (h1 : fieldOf P t f = some fd) (h2 : szOf P fd.type = some sz) (h3 : aggOf P fd.type = some ag)
  (rx : RelV G x vx) (h : vFieldV ag sz x fd.offset = some y) : ∃ v,(Instr.field t vx f).run P w = .ok v w ∧ RelV G y v := by
 obtain ⟨fs,hu,hf⟩ := fieldOf_run h1
 cases rx with
 | agg cs vs hl hr h1c =>
  simp only [vFieldV] at h
  cases ag with
  | false =>
   simp only [vPart,PV.cells?] at h
   have hlt : fd.offset < cs.length := (List.getElem?_eq_some_iff.1 h).1
   have hv : vs[fd.offset]? = some (vs[fd.offset]'(by omega)) := by simp
   exact ⟨_,by simp [Instr.field,run_underlying hu,hf,asAgg,part,aggOf_run h3,hv],hr _ _ _ h hv⟩
  | true =>
   have key : fd.offset + sz ≤ cs.length → y = .agg ((cs.drop fd.offset).take sz) → ∃ v,(Instr.field t (.agg vs) f).run P w = .ok v w ∧ RelV G y v := by
    intro hle hy
    subst hy
    refine ⟨.agg (vs.extract fd.offset (fd.offset + sz)),by simp [Instr.field,run_underlying hu,hf,asAgg,part,aggOf_run h3,szOf_run h2],.agg _ _ (by simp; omega) (fun i c u hc hv => ?_) (fun i u hv => ?_)⟩
    ·rw [Array.getElem?_extract] at hv
     rw [List.getElem?_take] at hc
     split at hv
     ·split at hc
      ·rw [List.getElem?_drop] at hc
       exact hr _ _ _ hc hv
      ·cases hc
     ·cases hv
    ·rw [Array.getElem?_extract] at hv
     split at hv
     ·exact h1c _ _ hv
     ·cases hv
   simp only [vPart] at h
   split at h
   ·rename_i hh
    obtain ⟨h0,hsz⟩ := hh
    simp only [Option.some.injEq] at h
    exact key (by omega) (by rw [← h,h0,← hsz]; simp)
   ·split at h
    ·rename_i hle
     simp only [Option.some.injEq] at h
     exact key hle h.symm
    ·cases h
 | _ => simp [vFieldV] at h
end Go.Abs
namespace Go.Abs
theorem Sem.run_new (P : Program) {α : Type} (o : Obj) (k : Nat → Sem α) (w : World) : (Sem.new o k).run P w = (k w.heap.size).run P { w with heap := w.heap.push o } := rfl
def baseOf (G : Gh) (b : Nat) : Blk → Option Nat
 | .arr g _ _ => (G.μ b g).map (·.1)
 | .map .. => (G.μ b 0).map (·.1)
 | .iter .. => (G.μ b 0).map (·.1)
 | .dead => none
def ownB (G : Gh) (σ : St) (B : Nat) : Prop := ∃ b blk,σ[b]? = some blk ∧ baseOf G b blk = some B
def RowAt (G : Gh) (cs : Array Value) (O z : Nat) (xs : List PV) : Prop :=
 ∃ vs : Nat → Value,(∀ i x,xs[i]? = some x → RelV G x (vs i)) ∧
  ∀ i,i < xs.length → (vs i).cells.size = z ∧ ∀ j v,(vs i).cells[j]? = some v → v.oneCell' = true ∧ cs[O + i * z + j]? = some v
def EntsOk (ents : Array MapEntry) (clock : Nat) : Prop :=
 (∀ (i : Nat) (m : MapEntry),ents[i]? = some m → m.born < clock) ∧ ∀ (i j : Nat) (m m' : MapEntry),ents[i]? = some m → ents[j]? = some m' → m.born = m'.born → i = j
def IterOk (ents : Array MapEntry) (clock since : Nat) (seen : Array Nat) (stepped : Nat) (last : Option Nat) (left : List Nat) : Prop :=
 since = clock ∧ stepped = clock ∧ left.Nodup ∧ (∀ i,i ∈ left ↔ ∃ m,ents[i]? = some m ∧ seen.contains m.born = false) ∧ ∀ i,last = some i → ∃ m,ents[i]? = some m ∧ seen.back? = some m.born
structure Base where
 n : Nat
 old : Nat → Option Obj
 g0 : Gh
 glb : ∀ g,RelV g0 (globPV g) (.pointer (some ⟨g,0,none⟩))
 hn : g0.n0 = n
def TyOk (g z O n : Nat) (el : TypeId) : Prop := (g % 4 = 1 → O = 0 ∧ el = tyG g ∧ n = z) ∧ (g % 4 = 3 → O = 0 ∧ el = tyG g)
theorem TyOk.no {g z O n : Nat} {el : TypeId} (h1 : ¬ g % 4 = 1) (h3 : ¬ g % 4 = 3) : TyOk g z O n el := ⟨fun h => absurd h h1,fun h => absurd h h3⟩
def FzOk (fz : Nat × Nat) (n : Nat) : Prop := fz = (0,0) ∨ n ≤ fz.1
def BlkRel (G : Gh) (N : Base) (w : World) (b : Nat) : Blk → Prop
 | .arr g z xs => ∃ B O n cs el,G.μ b g = some (B,O,z,n) ∧ N.n ≤ B ∧ (∃ fz,FzOk fz n ∧ w.heap[B]? = some (.cells cs el fz)) ∧ cs.size = n ∧ O + xs.length * z ≤ n ∧ (0 < z ∧ TyOk g z O n el) ∧ RowAt G cs O z xs
 | .map v es => ∃ B ents clock,G.μ b 0 = some (B,0,0,0) ∧ N.n ≤ B ∧ w.heap[B]? = some (.map ents clock) ∧ ents.size = es.length ∧
   (∀ (i : Nat) (e : PV × PV) (m : MapEntry),es[i]? = some e → ents[i]? = some m → RelV G e.1 m.key ∧ RelV G e.2 m.val) ∧ G.H b v = some (ents,clock) ∧ EntsOk ents clock
 | .iter m last left => ∃ B mr since seen stepped,G.μ b 0 = some (B,0,0,0) ∧ N.n ≤ B ∧ w.heap[B]? = some (.mapIter mr since seen stepped) ∧
   (match m with
   | none => mr = none
   | some k => ∃ MB ents clock,G.μ k.1 0 = some (MB,0,0,0) ∧ mr = some MB ∧ G.H k.1 k.2 = some (ents,clock) ∧ IterOk ents clock since seen stepped last left)
 | .dead => True
structure Inv (G : Gh) (N : Base) (σ : St) (w : World) : Prop where
 imm : ∀ B o v,G.I B o = some v → w.cell? ⟨B,o,none⟩ = some v
 dom : ∀ b g y,G.μ b g = some y → b < σ.length
 blk : ∀ b k,σ[b]? = some k → BlkRel G N w b k
 inj : ∀ b b' k k' B,σ[b]? = some k → σ[b']? = some k' → baseOf G b k = some B → baseOf G b' k' = some B → b = b'
 sep : ∀ B o,ownB G σ B → G.I B o = none
 big : N.n ≤ w.heap.size
 gen : ∀ b g z xs,σ[b]? = some (.arr g z xs) → ∀ g',g < g' → G.μ b g' = none
 domH : ∀ b n y,G.H b n = some y → b < σ.length
 genH : ∀ b v es,σ[b]? = some (.map v es) → ∀ v',v < v' → G.H b v' = none
 old : ∀ k,k < N.n → w.heap[k]? = N.old k
 bas : N.g0.le G
structure Ext (G : Gh) (σ : St) (w : World) (G' : Gh) (σ' : St) (w' : World) : Prop where
 le : G.le G'
 os : w'.os = w.os
 tape : w'.tape = w.tape
 output : w'.output = w.output
 size : w.heap.size ≤ w'.heap.size
 keep : ∀ k,k < w.heap.size → ¬ ownB G σ k → (∀ o,G.I k o = none) → w'.heap[k]? = w.heap[k]?
 own : ∀ B,ownB G' σ' B → ownB G σ B ∨ w.heap.size ≤ B
 imm : ∀ B o v,G'.I B o = some v → G.I B o = some v ∨ ownB G σ B ∨ w.heap.size ≤ B
 len : σ.length ≤ σ'.length
theorem Ext.refl (G : Gh) (σ : St) (w : World) : Ext G σ w G σ w :=
 ⟨.refl G,rfl,rfl,rfl,Nat.le_refl _,fun _ _ _ _ => rfl,fun _ h => .inl h,fun _ _ _ h => .inl h,Nat.le_refl _⟩
theorem Ext.trans {G : Gh} {σ : St} {w : World} {G' : Gh} {σ' : St} {w' : World} {G'' : Gh} {σ'' : St} {w'' : World} (h : Ext G σ w G' σ' w') (k : Ext G' σ' w' G'' σ'' w'') : Ext G σ w G'' σ'' w'' where
 le := h.le.trans k.le
 os := k.os.trans h.os
 tape := k.tape.trans h.tape
 output := k.output.trans h.output
 size := Nat.le_trans h.size k.size
 keep := fun i hi hn hI => by
  rw [k.keep i (by have := h.size; omega) (fun ho => by
   rcases h.own i ho with h1 | h1
   ·exact hn h1
   ·omega) (fun o => by
   cases hG : G'.I i o with
   | none => rfl
   | some v =>
    rcases h.imm i o v hG with e | e | e
    ·rw [hI] at e; cases e
    ·exact absurd e hn
    ·omega),h.keep i hi hn hI]
 own := fun B hB => by
  rcases k.own B hB with h1 | h1
  ·exact h.own B h1
  ·exact .inr (Nat.le_trans h.size h1)
 imm := fun B o v hv => by
  rcases k.imm B o v hv with h1 | h1 | h1
  ·exact h.imm B o v h1
  ·rcases h.own B h1 with h2 | h2
   ·exact .inr (.inl h2)
   ·exact .inr (.inr h2)
  ·exact .inr (.inr (Nat.le_trans h.size h1))
 len := Nat.le_trans h.len k.len
theorem Inv.lt_of_own {G : Gh} {N : Base} {σ : St} {w : World} (h : Inv G N σ w) {B : Nat} (ho : ownB G σ B) : B < w.heap.size ∧ N.n ≤ B := by
 obtain ⟨b,k,hk,hb⟩ := ho
 have hr := h.blk b k hk
 cases k with
 | arr g z xs =>
  obtain ⟨B',O,n,cs,el,hm,hN,⟨fz,hfz,hh⟩,_⟩ := hr
  simp [baseOf,hm] at hb
  subst hb
  exact ⟨(Array.getElem?_eq_some_iff.1 hh).1,hN⟩
 | map v es =>
  obtain ⟨B',ents,clock,hm,hN,hh,_⟩ := hr
  simp [baseOf,hm] at hb
  subst hb
  exact ⟨(Array.getElem?_eq_some_iff.1 hh).1,hN⟩
 | iter m s l =>
  obtain ⟨B',mr,since,seen,stepped,hm,hN,hh,_⟩ := hr
  simp [baseOf,hm] at hb
  subst hb
  exact ⟨(Array.getElem?_eq_some_iff.1 hh).1,hN⟩
 | dead => simp [baseOf] at hb
theorem getElem?_splice {α : Type} (l m : List α) (k : Nat) (hk : k + m.length ≤ l.length) (j : Nat) :
  (l.take k ++ m ++ l.drop (k + m.length))[j]? = if k ≤ j ∧ j < k + m.length then m[j - k]? else l[j]? := by
 rw [List.append_assoc,List.getElem?_append]
 have h1 : (l.take k).length = k := by simp; omega
 rw [h1]
 split
 ·rename_i h
  rw [if_neg (by omega),List.getElem?_take,if_pos h]
 ·rename_i h
  rw [List.getElem?_append]
  split
  ·rename_i h2
   rw [if_pos (by omega)]
  ·rename_i h2
   rw [if_neg (by omega),List.getElem?_drop]
   congr 1
   omega
theorem size_splice {α : Type} (l m : List α) (k : Nat) (hk : k + m.length ≤ l.length) : (l.take k ++ m ++ l.drop (k + m.length)).length = l.length := by
 simp; omega
theorem put_part {G : Gh} {e x e' : PV} {ve v : Value} {sz off : Nat} (r : RelV G e ve) (rx : RelV G x v) (h : vPut sz e off x = some e') :
  v.cells.size = sz ∧ (∀ u ∈ v.cells.toList,u.oneCell' = true) ∧ off + sz ≤ ve.cells.size ∧ ∃ ve',RelV G e' ve' ∧ ve'.cells.toList = ve.cells.toList.take off ++ v.cells.toList ++ ve.cells.toList.drop (off + v.cells.toList.length) := by
 simp only [vPut] at h
 cases hx : x.cells? with
 | none => simp [hx] at h
 | some ws =>
  simp only [hx] at h
  obtain ⟨hl,hr,h1⟩ := rx.cells hx
  split at h
  ·rename_i hsz
   have hmem : ∀ u ∈ v.cells.toList,u.oneCell' = true := by
    intro u hu
    obtain ⟨j,hj⟩ := List.getElem?_of_mem hu
    exact h1 j u (by simpa using hj)
   have scalar : ∀ {e : PV},e.cells? = some [e] → RelV G e ve → (if off = 0 ∧ sz = 1 then ws.head? else none) = some e' →
     off + sz ≤ ve.cells.size ∧ ∃ ve',RelV G e' ve' ∧ ve'.cells.toList = ve.cells.toList.take off ++ v.cells.toList ++ ve.cells.toList.drop (off + v.cells.toList.length) := by
    intro e he re hh
    obtain ⟨el,er,e1⟩ := re.cells he
    split at hh
    ·rename_i hc
     obtain ⟨rfl,rfl⟩ := hc
     simp at el
     have hv1 : v.cells.size = 1 := by omega
     obtain ⟨u,hu⟩ : ∃ u,v.cells = #[u] := Array.size_eq_one_iff.1 hv1
     have hu1 : u.oneCell' = true := hmem u (by simp [hu])
     have hw : ws[0]? = some e' := by rw [← List.head?_eq_getElem?]; exact hh
     refine ⟨by omega,u,hr 0 e' u hw (by simp [hu]),?_⟩
     rw [oneCell_cells hu1,hu]
     have : ve.cells.toList.length = 1 := by simp; omega
     simp [List.drop_eq_nil_of_le,this]
    ·simp at hh
   cases e with
   | any => simp at h
   | tuple cs => simp at h
   | agg cs =>
    simp only at h
    split at h
    ·rename_i hle
     simp at h
     subst h
     obtain ⟨el,er,e1⟩ := r.cells (x := .agg cs) rfl
     refine ⟨by omega,hmem,by omega,.agg (ve.cells.toList.take off ++ v.cells.toList ++ ve.cells.toList.drop (off + v.cells.toList.length)).toArray,?_,by simp [Value.cells]⟩
     have hkc : off + ws.length ≤ cs.length := by omega
     have hkv : off + v.cells.toList.length ≤ ve.cells.toList.length := by simp; omega
     refine .agg _ _ ?_ (fun i c u hc hu => ?_) (fun i u hu => ?_)
     ·simp only [setRange,List.size_toArray]
      rw [size_splice _ _ _ hkc,size_splice _ _ _ hkv]
      simpa using el
     ·simp only [setRange] at hc
      rw [getElem?_splice _ _ _ hkc] at hc
      rw [List.getElem?_toArray,getElem?_splice _ _ _ hkv] at hu
      have hlen : v.cells.toList.length = ws.length := by simp; omega
      rw [hlen] at hu
      split at hc
      ·rename_i hin
       rw [if_pos hin] at hu
       exact hr _ _ _ hc (by simpa using hu)
      ·rename_i hin
       rw [if_neg hin] at hu
       exact er _ _ _ hc (by simpa using hu)
     ·rw [List.getElem?_toArray,getElem?_splice _ _ _ hkv] at hu
      split at hu
      ·exact h1 _ _ (by simpa using hu)
      ·exact e1 _ _ (by simpa using hu)
    ·simp at h
   | _ =>
    obtain ⟨ha,hb⟩ := scalar (by rfl) r h
    exact ⟨by omega,hmem,ha,hb⟩
  ·simp at h
theorem storeCells_fz (P : Program) (g o : Nat) (t : TypeId) (fz : Nat × Nat) : ∀ (vs : List Value) (i : Nat) (cur : Array Value) (w : World),w.heap[g]? = some (.cells cur t fz) → FzOk fz cur.size → o + i + vs.length ≤ cur.size → (∀ v ∈ vs,v.oneCell' = true) →
  (storeCells ⟨g,o,none⟩ vs i).run P w = .ok () (w.setRow g (cur.toList.take (o + i) ++ vs ++ cur.toList.drop (o + i + vs.length)).toArray)
 | [],i,cur,w,hg,_,_,_ => by
  simp only [storeCells,List.append_nil,List.length_nil,Nat.add_zero,List.take_append_drop,Array.toArray_toList]
  rw [setRow_self w g cur t fz hg]
  rfl
 | v :: rest,i,cur,w,hg,hz,hl,h1 => by
  have hl' : o + i + (rest.length + 1) ≤ cur.size := hl
  have hi : o + i < cur.size := by omega
  have hadd : (⟨g,o,none⟩ : Addr).add i = ⟨g,o + i,none⟩ := addr_add _ _ _
  have hcell : w.cell? ⟨g,o + i,none⟩ = some cur[o + i] := by simp [World.cell?,hg,hi]
  have hfro : w.frozen? ⟨g,o + i,none⟩ = false := by
   rcases hz with rfl | hz
   ·simp [World.frozen?,hg]
   ·simp [World.frozen?,hg]
    omega
  have hst : (store ((⟨g,o,none⟩ : Addr).add i) v).run P w = .ok () (w.setRow g (cur.setIfInBounds (o + i) v)) := by
   rw [hadd,run_store P w _ v _ (h1 v (by simp)),hcell]
   simp [hfro,setCell_eq_setRow w g (o + i) cur t fz v hg]
  have ih := storeCells_fz P g o t fz rest (i + 1) (cur.setIfInBounds (o + i) v) (w.setRow g (cur.setIfInBounds (o + i) v)) (setRow_heap w g cur _ t _ hg) (by simpa using hz) (by simp; omega) (fun x hx => h1 x (by simp [hx]))
  simp only [storeCells,Sem.run_bind,hst,Result.andThen_ok,ih,setRow_setRow]
  congr 3
  have e := list_seg_step cur.toList (o + i) v rest (by simp; omega)
  simpa [Array.toList_setIfInBounds,Nat.add_assoc] using e
theorem storeVar_run {P : Program} {w : World} {t : TypeId} {sz B p : Nat} {cs : Array Value} {el : TypeId} {v : Value} {fz : Nat × Nat} (hs : szOf P t = some sz)
  (hh : w.heap[B]? = some (.cells cs el fz)) (hfz : FzOk fz cs.size) (hv : v.cells.size = sz) (h1 : ∀ u ∈ v.cells.toList,u.oneCell' = true) (hle : p + sz ≤ cs.size) :
  (storeVar t ⟨B,p,none⟩ v).run P w = .ok () (w.setRow B (cs.toList.take p ++ v.cells.toList ++ cs.toList.drop (p + v.cells.toList.length)).toArray) := by
 have hst := storeCells_fz P B p el fz v.cells.toList 0 cs w hh hfz (by simp; omega) h1
 simp only [Nat.add_zero] at hst
 simp [storeVar,szOf_run hs,hv,hst]
theorem setRow_ext_heap (w : World) (B : Nat) (cs : Array Value) (k : Nat) (h : k ≠ B) : (w.setRow B cs).heap[k]? = w.heap[k]? := by
 simp only [World.setRow,Array.getElem?_modify]
 rw [if_neg (by omega)]
theorem setRow_size (w : World) (B : Nat) (cs : Array Value) : (w.setRow B cs).heap.size = w.heap.size := by simp [World.setRow]
theorem cell_of_heap_eq {w w' : World} {B : Nat} (h : w'.heap[B]? = w.heap[B]?) (o : Nat) : w'.cell? ⟨B,o,none⟩ = w.cell? ⟨B,o,none⟩ := by
 simp [World.cell?,h]
theorem BlkRel.step {G G' : Gh} {N : Base} {w w' : World} {b : Nat} {k : Blk} (le : G.le G') (h : BlkRel G N w b k)
  (hw : ∀ B,baseOf G b k = some B → w'.heap[B]? = w.heap[B]?) : BlkRel G' N w' b k := by
 cases k with
 | arr g z xs =>
  obtain ⟨B,O,n,cs,el,hm,hN,hh,hn,hle,hz,vs,h1,h2⟩ := h
  exact ⟨B,O,n,cs,el,le.at_ _ _ _ hm,hN,by rw [hw B (by simp [baseOf,hm])]; exact hh,hn,hle,hz,vs,fun i x hi => (h1 i x hi).mono le,h2⟩
 | map v es =>
  obtain ⟨B,ents,clock,hm,hN,hh,hl,hr,hH,hE⟩ := h
  exact ⟨B,ents,clock,le.at_ _ _ _ hm,hN,by rw [hw B (by simp [baseOf,hm])]; exact hh,hl,fun i e m he hm => ⟨(hr i e m he hm).1.mono le,(hr i e m he hm).2.mono le⟩,le.his _ _ _ hH,hE⟩
 | iter m s l =>
  obtain ⟨B,mr,since,seen,stepped,hm,hN,hh,hr⟩ := h
  refine ⟨B,mr,since,seen,stepped,le.at_ _ _ _ hm,hN,by rw [hw B (by simp [baseOf,hm])]; exact hh,?_⟩
  cases m with
  | none => exact hr
  | some k =>
   obtain ⟨MB,ents,clock,q1,q2,q3,q4⟩ := hr
   exact ⟨MB,ents,clock,le.at_ _ _ _ q1,q2,le.his _ _ _ q3,q4⟩
 | dead => trivial
theorem baseOf_mono {G G' : Gh} (le : G.le G') {N : Base} {w : World} {b : Nat} {k : Blk} (h : BlkRel G N w b k) : baseOf G' b k = baseOf G b k := by
 cases k with
 | arr g z xs => obtain ⟨B,O,n,cs,el,hm,_⟩ := h; simp [baseOf,hm,le.at_ _ _ _ hm]
 | map v es => obtain ⟨B,ents,clock,hm,_⟩ := h; simp [baseOf,hm,le.at_ _ _ _ hm]
 | iter m s l => obtain ⟨B,mr,since,seen,stepped,hm,_⟩ := h; simp [baseOf,hm,le.at_ _ _ _ hm]
 | dead => rfl
theorem store_sound {P : Program} {G : Gh} {N : Base} {σ σ' : St} {w : World} {t : TypeId} {sz : Nat} {p x : PV} {vp v : Value} (hi : Inv G N σ w) (hs : szOf P t = some sz)
  (rp : RelV G p vp) (rx : RelV G x v) (h : vStore sz p x σ = some σ') :
  ∃ w',(Instr.storeAt t vp v).run P w = .ok () w' ∧ Inv G N σ' w' ∧ Ext G σ w G σ' w' ∧ (∀ B,¬ ownB G σ B → w'.heap[B]? = w.heap[B]?) ∧ (∀ B,ownB G σ' B ↔ ownB G σ B) := by
 cases rp with
 | ptr b g i off B O z n hm =>
  simp only [vStore] at h
  cases hb : σ[b]? with
  | none => simp [hb] at h
  | some blk =>
   cases blk with
   | arr g' z' xs =>
    simp only [hb] at h
    split at h
    ·rename_i hg
     subst hg
     cases he : xs[i]? with
     | none => simp [he] at h
     | some e =>
      simp only [he] at h
      cases hp : vPut sz e off x with
      | none => simp [hp] at h
      | some e' =>
       simp only [hp,Option.some.injEq] at h
       subst h
       have hblk := hi.blk b _ hb
       obtain ⟨B',O',n',cs,el,hm',hN,⟨fz,hfz,hh⟩,hn,hle,hz,vs,hrel,hcell⟩ := hblk
       rw [hm] at hm'
       simp only [Option.some.injEq,Prod.mk.injEq] at hm'
       obtain ⟨rfl,rfl,rfl,rfl⟩ := hm'
       have hil : i < xs.length := (List.getElem?_eq_some_iff.1 he).1
       obtain ⟨hvz,hvc⟩ := hcell i hil
       obtain ⟨hvs,hv1,hfit,ve',re',hcells⟩ := put_part (hrel i e he) rx hp
       have hmul : O + i * z + z ≤ cs.size := by
        have : (i + 1) * z ≤ xs.length * z := Nat.mul_le_mul_right _ hil
        rw [Nat.add_mul] at this
        omega
       have hpos : O + i * z + off + sz ≤ cs.size := by omega
       have hrun := storeVar_run (P := P) (w := w) (p := O + i * z + off) hs hh (hn ▸ hfz) hvs hv1 hpos
       have hvl : v.cells.toList.length = sz := by simp [hvs]
       have hk1 : O + i * z + off + v.cells.toList.length ≤ cs.toList.length := by simp at *; omega
       have hkk : off + v.cells.toList.length ≤ (vs i).cells.toList.length := by simp at *; omega
       generalize hcs' : (cs.toList.take (O + i * z + off) ++ v.cells.toList ++ cs.toList.drop (O + i * z + off + v.cells.toList.length)).toArray = cs' at hrun
       have hcs'get : ∀ j : Nat,cs'[j]? = if O + i * z + off ≤ j ∧ j < O + i * z + off + sz then v.cells.toList[j - (O + i * z + off)]? else cs.toList[j]? := by
        intro j
        rw [← hcs',List.getElem?_toArray,getElem?_splice _ _ _ hk1,hvl]
       have hsize' : cs'.size = cs.size := by
        rw [← hcs',List.size_toArray,size_splice _ _ _ hk1]; simp
       have hbase : baseOf G b (.arr g z xs) = some B := by simp [baseOf,hm]
       have hbl : b < σ.length := (List.getElem?_eq_some_iff.1 hb).1
       have hown : ∀ B',ownB G (σ.set b (.arr g z (xs.set i e'))) B' ↔ ownB G σ B' := by
        intro B'
        constructor
        ·rintro ⟨c,k,hk,hB⟩
         rw [List.getElem?_set] at hk
         split at hk
         ·rename_i hbc
          subst hbc
          simp [hbl] at hk
          subst hk
          exact ⟨b,_,hb,by simpa [baseOf] using hB⟩
         ·exact ⟨c,k,hk,hB⟩
        ·rintro ⟨c,k,hk,hB⟩
         by_cases hbc : b = c
         ·subst hbc
          rw [hb] at hk
          simp at hk
          subst hk
          exact ⟨b,.arr g z (xs.set i e'),by simp [hbl],by simpa [baseOf] using hB⟩
         ·exact ⟨c,k,by rw [List.getElem?_set]; simp [hbc,hk],hB⟩
       have hne : ∀ B',¬ ownB G σ B' → (w.setRow B cs').heap[B']? = w.heap[B']? := by
        intro B' hB'
        apply setRow_ext_heap
        rintro rfl
        exact hB' ⟨b,_,hb,hbase⟩
       refine ⟨w.setRow B cs',by simp [Instr.storeAt,Instr.sureAddr,hrun],⟨?_,?_,?_,?_,?_,?_,?_,?_,?_,fun k hk => (hne k (fun ho => by have := (hi.lt_of_own ho).2; omega)).trans (hi.old k hk),hi.bas⟩,⟨.refl _,rfl,rfl,rfl,by simp [setRow_size],fun k _ hk _ => hne k hk,fun B' hB' => .inl ((hown B').1 hB'),fun _ _ _ hv => .inl hv,by simp⟩,hne,hown⟩
       ·intro B' o u hu
        have : ¬ ownB G σ B' := fun ho => by rw [hi.sep B' o ho] at hu; simp at hu
        rw [cell_of_heap_eq (hne B' this)]
        exact hi.imm B' o u hu
       ·intro c g' y hy
        have := hi.dom c g' y hy
        simpa using this
       ·intro c k hk
        rw [List.getElem?_set] at hk
        split at hk
        ·rename_i hbc
         subst hbc
         simp [hbl] at hk
         subst hk
         refine ⟨B,O,cs.size,cs',el,hm.trans (by rw [hn]),hN,⟨fz,hn ▸ hfz,setRow_heap w B cs cs' el fz hh⟩,hsize',by simpa using (by omega : O + xs.length * z ≤ cs.size),by rw [hn]; exact hz,fun k => if k = i then ve' else vs k,?_,?_⟩
         ·intro k y hk
          rw [List.getElem?_set] at hk
          by_cases hki : i = k
          ·subst hki
           simp [hil] at hk
           subst hk
           simpa using re'
          ·simp only [hki,if_false] at hk
           show RelV G y (if k = i then ve' else vs k)
           rw [if_neg (Ne.symm hki)]
           exact hrel k y hk
         ·intro k hk
          simp only [List.length_set] at hk
          by_cases hki : k = i
          ·subst hki
           simp only [if_true]
           have hsz : ve'.cells.size = z := by
            have h3 : ve'.cells.toList.length = (vs k).cells.toList.length := by rw [hcells,size_splice _ _ _ hkk]
            simpa [hvz] using h3
           refine ⟨hsz,fun j u hu => ?_⟩
           have hu' : ve'.cells.toList[j]? = some u := by simpa using hu
           rw [hcells,getElem?_splice _ _ _ hkk,hvl] at hu'
           have hjz : j < z := by
            have := (Array.getElem?_eq_some_iff.1 hu).1
            omega
           split at hu'
           ·rename_i hin
            refine ⟨hv1 u (List.mem_of_getElem? hu'),?_⟩
            rw [hcs'get,if_pos (by omega),← hu']
            congr 1
            omega
           ·rename_i hin
            obtain ⟨q1,q2⟩ := hvc j u (by simpa using hu')
            refine ⟨q1,?_⟩
            rw [hcs'get,if_neg (by omega)]
            simpa using q2
          ·simp only [hki,if_false]
           obtain ⟨q1,q2⟩ := hcell k hk
           refine ⟨q1,fun j u hu => ⟨(q2 j u hu).1,?_⟩⟩
           have hjz : j < z := by
            have := (Array.getElem?_eq_some_iff.1 hu).1
            omega
           rw [hcs'get,if_neg ?_]
           ·simpa using (q2 j u hu).2
           ·rintro ⟨g1,g2⟩
            rcases Nat.lt_or_ge k i with hlt | hge
            ·have : (k + 1) * z ≤ i * z := Nat.mul_le_mul_right _ hlt
             rw [Nat.add_mul] at this
             omega
            ·have : (i + 1) * z ≤ k * z := Nat.mul_le_mul_right _ (by omega)
             rw [Nat.add_mul] at this
             omega
        ·rename_i hbc
         refine (hi.blk c k hk).step (.refl G) fun B' hB' => ?_
         apply setRow_ext_heap
         rintro rfl
         exact hbc (hi.inj b c _ _ B' hb hk hbase hB')
       ·intro c c' k k' B' hk hk' hB1 hB2
        have conv : ∀ {c : Nat} {k : Blk},(σ.set b (.arr g z (xs.set i e')))[c]? = some k → baseOf G c k = some B' → ∃ k0,σ[c]? = some k0 ∧ baseOf G c k0 = some B' := by
         intro c k hk hB
         rw [List.getElem?_set] at hk
         split at hk
         ·rename_i hbc
          subst hbc
          simp [hbl] at hk
          subst hk
          exact ⟨_,hb,by simpa [baseOf] using hB⟩
         ·exact ⟨k,hk,hB⟩
        obtain ⟨k1,hk1,hb1⟩ := conv hk hB1
        obtain ⟨k2,hk2,hb2⟩ := conv hk' hB2
        exact hi.inj c c' k1 k2 B' hk1 hk2 hb1 hb2
       ·intro B' o ho
        exact hi.sep B' o ((hown B').1 ho)
       ·simpa [setRow_size] using hi.big
       ·intro c g' z' xs' hk g'' hlt
        rw [List.getElem?_set] at hk
        split at hk
        ·rename_i hbc
         subst hbc
         simp [hbl] at hk
         exact hi.gen b g z xs hb g'' (by omega)
        ·exact hi.gen c g' z' xs' hk g'' hlt
       ·intro c v y hy
        have := hi.domH c v y hy
        simpa using this
       ·intro c v es hk v' hlt
        rw [List.getElem?_set] at hk
        split at hk
        ·rename_i hbc
         subst hbc
         simp [hbl] at hk
        ·exact hi.genH c v es hk v' hlt
    ·simp at h
   | _ => simp [hb] at h
 | _ => simp [vStore] at h
def World.more (w : World) (o : Obj) : World := { w with heap := w.heap.push o }
theorem more_heap (w : World) (o : Obj) (k : Nat) : (World.more w o).heap[k]? = if k = w.heap.size then some o else w.heap[k]? := by
 show (w.heap.push o)[k]? = _
 rw [Array.getElem?_push]
theorem more_heap_lt (w : World) (o : Obj) (k : Nat) (h : k < w.heap.size) : (World.more w o).heap[k]? = w.heap[k]? := by
 rw [more_heap,if_neg (by omega)]
theorem more_size (w : World) (o : Obj) : (World.more w o).heap.size = w.heap.size + 1 := by simp [World.more]
theorem cell_more {w : World} {o : Obj} {a : Addr} {u : Value} (h : w.cell? a = some u) : (World.more w o).cell? a = some u := by
 have hlt : a.block < w.heap.size := by
  unfold World.cell? at h
  rcases Nat.lt_or_ge a.block w.heap.size with h1 | h1
  ·exact h1
  ·rw [Array.getElem?_eq_none h1] at h
   simp at h
 unfold World.cell? at h ⊢
 rw [more_heap_lt _ _ _ hlt]
 exact h
def Gh.newAt (G : Gh) (b g : Nat) (y : Nat × Nat × Nat × Nat) : Gh := { G with μ := fun c h => if c = b ∧ h = g then some y else G.μ c h }
theorem Gh.newAt_le {G : Gh} {b g : Nat} {y : Nat × Nat × Nat × Nat} (h : G.μ b g = none) : G.le (G.newAt b g y) := by
 refine ⟨fun _ _ _ e => e,fun c k x e => ?_,fun _ _ _ e => e,rfl⟩
 simp only [Gh.newAt]
 split
 ·rename_i hc
  obtain ⟨rfl,rfl⟩ := hc
  rw [h] at e
  simp at e
 ·exact e
theorem Gh.newAt_at (G : Gh) (b g : Nat) (y : Nat × Nat × Nat × Nat) : (G.newAt b g y).μ b g = some y := by simp [Gh.newAt]
theorem RowAt.mono {G G' : Gh} (le : G.le G') {cs : Array Value} {O z : Nat} {xs : List PV} (h : RowAt G cs O z xs) : RowAt G' cs O z xs := by
 obtain ⟨vs,h1,h2⟩ := h
 exact ⟨vs,fun i x hi => (h1 i x hi).mono le,h2⟩
theorem push_soundT {G : Gh} {N : Base} {σ : St} {w : World} (hi : Inv G N σ w) (z : Nat) (xs : List PV) (cs : Array Value) (el : TypeId) (g0 : Nat) (hg0 : TyOk g0 z 0 cs.size el)
  (hz : 0 < z) (hle : xs.length * z ≤ cs.size) (hr : RowAt G cs 0 z xs) :
  Inv (G.newAt σ.length g0 (w.heap.size,0,z,cs.size)) N (σ ++ [.arr g0 z xs]) (World.more w (.cells cs el)) ∧
  Ext G σ w (G.newAt σ.length g0 (w.heap.size,0,z,cs.size)) (σ ++ [.arr g0 z xs]) (World.more w (.cells cs el)) ∧
  (∀ B,ownB (G.newAt σ.length g0 (w.heap.size,0,z,cs.size)) (σ ++ [.arr g0 z xs]) B → ownB G σ B ∨ B = w.heap.size) := by
 have hnone : G.μ σ.length g0 = none := by
  cases h : G.μ σ.length g0 with
  | none => rfl
  | some y => exact absurd (hi.dom _ _ _ h) (by omega)
 have le := Gh.newAt_le (y := (w.heap.size,0,z,cs.size)) hnone
 have hget : ∀ c k,(σ ++ [Blk.arr g0 z xs])[c]? = some k → (σ[c]? = some k) ∨ (c = σ.length ∧ k = .arr g0 z xs) := by
  intro c k h
  rw [List.getElem?_append] at h
  split at h
  ·exact .inl h
  ·rename_i hc
   have hc0 : c - σ.length = 0 := by
    have := (List.getElem?_eq_some_iff.1 h).1
    simp at this
    omega
   rw [hc0] at h
   simp at h
   exact .inr ⟨by omega,h.symm⟩
 have hbn : baseOf (G.newAt σ.length g0 (w.heap.size,0,z,cs.size)) σ.length (.arr g0 z xs) = some w.heap.size := by simp [baseOf,Gh.newAt_at]
 have hown : ∀ B,ownB (G.newAt σ.length g0 (w.heap.size,0,z,cs.size)) (σ ++ [.arr g0 z xs]) B → ownB G σ B ∨ B = w.heap.size := by
  rintro B ⟨c,k,hk,hB⟩
  rcases hget c k hk with h1 | ⟨rfl,rfl⟩
  ·rw [baseOf_mono le (hi.blk c k h1)] at hB
   exact .inl ⟨c,k,h1,hB⟩
  ·rw [hbn] at hB
   exact .inr (Option.some.inj hB).symm
 refine ⟨⟨?_,?_,?_,?_,?_,?_,?_,?_,?_,fun k hk => (more_heap_lt _ _ _ (by have := hi.big; omega)).trans (hi.old k hk),hi.bas.trans le⟩,⟨le,rfl,rfl,rfl,by rw [more_size]; omega,fun k hk _ _ => more_heap_lt _ _ _ hk,fun B hB => ?_,fun _ _ _ hv => .inl hv,by simp⟩,hown⟩
 ·exact fun B o v hv => cell_more (hi.imm B o v hv)
 ·intro b g y hy
  simp only [Gh.newAt] at hy
  split at hy
  ·rename_i hc; obtain ⟨rfl,rfl⟩ := hc; simp
  ·have := hi.dom b g y hy; simp; omega
 ·intro c k hk
  rcases hget c k hk with h1 | ⟨rfl,rfl⟩
  ·refine (hi.blk c k h1).step le fun B hB => more_heap_lt _ _ _ (hi.lt_of_own ⟨c,k,h1,hB⟩).1
  ·refine ⟨w.heap.size,0,cs.size,cs,el,Gh.newAt_at _ _ _ _,hi.big,⟨(0,0),.inl rfl,by rw [more_heap,if_pos rfl]⟩,rfl,by omega,⟨hz,hg0⟩,hr.mono le⟩
 ·intro b b' k k' B hk hk' hB hB'
  rcases hget b k hk with h1 | ⟨rfl,rfl⟩
  ·rw [baseOf_mono le (hi.blk b k h1)] at hB
   rcases hget b' k' hk' with h2 | ⟨rfl,rfl⟩
   ·rw [baseOf_mono le (hi.blk b' k' h2)] at hB'
    exact hi.inj b b' k k' B h1 h2 hB hB'
   ·rw [hbn] at hB'
    have := (hi.lt_of_own ⟨b,k,h1,hB⟩).1
    simp at hB'
    omega
  ·rw [hbn] at hB
   rcases hget b' k' hk' with h2 | ⟨rfl,rfl⟩
   ·rw [baseOf_mono le (hi.blk b' k' h2)] at hB'
    have := (hi.lt_of_own ⟨b',k',h2,hB'⟩).1
    simp at hB
    omega
   ·rfl
 ·intro B o ho
  rcases hown B ho with h1 | rfl
  ·exact hi.sep B o h1
  ·show G.I w.heap.size o = none
   cases h : G.I w.heap.size o with
   | none => rfl
   | some v =>
    have := hi.imm _ _ _ h
    simp [World.cell?] at this
 ·rw [more_size]; have := hi.big; omega
 ·intro b g z' xs' hk g' hlt
  simp only [Gh.newAt]
  rcases hget b _ hk with h1 | ⟨rfl,h2⟩
  ·have hbl := (List.getElem?_eq_some_iff.1 h1).1
   rw [if_neg (by omega)]
   exact hi.gen b g z' xs' h1 g' hlt
  ·simp only [Blk.arr.injEq] at h2
   rw [if_neg (by omega)]
   cases h : G.μ σ.length g' with
   | none => rfl
   | some y => exact absurd (hi.dom _ _ _ h) (by omega)
 ·intro c v y hy
  have := hi.domH c v y hy
  simp; omega
 ·intro c v es hk v' hlt
  rcases hget c _ hk with h1 | ⟨rfl,h2⟩
  ·exact hi.genH c v es h1 v' hlt
  ·cases h2
 ·rcases hown B hB with h1 | rfl
  ·exact .inl h1
  ·exact .inr (Nat.le_refl _)
theorem push_sound {G : Gh} {N : Base} {σ : St} {w : World} (hi : Inv G N σ w) (z : Nat) (xs : List PV) (cs : Array Value) (el : TypeId)
  (hz : 0 < z) (hle : xs.length * z ≤ cs.size) (hr : RowAt G cs 0 z xs) :
  Inv (G.newAt σ.length 0 (w.heap.size,0,z,cs.size)) N (σ ++ [.arr 0 z xs]) (World.more w (.cells cs el)) ∧
  Ext G σ w (G.newAt σ.length 0 (w.heap.size,0,z,cs.size)) (σ ++ [.arr 0 z xs]) (World.more w (.cells cs el)) ∧
  (∀ B,ownB (G.newAt σ.length 0 (w.heap.size,0,z,cs.size)) (σ ++ [.arr 0 z xs]) B → ownB G σ B ∨ B = w.heap.size) :=
 push_soundT hi z xs cs el 0 (.no (by decide) (by decide)) hz hle hr
def Gh.newImm (G : Gh) (B : Nat) (cs : Array Value) : Gh := { G with I := fun C o => if C = B then cs[o]? else G.I C o }
theorem imm_sound {G : Gh} {N : Base} {σ : St} {w : World} (hi : Inv G N σ w) (cs : Array Value) (el : TypeId) :
  Inv (G.newImm w.heap.size cs) N σ (World.more w (.cells cs el)) ∧ Ext G σ w (G.newImm w.heap.size cs) σ (World.more w (.cells cs el)) ∧ (∀ B,ownB (G.newImm w.heap.size cs) σ B ↔ ownB G σ B) := by
 have hno : ∀ o,G.I w.heap.size o = none := by
  intro o
  cases h : G.I w.heap.size o with
  | none => rfl
  | some v => have := hi.imm _ _ _ h; simp [World.cell?] at this
 have le : G.le (G.newImm w.heap.size cs) := by
  refine ⟨fun B o v e => ?_,fun _ _ _ e => e,fun _ _ _ e => e,rfl⟩
  simp only [Gh.newImm]
  split
  ·rename_i h; subst h; rw [hno] at e; simp at e
  ·exact e
 have hown : ∀ B,ownB (G.newImm w.heap.size cs) σ B ↔ ownB G σ B := by
  intro B
  constructor
  ·rintro ⟨c,k,hk,hB⟩
   exact ⟨c,k,hk,by rw [← baseOf_mono le (hi.blk c k hk)]; exact hB⟩
  ·rintro ⟨c,k,hk,hB⟩
   exact ⟨c,k,hk,by rw [baseOf_mono le (hi.blk c k hk)]; exact hB⟩
 refine ⟨⟨?_,hi.dom,?_,?_,?_,?_,hi.gen,hi.domH,hi.genH,fun k hk => (more_heap_lt _ _ _ (by have := hi.big; omega)).trans (hi.old k hk),hi.bas.trans le⟩,⟨le,rfl,rfl,rfl,by rw [more_size]; omega,fun k hk _ _ => more_heap_lt _ _ _ hk,fun B hB => .inl ((hown B).1 hB),?_,Nat.le_refl _⟩,hown⟩
 ·intro B o v hv
  simp only [Gh.newImm] at hv
  split at hv
  ·rename_i h
   subst h
   simp [World.cell?,more_heap,hv]
  ·exact cell_more (hi.imm B o v hv)
 ·intro c k hk
  exact (hi.blk c k hk).step le fun B hB => more_heap_lt _ _ _ (hi.lt_of_own ⟨c,k,hk,hB⟩).1
 ·intro b b' k k' B hk hk' hB hB'
  rw [baseOf_mono le (hi.blk b k hk)] at hB
  rw [baseOf_mono le (hi.blk b' k' hk')] at hB'
  exact hi.inj b b' k k' B hk hk' hB hB'
 ·intro B o ho
  have h1 := (hown B).1 ho
  have h2 := (hi.lt_of_own h1).1
  simp only [Gh.newImm]
  rw [if_neg (by omega)]
  exact hi.sep B o h1
 ·rw [more_size]; have := hi.big; omega
 ·intro B o v hv
  simp only [Gh.newImm] at hv
  split at hv
  ·rename_i h; subst h; exact .inr (.inr (Nat.le_refl _))
  ·exact .inl hv
theorem repl_sound {G G' : Gh} {N : Base} {σ : St} {w w' : World} {b g z g' z' B B' O' n' : Nat} {xs ys : List PV} (hi : Inv G N σ w) (hb : σ[b]? = some (.arr g z xs)) (hB : baseOf G b (.arr g z xs) = some B)
  (le : G.le G') (hI : G'.I = G.I) (hH : G'.H = G.H) (hoth : ∀ c h,c ≠ b → G'.μ c h = G.μ c h) (hat : G'.μ b g' = some (B',O',z',n')) (hgen : ∀ h,g' < h → G'.μ b h = none)
  (hB' : B' = B ∨ w.heap.size ≤ B') (hheap : ∀ k,k < w.heap.size → k ≠ B → w'.heap[k]? = w.heap[k]?) (hos : w'.os = w.os) (htape : w'.tape = w.tape) (hout : w'.output = w.output) (hsz : w.heap.size ≤ w'.heap.size)
  (hblk : BlkRel G' N w' b (.arr g' z' ys)) :
  Inv G' N (σ.set b (.arr g' z' ys)) w' ∧ Ext G σ w G' (σ.set b (.arr g' z' ys)) w' := by
 have hbl : b < σ.length := (List.getElem?_eq_some_iff.1 hb).1
 have hBlt := hi.lt_of_own ⟨b,_,hb,hB⟩
 have hget : ∀ c k,(σ.set b (.arr g' z' ys))[c]? = some k → (c ≠ b ∧ σ[c]? = some k) ∨ (c = b ∧ k = .arr g' z' ys) := by
  intro c k hk
  rw [List.getElem?_set] at hk
  split at hk
  ·rename_i hc
   subst hc
   simp [hbl] at hk
   exact .inr ⟨rfl,hk.symm⟩
  ·rename_i hc
   exact .inl ⟨fun e => hc e.symm,hk⟩
 have hbn : baseOf G' b (.arr g' z' ys) = some B' := by simp [baseOf,hat]
 have hown : ∀ C,ownB G' (σ.set b (.arr g' z' ys)) C → (ownB G σ C ∧ C ≠ B) ∨ C = B' := by
  rintro C ⟨c,k,hk,hC⟩
  rcases hget c k hk with ⟨h1,h2⟩ | ⟨rfl,rfl⟩
  ·rw [baseOf_mono le (hi.blk c k h2)] at hC
   refine .inl ⟨⟨c,k,h2,hC⟩,?_⟩
   rintro rfl
   exact h1 (hi.inj c b _ _ C h2 hb hC hB)
  ·rw [hbn] at hC
   exact .inr (Option.some.inj hC).symm
 have hheap2 : ∀ C,C < w.heap.size → ¬ ownB G σ C → w'.heap[C]? = w.heap[C]? := by
  intro C hC hno
  apply hheap C hC
  rintro rfl
  exact hno ⟨b,_,hb,hB⟩
 refine ⟨⟨?_,?_,?_,?_,?_,?_,?_,?_,?_,fun k hk => (hheap2 k (by have := hi.big; omega) (fun ho => by have := (hi.lt_of_own ho).2; omega)).trans (hi.old k hk),hi.bas.trans le⟩,⟨le,hos,htape,hout,hsz,fun k hk ho _ => hheap2 k hk ho,?_,?_,by simp⟩⟩
 ·intro C o v hv
  rw [hI] at hv
  have hno : ¬ ownB G σ C := fun ho => by rw [hi.sep C o ho] at hv; simp at hv
  have hlt : C < w.heap.size := by
   have := hi.imm C o v hv
   unfold World.cell? at this
   rcases Nat.lt_or_ge C w.heap.size with h1 | h1
   ·exact h1
   ·simp [Array.getElem?_eq_none h1] at this
  rw [cell_of_heap_eq (hheap2 C hlt hno)]
  exact hi.imm C o v hv
 ·intro c h y hy
  rw [List.length_set]
  by_cases hc : c = b
  ·omega
  ·rw [hoth c h hc] at hy; exact hi.dom c h y hy
 ·intro c k hk
  rcases hget c k hk with ⟨h1,h2⟩ | ⟨rfl,rfl⟩
  ·refine (hi.blk c k h2).step le fun C hC => hheap C (hi.lt_of_own ⟨c,k,h2,hC⟩).1 ?_
   rintro rfl
   exact h1 (hi.inj c b _ _ C h2 hb hC hB)
  ·exact hblk
 ·intro c c' k k' C hk hk' hC hC'
  rcases hget c k hk with ⟨h1,h2⟩ | ⟨rfl,rfl⟩
  ·rw [baseOf_mono le (hi.blk c k h2)] at hC
   have hCB : C ≠ B := by
    rintro rfl
    exact h1 (hi.inj c b _ _ C h2 hb hC hB)
   rcases hget c' k' hk' with ⟨h3,h4⟩ | ⟨rfl,rfl⟩
   ·rw [baseOf_mono le (hi.blk c' k' h4)] at hC'
    exact hi.inj c c' _ _ C h2 h4 hC hC'
   ·rw [hbn] at hC'
    have := (hi.lt_of_own ⟨c,k,h2,hC⟩).1
    have hCC := Option.some.inj hC'
    rcases hB' with h5 | h5
    ·exact absurd (by rw [← hCC,h5]) hCB
    ·omega
  ·rw [hbn] at hC
   rcases hget c' k' hk' with ⟨h3,h4⟩ | ⟨rfl,rfl⟩
   ·rw [baseOf_mono le (hi.blk c' k' h4)] at hC'
    have hCB : C ≠ B := by
     rintro rfl
     exact h3 (hi.inj c' _ _ _ C h4 hb hC' hB)
    have := (hi.lt_of_own ⟨c',k',h4,hC'⟩).1
    have hCC := Option.some.inj hC
    rcases hB' with h5 | h5
    ·exact absurd (by rw [← hCC,h5]) hCB
    ·omega
   ·rfl
 ·intro C o ho
  rw [hI]
  rcases hown C ho with h1 | rfl
  ·exact hi.sep C o h1.1
  ·rcases hB' with h5 | h5
   ·exact hi.sep C o ⟨b,_,hb,by rw [h5]; exact hB⟩
   ·cases h : G.I C o with
    | none => rfl
    | some v =>
     have := hi.imm C o v h
     unfold World.cell? at this
     simp [Array.getElem?_eq_none h5] at this
 ·have := hi.big; omega
 ·intro c h z'' xs'' hk h' hlt
  rcases hget c _ hk with ⟨h1,h2⟩ | ⟨rfl,h2⟩
  ·rw [hoth c _ h1]; exact hi.gen c h z'' xs'' h2 h' hlt
  ·simp at h2
   exact hgen h' (by omega)
 ·intro c v y hy
  rw [hH] at hy
  rw [List.length_set]
  exact hi.domH c v y hy
 ·intro c v es hk v' hlt
  rw [hH]
  rcases hget c _ hk with ⟨h1,h2⟩ | ⟨rfl,h2⟩
  ·exact hi.genH c v es h2 v' hlt
  ·cases h2
 ·intro C hC
  rcases hown C hC with h1 | rfl
  ·exact .inl h1.1
  ·rcases hB' with h5 | h5
   ·exact .inl ⟨b,_,hb,by rw [h5]; exact hB⟩
   ·exact .inr h5
 ·intro C o v hv
  rw [hI] at hv
  exact .inl hv
end Go.Abs
namespace Go.Abs
theorem bindO_some {α : Type} {o : Option α} {K : α → Prop} (h : bindO False o K) : ∃ a,o = some a ∧ K a := by
 cases o with
 | none => exact h.elim
 | some a => exact ⟨a,rfl,h⟩
section
variable {P : Program} {G : Gh} (w : World)
theorem RelV.bool_inv {b : Bool} {v : Value} (r : RelV G (.bool b) v) : v = .bool b := by cases r; rfl
theorem RelV.int_inv {k : IntKind} {n : Int} {v : Value} (r : RelV G (.int k n) v) : v = .int k n := by cases r; rfl
theorem RelV.str_inv {l : List UInt8} {v : Value} (r : RelV G (.str l) v) : ∃ s : ByteArray,v = .string s ∧ s.data.toList = l := by cases r with | str s => exact ⟨s,rfl,rfl⟩
theorem RelV.of_str (s : ByteArray) {l : List UInt8} (h : s.data.toList = l) : RelV G (.str l) (.string s) := by subst h; exact .str s
theorem vArith_sound {op : BinOp} {k : IntKind} {a b : Int} {z : PV} {t : TypeId} (h : vArith op k a b = some z) : ∃ v,(binOp op t (.int k a) (.int k b)).run P w = .ok v w ∧ RelV G z v := by
 have ints : ∀ (n : Int),(binOp op t (.int k a) (.int k b)).run P w = .ok (.int k n) w → z = .int k n → ∃ v,(binOp op t (.int k a) (.int k b)).run P w = .ok v w ∧ RelV G z v := fun n h1 h2 => ⟨_,h1,h2 ▸ .int _ _⟩
 have bools : ∀ (n : Bool),(binOp op t (.int k a) (.int k b)).run P w = .ok (.bool n) w → z = .bool n → ∃ v,(binOp op t (.int k a) (.int k b)).run P w = .ok v w ∧ RelV G z v := fun n h1 h2 => ⟨_,h1,h2 ▸ .bool _⟩
 cases op
 case add => exact ints _ (by simp [binOp,Op.intArith]) (Option.some.inj h).symm
 case sub => exact ints _ (by simp [binOp,Op.intArith]) (Option.some.inj h).symm
 case mul => exact ints _ (by simp [binOp,Op.intArith]) (Option.some.inj h).symm
 case quo =>
  simp only [vArith] at h
  split at h
  ·simp at h
  ·rename_i hb; exact ints _ (by simp [binOp,Op.intDiv,hb]) (Option.some.inj h).symm
 case rem =>
  simp only [vArith] at h
  split at h
  ·simp at h
  ·rename_i hb; exact ints _ (by simp [binOp,Op.intDiv,hb]) (Option.some.inj h).symm
 case and => exact ints _ (by rw [binOp_and]; rfl) (Option.some.inj h).symm
 case or => exact ints _ (by rw [binOp_or]; rfl) (Option.some.inj h).symm
 case xor => exact ints _ (by rw [binOp_xor]; rfl) (Option.some.inj h).symm
 case andNot => exact ints _ (by rw [binOp_andNot]; rfl) (Option.some.inj h).symm
 case shl => simp [vArith] at h
 case shr => simp [vArith] at h
 case eql => exact bools _ (by simp [binOp,Op.intCmp]) (Option.some.inj h).symm
 case neq => exact bools _ (by simp [binOp,Op.intCmp]) (Option.some.inj h).symm
 case lss => exact bools _ (by simp [binOp,Op.intCmp]) (Option.some.inj h).symm
 case leq => exact bools _ (by simp [binOp,Op.intCmp]) (Option.some.inj h).symm
 case gtr => exact bools _ (by simp [binOp,Op.intCmp]) (Option.some.inj h).symm
 case geq => exact bools _ (by simp [binOp,Op.intCmp]) (Option.some.inj h).symm
theorem vStrOp_sound {op : BinOp} {s1 s2 : ByteArray} {z : PV} {t : TypeId} (h : vStrOp op s1.data.toList s2.data.toList = some z) : ∃ v,(binOp op t (.string s1) (.string s2)).run P w = .ok v w ∧ RelV G z v := by
 cases op <;> simp only [vStrOp] at h <;> first
  | (simp only [Option.some.injEq] at h; subst h
     exact ⟨_,by simp [binOp,Op.stringOp,ByteArray.toList_eq],.bool _⟩)
  | (split at h
     · rename_i hb
       simp only [Option.some.injEq] at h; subst h
       refine ⟨.string (s1 ++ s2),?_,.of_str _ ?_⟩
       · have hb' : s1.size + s2.size ≤ 4611686018427387904 := by simpa using hb
         have : ¬ ((s1.size + s2.size : Nat) : Int) > IntKind.i64.max := by
           simp [IntKind.max,IntKind.bits,IntKind.signed]; omega
         simp only [binOp,Op.stringOp,if_neg this,Sem.run_pure]
       · simp [ByteArray.data_append]
     · simp at h)
  | simp at h
theorem eqScalar_eq {t : TypeId} {e : EK1} {d : Nat} {x y : PV} {v u : Value} {b : Bool} (he : eqScalar P t = some e) (rx : RelV G x v) (ry : RelV G y u) (h : vEqS e x y = some b) :
  (Op.equalIn (d + 1) t v u).run P w = .ok b w := by
 unfold eqScalar at he
 unfold vEqS at h
 split at he
 ·rename_i hu
  simp only [Option.some.injEq] at he; subst he
  split at h <;> simp_all
  rw [rx.bool_inv,ry.bool_inv]
  rw [run_equalIn_bool' _ _ _ _ _ hu,h]
 ·rename_i hu
  simp only [Option.some.injEq] at he; subst he
  split at h <;> simp_all
  obtain ⟨rfl,hb⟩ := h
  rw [rx.int_inv,ry.int_inv,run_equalIn_int _ _ _ _ _ _ _ hu,hb]
 ·rename_i hu
  simp only [Option.some.injEq] at he; subst he
  split at h <;> simp_all
  obtain ⟨s1,rfl,rfl⟩ := rx.str_inv
  obtain ⟨s2,rfl,rfl⟩ := ry.str_inv
  rw [run_equalIn_string _ _ _ _ _ hu,ByteArray.toList_eq,ByteArray.toList_eq,h]
 ·simp at he
theorem part_scalar {t : TypeId} {e : EK1} {vs : Array Value} {k : Nat} {v : Value} (he : eqScalar P t = some e) (hv : vs[k]? = some v) : (part t vs k).run P w = .ok v w := by
 unfold eqScalar at he
 split at he
 ·rename_i hu; simp [part,isAgg,underlying,hu,hv]
 ·rename_i hu; simp [part,isAgg,underlying,hu,hv]
 ·rename_i hu; simp [part,isAgg,underlying,hu,hv]
 ·simp at he
theorem vEqL_app : ∀ (l1 l : List EK1) (X Y : List PV) (b : Bool),vEqL (l1 ++ l) X Y = some b → (vEqL l1 (X.take l1.length) (Y.take l1.length) = some false ∧ b = false) ∨ (vEqL l1 (X.take l1.length) (Y.take l1.length) = some true ∧ vEqL l (X.drop l1.length) (Y.drop l1.length) = some b)
 | [],l,X,Y,b,h => .inr ⟨by simp [vEqL],by simpa using h⟩
 | k :: l1,l,[],Y,b,h => by simp [vEqL] at h
 | k :: l1,l,x :: X,[],b,h => by simp [vEqL] at h
 | k :: l1,l,x :: X,y :: Y,b,h => by
  simp only [List.cons_append,vEqL] at h
  simp only [List.length_cons,List.take_succ_cons,List.drop_succ_cons,vEqL]
  cases hs : vEqS k x y with
  | none => simp [hs] at h
  | some c =>
   cases c with
   | false => simp only [hs,Option.some.injEq] at h; exact .inl ⟨rfl,h.symm⟩
   | true =>
    simp only [hs] at h
    exact vEqL_app l1 l X Y b h
def EqE (P : Program) (G : Gh) (w : World) (E : TypeId → Option (List EK1)) (d0 : Nat) : Prop := ∀ (t : TypeId) (l : List EK1),E t = some l → ∀ d,d0 ≤ d → ∀ (xs ys : List PV) (vs us : Array Value) (k : Nat) (b : Bool),
 (∀ (i : Nat) (x : PV),xs[i]? = some x → ∃ v,vs[i]? = some v ∧ RelV G x v) → (∀ (i : Nat) (x : PV),ys[i]? = some x → ∃ v,us[i]? = some v ∧ RelV G x v) →
 vEqL l ((xs.drop k).take l.length) ((ys.drop k).take l.length) = some b → ∃ p q,(part t vs k).run P w = .ok p w ∧ (part t us k).run P w = .ok q w ∧ (Op.equalIn (d + 1) t p q).run P w = .ok b w
theorem eqE_scalar {t : TypeId} {l : List EK1} (he : (match eqScalar P t with | some e => some [e] | none => none) = some l) {d : Nat} {xs ys : List PV} {vs us : Array Value} {k : Nat} {b : Bool}
  (hx : ∀ (i : Nat) (x : PV),xs[i]? = some x → ∃ v,vs[i]? = some v ∧ RelV G x v) (hy : ∀ (i : Nat) (x : PV),ys[i]? = some x → ∃ v,us[i]? = some v ∧ RelV G x v)
  (h : vEqL l ((xs.drop k).take l.length) ((ys.drop k).take l.length) = some b) : ∃ p q,(part t vs k).run P w = .ok p w ∧ (part t us k).run P w = .ok q w ∧ (Op.equalIn (d + 1) t p q).run P w = .ok b w := by
 cases hs : eqScalar P t with
 | none => simp [hs] at he
 | some e =>
  simp only [hs,Option.some.injEq] at he
  subst he
  cases hX : xs.drop k with
  | nil => simp [hX,vEqL] at h
  | cons x X =>
   cases hY : ys.drop k with
   | nil => simp [hX,hY,vEqL] at h
   | cons y Y =>
    have hxk : xs[k]? = some x := by
     have := congrArg List.head? hX
     simpa [List.head?_drop] using this
    have hyk : ys[k]? = some y := by
     have := congrArg List.head? hY
     simpa [List.head?_drop] using this
    obtain ⟨v,hv,rv⟩ := hx k x hxk
    obtain ⟨u,hu,ru⟩ := hy k y hyk
    have hc : vEqS e x y = some b := by
     simp only [hX,hY,List.length_cons,List.length_nil,List.take_succ_cons,List.take_zero,vEqL] at h
     cases hq : vEqS e x y with
     | none => simp [hq] at h
     | some c => cases c <;> simp_all
    exact ⟨v,u,part_scalar w hs hv,part_scalar w hs hu,eqScalar_eq w hs rv ru hc⟩
theorem eqFields_eq {E : TypeId → Option (List EK1)} {d0 d : Nat} (hE : EqE P G w E d0) (hd : d0 ≤ d) {xs ys : List PV} {vs us : Array Value} (hx : ∀ (i : Nat) (x : PV),xs[i]? = some x → ∃ v,vs[i]? = some v ∧ RelV G x v) (hy : ∀ (i : Nat) (x : PV),ys[i]? = some x → ∃ v,us[i]? = some v ∧ RelV G x v) :
  ∀ (fs : List Field) (k : Nat) (ks : List EK1) (b : Bool),Abs.eqFields P E fs k = some ks → vEqL ks (xs.drop k) (ys.drop k) = some b → (Op.eqFields (d + 1) vs us fs).run P w = .ok b w
 | [],k,ks,b,hf,h => by
  simp [Abs.eqFields] at hf
  subst hf
  have : b = true := by
   generalize xs.drop k = X at h
   generalize ys.drop k = Y at h
   cases X <;> cases Y <;> simp_all [vEqL]
  subst this
  simp [Op.eqFields]
 | f :: fs,k,ks,b,hf,h => by
  simp only [Abs.eqFields] at hf
  split at hf
  ·rename_i hn
   cases he : E f.type with
   | none => simp [he] at hf
   | some l1 =>
    simp only [he] at hf
    cases hl : Abs.eqFields P E fs (k + l1.length) with
    | none => simp [hl] at hf
    | some l =>
     simp only [hl,Option.some.injEq] at hf
     subst hf
     rcases vEqL_app l1 l _ _ b h with ⟨h1,rfl⟩ | ⟨h1,h2⟩
     ·obtain ⟨p,q,p1,p2,p3⟩ := hE f.type l1 he d hd xs ys vs us k false hx hy h1
      simp [Op.eqFields,hn.1,hn.2,p1,p2,p3]
     ·obtain ⟨p,q,p1,p2,p3⟩ := hE f.type l1 he d hd xs ys vs us k true hx hy h1
      rw [List.drop_drop,List.drop_drop] at h2
      have ih := eqFields_eq hE hd hx hy fs (k + l1.length) l b hl h2
      simp [Op.eqFields,hn.1,hn.2,p1,p2,p3,ih]
  ·simp at hf
theorem part_rel {xs : List PV} {vs : Array Value} {k n : Nat} (hx : ∀ (i : Nat) (x : PV),xs[i]? = some x → ∃ v,vs[i]? = some v ∧ RelV G x v) (i : Nat) (x : PV) (h : ((xs.drop k).take n)[i]? = some x) : ∃ v,(vs.extract k (k + n))[i]? = some v ∧ RelV G x v := by
 rw [List.getElem?_take] at h
 split at h
 ·rename_i hin
  rw [List.getElem?_drop] at h
  obtain ⟨v,hv,rv⟩ := hx _ _ h
  have hlt := (Array.getElem?_eq_some_iff.1 hv).1
  refine ⟨v,?_,rv⟩
  rw [Array.getElem?_extract,if_pos (by omega)]
  exact hv
 ·cases h
theorem eqE_flat : ∀ n,EqE P G w (eqFlat P n) n
 | 0 => fun t l he d _ xs ys vs us k b hx hy h => eqE_scalar w he hx hy h
 | n + 1 => fun t l he d hd xs ys vs us k b hx hy h => by
  simp only [eqFlat] at he
  split at he
  ·rename_i fs hu
   split at he
   ·rename_i hst
    cases hf : Abs.eqFields P (eqFlat P n) fs.toList 0 with
    | none => simp [hf] at he
    | some ks =>
     simp only [hf] at he
     split at he
     ·rename_i hsz
      simp only [Option.some.injEq] at he
      subst he
      have hp : ∀ cs : Array Value,(part t cs k).run P w = .ok (.agg (cs.extract k (k + ks.length))) w := fun cs => by
       simp [part,isAgg,underlying,hu,szOf_run hsz]
      obtain ⟨d',rfl⟩ : ∃ d',d = d' + 1 := ⟨d - 1,by omega⟩
      refine ⟨_,_,hp vs,hp us,?_⟩
      have hF : P.fieldsOf t = fs := by simp [Program.fieldsOf,hu]
      have := eqFields_eq w (eqE_flat n) (d := d') (by omega) (part_rel (k := k) (n := ks.length) hx) (part_rel (k := k) (n := ks.length) hy) fs.toList 0 ks b hf (by simpa using h)
      rw [run_equalIn_struct w (d' + 1) t _ _ (by rw [hF]; exact hu) hst,hF,this]
     ·cases he
   ·cases he
  ·exact eqE_scalar w he hx hy h
theorem agg_get {cs : List PV} {vs : Array Value} (hl : cs.length = vs.size) (hr : ∀ (i : Nat) (x : PV) (v : Value),cs[i]? = some x → vs[i]? = some v → RelV G x v) (i : Nat) (x : PV) (hi : cs[i]? = some x) : ∃ v,vs[i]? = some v ∧ RelV G x v := by
 have hlt : i < vs.size := by rw [← hl]; exact (List.getElem?_eq_some_iff.1 hi).1
 exact ⟨vs[i],by simp [hlt],hr i x _ hi (by simp [hlt])⟩
set_option maxHeartbeats 1000000 in
theorem vEq_sound {t : TypeId} {c : Bool} {k : EK} {x y : PV} {v u : Value} {b : Bool} {xo yo : Operand} (hk : eqTy P t c = some k) (hc : c = true → (Operand.isConst xo || Operand.isConst yo) = true)
  (rx : RelV G x v) (ry : RelV G y u) (h : vEq k x y = some b) :
  (Op.equal t v u).run P w = .ok b w ∧ (∀ op,(eqGuard op t xo yo v u).run P w = .ok () w) ∧
   (binOp .eql t v u).run P w = .ok (.bool b) w ∧ (binOp .neq t v u).run P w = .ok (.bool !b) w := by
 have done : ∀ {b : Bool} {v u : Value},(Op.equal t v u).run P w = .ok b w → (∀ op,(eqGuard op t xo yo v u).run P w = .ok () w) → binOp .eql t v u = (do pure (.bool (← Op.equal t v u))) → binOp .neq t v u = (do pure (.bool (!(← Op.equal t v u)))) →
   (Op.equal t v u).run P w = .ok b w ∧ (∀ op,(eqGuard op t xo yo v u).run P w = .ok () w) ∧
   (binOp .eql t v u).run P w = .ok (.bool b) w ∧ (binOp .neq t v u).run P w = .ok (.bool !b) w := by
  intro b v u h1 h2 h3 h4
  exact ⟨h1,h2,by rw [h3]; simp [h1],by rw [h4]; simp [h1]⟩
 unfold eqTy at hk
 split at hk
 ·rename_i fs hu
  split at hk
  ·rename_i hst
   cases hf : Abs.eqFields P (eqFlat P 2) fs.toList 0 with
   | none => simp [hf] at hk
   | some ks =>
    simp only [hf,Option.some.injEq] at hk
    subst hk
    cases rx <;> cases ry <;> simp only [vEq] at h <;> try (simp at h)
    rename_i xs vs hl hr h1 ys us hl' hr' h1'
    have hF : P.fieldsOf t = fs := by simp [Program.fieldsOf,hu]
    refine done ?_ (fun op => run_eqGuard_agg w op t xo yo _ _ hst.2) (by simp [binOp]) (by simp [binOp])
    have := eqFields_eq (G := G) (d := 9998) w (eqE_flat w 2) (by decide) (agg_get hl hr) (agg_get hl' hr') fs.toList 0 ks b hf (by simpa using h)
    rw [Op.equal,Op.maxDepth,run_equalIn_struct w 9999 t _ _ (by rw [hF]; exact hu) hst.1,hF,this]
  ·simp at hk
 ·rename_i ms hu
  split at hk
  ·rename_i hcc
   simp only [Option.some.injEq] at hk
   subst hk
   have hconst := hc hcc
   cases rx <;> cases ry <;> simp only [vEq] at h <;> (try (simp at h)) <;> (try subst h) <;>
    refine done (by show (Op.equalIn (9999 + 1) t _ _).run P w = _; rw [Op.equalIn,Sem.run_bind,run_underlying hu]; rfl) (fun op => ?_) (by simp [binOp]) (by simp [binOp])
   all_goals (cases op <;> first | (simp [eqGuard]; done) | skip)
   all_goals (cases xo <;> cases yo <;> simp_all [eqGuard,Operand.isConst])
  ·simp at hk
 ·rename_i hu
  simp only [Option.some.injEq] at hk
  subst hk
  cases rx <;> cases ry <;> simp only [vEq] at h <;> (try (simp at h)) <;> (try subst h) <;>
   exact done (by show (Op.equalIn (9999 + 1) t _ _).run P w = _; rw [Op.equalIn,Sem.run_bind,run_underlying hu]; rfl) (fun op => by cases op <;> rfl) (by simp [binOp]) (by simp [binOp])
 ·rename_i e hu
  simp only [Option.some.injEq] at hk
  subst hk
  cases rx <;> cases ry <;> simp only [vEq] at h <;> (try (simp at h)) <;> (try subst h) <;>
   exact done (by show (Op.equalIn (9999 + 1) t _ _).run P w = _; rw [Op.equalIn,Sem.run_bind,run_underlying hu]; rfl) (fun op => by cases op <;> rfl) (by simp [binOp]) (by simp [binOp])
 ·rename_i e hu
  simp only [Option.some.injEq] at hk
  subst hk
  have nilr : ∀ (a : Option Addr) (l c : Nat) (b : Bool),a.isNone = b → (Op.equal t (.slice a l c) (.slice none 0 0)).run P w = .ok b w ∧ (∀ op,(eqGuard op t xo yo (.slice a l c) (.slice none 0 0)).run P w = .ok () w) ∧
    (binOp .eql t (.slice a l c) (.slice none 0 0)).run P w = .ok (.bool b) w ∧ (binOp .neq t (.slice a l c) (.slice none 0 0)).run P w = .ok (.bool !b) w := by
   intro a l c b hb
   refine done (v := .slice a l c) (u := .slice none 0 0) ?_ (fun op => by cases op <;> rfl) (by simp [binOp]) (by simp [binOp])
   cases a <;> simp at hb <;> subst hb <;> (show (Op.equalIn (9999 + 1) t _ _).run P w = _; rw [Op.equalIn,Sem.run_bind,run_underlying hu]; rfl)
  cases ry with
  | nillist =>
   cases rx with
   | nillist => exact nilr _ _ _ _ (by simpa [vEq] using h)
   | emptyl a c => exact nilr _ _ _ _ (by simp only [vEq,Option.some.injEq] at h; rw [← h]; rfl)
   | list k xs B O z cap vs h1 => exact nilr _ _ _ _ (by simp only [vEq,Option.some.injEq] at h; rw [← h]; simp [h1])
   | sref => exact nilr _ _ _ _ (by simpa [vEq] using h)
   | _ => simp [vEq] at h
  | list k xs B O z cap vs h1 =>
   exfalso
   cases k with
   | nil => exact h1 rfl
   | _ => cases rx <;> simp [vEq] at h
  | _ => cases rx <;> simp [vEq] at h
 ·rename_i e hu
  simp only [Option.some.injEq] at hk
  subst hk
  cases rx <;> cases ry <;> simp only [vEq] at h <;> (try (simp at h)) <;> (try subst h) <;>
   exact done (by show (Op.equalIn (9999 + 1) t _ _).run P w = _; rw [Op.equalIn,Sem.run_bind,run_underlying hu]; rfl) (fun op => by cases op <;> rfl) (by simp [binOp]) (by simp [binOp])
 ·rename_i e hu
  simp only [Option.some.injEq] at hk
  subst hk
  cases rx <;> cases ry <;> simp only [vEq] at h <;> (try (simp at h)) <;> (try subst h) <;>
   exact done (by show (Op.equalIn (9999 + 1) t _ _).run P w = _; rw [Op.equalIn,Sem.run_bind,run_underlying hu]; rfl) (fun op => by cases op <;> rfl) (by simp [binOp]) (by simp [binOp])
 ·simp at hk
theorem vShift_sound {op : BinOp} {k yk : IntKind} {a b : Int} {z : PV} (h : vShift op k a b = some z) : ∃ v,(Op.shift op k a yk b).run P w = .ok v w ∧ RelV G z v := by
 unfold vShift at h
 split at h
 ·simp at h
 ·rename_i hb
  cases op <;> simp only [reduceCtorEq,Option.some.injEq] at h
  ·subst h; exact ⟨_,by simp only [Op.shift,if_neg hb]; rfl,.int _ _⟩
  ·subst h; exact ⟨_,by simp only [Op.shift,if_neg hb]; rfl,.int _ _⟩
theorem eqGuard_int (op : BinOp) (t : TypeId) (xo yo : Operand) (k : IntKind) (n : Int) (u : Value) : (eqGuard op t xo yo (.int k n) u).run P w = .ok () w := by cases op <;> rfl
theorem eqGuard_str (op : BinOp) (t : TypeId) (xo yo : Operand) (s : ByteArray) (u : Value) : (eqGuard op t xo yo (.string s) u).run P w = .ok () w := by cases op <;> rfl
theorem vBin_sound {t : TypeId} {op : BinOp} {x y z : PV} {v u : Value} {xo yo : Operand}
  (rx : RelV G x v) (ry : RelV G y u) (h : vBin (eqTy P t (Operand.isConst xo || Operand.isConst yo)) op x y = some z) :
  ∃ r,((do eqGuard op t xo yo v u; binOp op t v u) : Sem Value).run P w = .ok r w ∧ RelV G z r := by
 unfold vBin at h
 split at h
 ·obtain rfl := rx.int_inv
  obtain rfl := ry.int_inv
  obtain ⟨r,h1,h2⟩ := vShift_sound (P := P) (G := G) w (yk := _) h
  exact ⟨r,by simp only [Sem.run_bind,eqGuard_int,Result.andThen_ok,binOp_shl]; exact h1,h2⟩
 ·obtain rfl := rx.int_inv
  obtain rfl := ry.int_inv
  obtain ⟨r,h1,h2⟩ := vShift_sound (P := P) (G := G) w (yk := _) h
  exact ⟨r,by simp only [Sem.run_bind,eqGuard_int,Result.andThen_ok,binOp_shr]; exact h1,h2⟩
 ·split at h
  ·rename_i hk
   subst hk
   obtain rfl := rx.int_inv
   obtain rfl := ry.int_inv
   obtain ⟨r,h1,h2⟩ := vArith_sound (P := P) (G := G) w (t := t) h
   exact ⟨r,by simp only [Sem.run_bind,eqGuard_int,Result.andThen_ok]; exact h1,h2⟩
  ·simp at h
 ·obtain ⟨s1,rfl,rfl⟩ := rx.str_inv
  obtain ⟨s2,rfl,rfl⟩ := ry.str_inv
  obtain ⟨r,h1,h2⟩ := vStrOp_sound (P := P) (G := G) w (t := t) h
  exact ⟨r,by simp only [Sem.run_bind,eqGuard_str,Result.andThen_ok]; exact h1,h2⟩
 ·cases hk : eqTy P t (Operand.isConst xo || Operand.isConst yo) with
  | none => simp [hk] at h
  | some k =>
   simp only [hk] at h
   cases he : vEq k x y with
   | none => simp [he] at h
   | some b =>
    simp only [he,Option.some.injEq] at h
    subst h
    obtain ⟨h1,h2,h3,h4⟩ := vEq_sound (xo := xo) (yo := yo) w hk (fun h => h) rx ry he
    exact ⟨.bool b,by simp only [Sem.run_bind,h2,Result.andThen_ok,h3],.bool _⟩
 ·cases hk : eqTy P t (Operand.isConst xo || Operand.isConst yo) with
  | none => simp [hk] at h
  | some k =>
   simp only [hk] at h
   cases he : vEq k x y with
   | none => simp [he] at h
   | some b =>
    simp only [he,Option.some.injEq] at h
    subst h
    obtain ⟨h1,h2,h3,h4⟩ := vEq_sound (xo := xo) (yo := yo) w hk (fun h => h) rx ry he
    exact ⟨.bool !b,by simp only [Sem.run_bind,h2,Result.andThen_ok,h4],.bool _⟩
 ·simp at h
theorem vUn_sound {op : UnOp} {x z : PV} {v : Value} (rx : RelV G x v) (h : vUn op x = some z) : ∃ r,(Op.unary op v).run P w = .ok r w ∧ RelV G z r := by
 unfold vUn at h
 split at h
 ·obtain rfl := rx.bool_inv
  simp only [Option.some.injEq] at h; subst h
  exact ⟨_,rfl,.bool _⟩
 ·obtain rfl := rx.int_inv
  simp only [Option.some.injEq] at h; subst h
  exact ⟨_,by simp [Op.unary,Op.intArith],.int _ _⟩
 ·obtain rfl := rx.int_inv
  simp only [vArith,Option.some.injEq] at h; subst h
  exact ⟨_,rfl,.int _ _⟩
 ·simp at h
end
end Go.Abs
namespace Go.Abs
theorem fold_splice (off : Nat) : ∀ (ms : List Value) (k : Nat) (cells : Array Value),off + k + ms.length ≤ cells.size →
  ((ms.zipIdx k).foldl (fun (cs : Array Value) (x : Value × Nat) => cs.setIfInBounds (off + x.2) x.1) cells).toList = cells.toList.take (off + k) ++ ms ++ cells.toList.drop (off + k + ms.length)
 | [],k,cells,h => by simp
 | m :: ms,k,cells,h => by
  have hl : off + k < cells.size := by simp at h; omega
  simp only [List.zipIdx_cons,List.foldl_cons]
  rw [fold_splice off ms (k + 1) _ (by simp at h ⊢; omega)]
  have e := list_seg_step cells.toList (off + k) m ms (by simp at h ⊢; omega)
  simp only [Array.toList_setIfInBounds]
  simpa [Nat.add_assoc] using e
theorem fold_splice' (off : Nat) (ms : Array Value) (cells : Array Value) (h : off + ms.size ≤ cells.size) :
  (ms.zipIdx.foldl (fun (cs : Array Value) (x : Value × Nat) => cs.setIfInBounds (off + x.2) x.1) cells).toList = cells.toList.take off ++ ms.toList ++ cells.toList.drop (off + ms.toList.length) := by
 have := fold_splice off ms.toList 0 cells (by simpa using h)
 simp only [Nat.add_zero] at this
 rw [← this,← Array.foldl_toList,Array.toList_zipIdx]
def CellsR (G : Gh) (cs : List PV) (vs : List Value) : Prop :=
 cs.length = vs.length ∧ (∀ (i : Nat) (x : PV) (v : Value),cs[i]? = some x → vs[i]? = some v → RelV G x v) ∧ ∀ v ∈ vs,v.oneCell' = true
theorem RelV.cellsR {G : Gh} {x : PV} {v : Value} {cs : List PV} (r : RelV G x v) (h : x.cells? = some cs) : CellsR G cs v.cells.toList := by
 obtain ⟨h1,h2,h3⟩ := r.cells h
 refine ⟨by simpa using h1,fun i x u hx hu => h2 i x u hx (by simpa using hu),fun u hu => ?_⟩
 obtain ⟨j,hj⟩ := List.getElem?_of_mem hu
 exact h3 j u (by simpa using hj)
theorem CellsR.splice {G : Gh} {cs ws : List PV} {vs us : List Value} {off : Nat} (h : CellsR G cs vs) (k : CellsR G ws us) (hle : off + ws.length ≤ cs.length) :
  CellsR G (setRange cs off ws) (vs.take off ++ us ++ vs.drop (off + us.length)) := by
 obtain ⟨a1,a2,a3⟩ := h
 obtain ⟨b1,b2,b3⟩ := k
 have hle' : off + us.length ≤ vs.length := by omega
 refine ⟨?_,fun i x v hx hv => ?_,fun v hv => ?_⟩
 ·simp only [setRange]; rw [size_splice _ _ _ hle,size_splice _ _ _ hle',a1]
 ·simp only [setRange] at hx
  rw [getElem?_splice _ _ _ hle] at hx
  rw [getElem?_splice _ _ _ hle',← b1] at hv
  split at hx
  ·rename_i hc; rw [if_pos hc] at hv; exact b2 _ _ _ hx hv
  ·rename_i hc; rw [if_neg hc] at hv; exact a2 _ _ _ hx hv
 ·simp only [List.mem_append] at hv
  rcases hv with (hv | hv) | hv
  ·exact a3 v (List.mem_of_mem_take hv)
  ·exact b3 v hv
  ·exact a3 v (List.mem_of_mem_drop hv)
theorem vBuild_sound {G : Gh} {place : Nat → Option (Nat × Nat)} : ∀ (ps : List (Nat × Nat × PV)) (pv : List (Nat × Value)) (cs cs' : List PV) (cells : Array Value),
  ps.length = pv.length → (∀ (i : Nat) (a : Nat × Nat × PV) (b : Nat × Value),ps[i]? = some a → pv[i]? = some b → place b.1 = some (a.1,a.2.1) ∧ RelV G a.2.2 b.2) →
  CellsR G cs cells.toList → vBuild cs ps = some cs' → ∃ cells',Instr.fill place cells pv = some cells' ∧ CellsR G cs' cells'.toList
 | [],[],cs,cs',cells,_,_,hc,h => by
  simp [vBuild] at h
  subst h
  exact ⟨cells,rfl,hc⟩
 | [],b :: pv,_,_,_,hl,_,_,_ => by simp at hl
 | a :: ps,[],_,_,_,hl,_,_,_ => by simp at hl
 | (off,sz,x) :: ps,(i,v) :: pv,cs,cs',cells,hl,hp,hc,h => by
   obtain ⟨h1,h2⟩ := hp 0 _ _ rfl rfl
   simp only at h1 h2
   simp only [vBuild] at h
   cases hx : x.cells? with
   | none => simp [hx] at h
   | some ws =>
     simp only [hx] at h
     split at h
     · rename_i hh
       have hr := h2.cellsR hx
       have hvs : v.cells.size = sz := by have := hr.1; simp at this; omega
       have hcl : cs.length = cells.size := by simpa using hc.1
       have hsp := hc.splice (off := off) hr (by omega)
       obtain ⟨cells',e1,e2⟩ := vBuild_sound ps pv (setRange cs off ws) cs' (v.cells.zipIdx.foldl (fun (cs : Array Value) (x : Value × Nat) => cs.setIfInBounds (off + x.2) x.1) cells) (by simpa using hl)
         (fun i a b ha hb => hp (i + 1) a b (by simpa using ha) (by simpa using hb)) (by rw [fold_splice' off _ _ (by omega)]; exact hsp) h
       refine ⟨cells',?_,e2⟩
       simp only [Instr.fill,h1]
       have hb1 : (v.cells.size != sz) = false := by simp [hvs]
       have hb2 : ¬ (v.cells.size ≠ sz ∨ off + v.cells.size > cells.size) := by omega
       have hb3 : (decide (v.cells.size ≠ sz) || decide (off + v.cells.size > cells.size)) = false := by simp [hvs]; omega
       simp only [hb3,Bool.false_eq_true,if_false]
       exact e1
     · simp at h
section
variable {P : Program} {G : Gh} (w : World)
theorem partsOf_spec {pl : List (Nat × Nat)} {fr : Fr} : ∀ (l : List (Nat × Operand)) (ps : List (Nat × Nat × PV)),partsOf pl fr l = some ps →
  ps.length = l.length ∧ ∀ (i : Nat) (a : Nat × Nat × PV) (b : Nat × Operand),ps[i]? = some a → l[i]? = some b → pl[b.1]? = some (a.1,a.2.1) ∧ a.2.2 = evP fr b.2
 | [],ps,h => by simp [partsOf] at h; subst h; simp
 | (i,x) :: l,ps,h => by
   simp only [partsOf] at h
   cases hp : pl[i]? with
   | none => simp [hp] at h
   | some q =>
     obtain ⟨off,sz⟩ := q
     simp only [hp] at h
     cases hr : partsOf pl fr l with
     | none => simp [hr] at h
     | some r =>
       simp only [hr,Option.some.injEq] at h
       subst h
       obtain ⟨h1,h2⟩ := partsOf_spec l r hr
       refine ⟨by simp [h1],fun j a b ha hb => ?_⟩
       cases j with
       | zero => simp at ha hb; subst ha hb; exact ⟨hp,rfl⟩
       | succ j => exact h2 j a b (by simpa using ha) (by simpa using hb)
theorem build_sound {t : TypeId} {pl : List (Nat × Nat)} {ps : List (Nat × Nat × PV)} {fr : Fr} {parts : Array (Nat × Operand)} {ρ : Operand → Value} {zs cs : List PV}
  (hpl : placesOf P t = some pl) (hps : partsOf pl fr parts.toList = some ps) (hz : zeroOf P t = some (.agg zs)) (hr : ∀ x,RelV G (evP fr x) (ρ x)) (h : vBuild zs ps = some cs) :
  ∃ v,(Instr.build t (parts.map fun (i,x) => (i,ρ x))).run P w = .ok v w ∧ RelV G (.agg cs) v := by
 unfold placesOf at hpl
 split at hpl
 ·rename_i fields hu
  unfold zeroOf at hz
  cases hi : P.info? t with
  | none => simp [hi] at hz
  | some it =>
   simp only [hi] at hz
   cases hzz : it.zero with
   | none => simp [hzz] at hz
   | some z =>
    simp only [hzz,Option.some.injEq] at hz
    have rz : RelV G (.agg zs) z := hz ▸ rel_ofVal G z
    obtain ⟨p1,p2⟩ := partsOf_spec _ _ hps
    obtain ⟨cells',e1,e2⟩ := vBuild_sound (G := G) (place := (pl.toArray[·]?)) ps (parts.map fun (i,x) => (i,ρ x)).toList zs cs z.cells (by simpa using p1) (fun i a b ha hb => by
     simp only [Array.toList_map,List.getElem?_map,Option.map_eq_some_iff] at hb
     obtain ⟨c,hc,rfl⟩ := hb
     obtain ⟨q1,q2⟩ := p2 i a c ha hc
     exact ⟨by simpa using q1,q2 ▸ hr _⟩) (rz.cellsR rfl) h
    refine ⟨.agg cells',run_build w t _ cells' ?_,?_⟩
    ·simp only [Program.built,hi,hu,hzz,hpl]
     exact e1
    ·obtain ⟨q1,q2,q3⟩ := e2
     exact .agg _ _ (by simpa using q1) (fun i x v hx hv => q2 i x v hx (by simpa using hv)) (fun i v hv => q3 v (by simpa using Array.mem_of_getElem? hv))
 ·rename_i n e hu
  cases hie : P.info? e with
  | none => simp [hie] at hpl
  | some ie =>
  simp only [hie,Option.map_some,Option.some.injEq] at hpl
  unfold zeroOf at hz
  cases hi : P.info? t with
  | none => simp [hi] at hz
  | some it =>
   simp only [hi] at hz
   cases hzz : it.zero with
   | none => simp [hzz] at hz
   | some z =>
    simp only [hzz,Option.some.injEq] at hz
    have rz : RelV G (.agg zs) z := hz ▸ rel_ofVal G z
    obtain ⟨p1,p2⟩ := partsOf_spec _ _ hps
    obtain ⟨cells',e1,e2⟩ := vBuild_sound (G := G) (place := fun i => some (i * ie.size,ie.size)) ps (parts.map fun (i,x) => (i,ρ x)).toList zs cs z.cells (by simpa using p1) (fun i a b ha hb => by
     simp only [Array.toList_map,List.getElem?_map,Option.map_eq_some_iff] at hb
     obtain ⟨c,hc,rfl⟩ := hb
     obtain ⟨q1,q2⟩ := p2 i a c ha hc
     rw [← hpl,List.getElem?_map,Option.map_eq_some_iff] at q1
     obtain ⟨k,hk,hq⟩ := q1
     have hk2 := (List.getElem?_eq_some_iff.1 hk).2
     rw [List.getElem_range] at hk2
     subst hk2
     exact ⟨by rw [hq],q2 ▸ hr _⟩) (rz.cellsR rfl) h
    refine ⟨.agg cells',run_build w t _ cells' ?_,?_⟩
    ·simp only [Program.built,hi,hu,hzz,hie]
     exact e1
    ·obtain ⟨q1,q2,q3⟩ := e2
     exact .agg _ _ (by simpa using q1) (fun i x v hx hv => q2 i x v hx (by simpa using hv)) (fun i v hv => q3 v (by simpa using Array.mem_of_getElem? hv))
 ·simp at hpl
theorem RowAt.set {cs cs' : Array Value} {O z i : Nat} {xs : List PV} {e : PV} {ve : Value} (h : RowAt G cs O z xs) (hi : i < xs.length) (re : RelV G e ve) (hz : ve.cells.size = z) (h1 : ∀ u ∈ ve.cells.toList,u.oneCell' = true)
  (hle : O + xs.length * z ≤ cs.size) (hcs : cs'.toList = cs.toList.take (O + i * z) ++ ve.cells.toList ++ cs.toList.drop (O + i * z + ve.cells.toList.length)) : RowAt G cs' O z (xs.set i e) := by
 obtain ⟨vs,hrel,hcell⟩ := h
 have hmul : O + i * z + z ≤ cs.size := by
  have : (i + 1) * z ≤ xs.length * z := Nat.mul_le_mul_right _ hi
  rw [Nat.add_mul] at this
  omega
 have hzl : ve.cells.toList.length = z := by simpa using hz
 have hget : ∀ j : Nat,cs'[j]? = if O + i * z ≤ j ∧ j < O + i * z + z then ve.cells.toList[j - (O + i * z)]? else cs.toList[j]? := by
  intro j
  have : cs'[j]? = cs'.toList[j]? := by simp
  rw [this,hcs,getElem?_splice _ _ _ (by simp at *; omega),hzl]
 refine ⟨fun k => if k = i then ve else vs k,?_,?_⟩
 ·intro k y hk
  rw [List.getElem?_set] at hk
  by_cases hki : i = k
  ·subst hki
   simp [hi] at hk
   subst hk
   simpa using re
  ·simp only [hki,if_false] at hk
   show RelV G y (if k = i then ve else vs k)
   rw [if_neg (Ne.symm hki)]
   exact hrel k y hk
 ·intro k hk
  simp only [List.length_set] at hk
  by_cases hki : k = i
  ·subst hki
   simp only [if_true]
   refine ⟨hz,fun j u hu => ⟨h1 u (by simpa using Array.mem_of_getElem? hu),?_⟩⟩
   have hjz : j < z := by have := (Array.getElem?_eq_some_iff.1 hu).1; omega
   rw [hget,if_pos (by omega)]
   rw [show O + k * z + j - (O + k * z) = j by omega]
   simpa using hu
  ·simp only [hki,if_false]
   obtain ⟨q1,q2⟩ := hcell k hk
   refine ⟨q1,fun j u hu => ⟨(q2 j u hu).1,?_⟩⟩
   have hjz : j < z := by have := (Array.getElem?_eq_some_iff.1 hu).1; omega
   rw [hget,if_neg ?_]
   ·simpa using (q2 j u hu).2
   ·rintro ⟨g1,g2⟩
    rcases Nat.lt_or_ge k i with hlt | hge
    ·have : (k + 1) * z ≤ i * z := Nat.mul_le_mul_right _ hlt
     rw [Nat.add_mul] at this
     omega
    ·have : (i + 1) * z ≤ k * z := Nat.mul_le_mul_right _ (by omega)
     rw [Nat.add_mul] at this
     omega
theorem RowAt.zeros {n z : Nat} {x : PV} {v : Value} {xs : List PV} (hx : x.cells? = some xs) (r : RelV G x v) (hz : v.cells.size = z) (hpos : 0 < z) :
  RowAt G ((Array.range (n * z)).map (v.cells[· % v.cells.size]!)) 0 z (List.replicate n x) := by
 obtain ⟨h1,h2,h3⟩ := r.cells hx
 refine ⟨fun _ => v,fun i y hy => ?_,fun i hi => ⟨hz,fun j u hu => ⟨h3 j u hu,?_⟩⟩⟩
 ·rw [List.getElem?_replicate] at hy
  split at hy
  ·simp at hy; subst hy; exact r
  ·simp at hy
 ·simp only [List.length_replicate] at hi
  have hjs : j < v.cells.size := (Array.getElem?_eq_some_iff.1 hu).1
  have hjz : j < z := by omega
  have hlt : i * z + j < n * z := by
   have : (i + 1) * z ≤ n * z := Nat.mul_le_mul_right _ hi
   rw [Nat.add_mul] at this
   omega
  have hmod : (i * z + j) % z = j := by rw [Nat.mul_add_mod_self_right,Nat.mod_eq_of_lt hjz]
  simp [Array.getElem?_map,Array.getElem?_range,hlt,hz,hmod]
  simp [hjs] at hu ⊢
  exact hu
end
end Go.Abs
