import Derived.Test.YteikomnahelckaaGreatDoorAbsArgs
set_option linter.unusedVariables false
set_option linter.unusedSimpArgs false
namespace Go.Abs
section
variable {H : Type} {encH : TypeId × Value → H} {P : Program} {W : World} {held : Bool}
structure FieldsO (held : Bool) (encH : TypeId × Value → H) (P : Program) (W : World) {α : Type} (enc : α → List PV) (dat : α → List (DataW H) → Prop) (o : Nat) (fs : List Field) (sz : Nat) : Prop where
 len : ∀ a,(enc a).length = sz
 open_ : ∀ (n : Nat) (cs : List Value) (xs : List (DataW H × List MemPlace)),o + sz ≤ cs.length → xs.length = fs.length →
  (∀ (i : Nat) f,fs[i]? = some f → DataW.trod encH P W 0 (fun _ => true) held n f.type ((cs.drop f.offset).take (P.cellsOf f.type)) = xs[i]?) →
  ∃ a,CellsR (Gh.all W) (enc a) ((cs.drop o).take sz) ∧ dat a (xs.map (·.1))
theorem fields_nil {o : Nat} : FieldsO held encH P W (fun _ : Unit => []) (fun _ ds => ds = []) o [] 0 where
 len _ := rfl
 open_ := by
  intro n cs xs _ hl _
  obtain rfl : xs = [] := List.length_eq_zero_iff.1 hl
  exact ⟨(),⟨by simp,fun i x v hx => by simp at hx,fun v hv => by simp at hv⟩,rfl⟩
theorem fields_cons {α β : Type} {e0 : α → PV} {d0 : α → DataW H → Prop} {enc1 : β → List PV} {dat1 : β → List (DataW H) → Prop} {f : Field} {fs : List Field} {o t0 s0 s1 : Nat} (ht : f.type = t0) (ho : f.offset = o)
  (O : Opens' held encH P W e0 d0 t0 s0) (R : FieldsO held encH P W enc1 dat1 (o + s0) fs s1) :
  FieldsO held encH P W (fun p : α × β => pcells (e0 p.1) ++ enc1 p.2) (fun p ds => ∃ d ds',ds = d :: ds' ∧ d0 p.1 d ∧ dat1 p.2 ds') o (f :: fs) (s0 + s1) where
 len := by
  rintro ⟨a,b⟩
  obtain ⟨c,q,l⟩ := O.sized a
  simp [pcells,q,l,R.len b]
 open_ := by
  intro n cs xs hlen hl h
  cases xs with
  | nil => simp at hl
  | cons x xs =>
   have h0 := h 0 f rfl
   simp only [List.getElem?_cons_zero] at h0
   rw [ht,ho,O.cells] at h0
   obtain ⟨a,v,hv,rv,cv,dv⟩ := O.open_ _ _ _ (by simp; omega) h0
   obtain ⟨b,rb,db⟩ := R.open_ n cs xs (by omega) (by simpa using hl) (fun i g hg => by simpa using h (i + 1) g (by simpa using hg))
   obtain ⟨c,q,l⟩ := O.sized a
   refine ⟨(a,b),?_,x.1,xs.map (·.1),rfl,dv,db⟩
   have e : (cs.drop o).take (s0 + s1) = v.cells.toList ++ (cs.drop (o + s0)).take s1 := by
    rw [hv,List.take_add,List.drop_drop]
   rw [e]
   have hp : pcells (e0 a) = c := by simp [pcells,q]
   simp only
   rw [hp]
   exact cellsR_append (rv.cellsR q) rb
theorem opens_struct {α : Type} {enc : α → List PV} {dat : α → List (DataW H) → Prop} {t sz : Nat} {fs : Array Field} (ht : P.underlying t = some (.struct fs)) (hc : P.cellsOf t = sz) (F : FieldsO held encH P W enc dat 0 fs.toList sz) :
  Opens' held encH P W (fun a => .agg (enc a)) (fun a d => ∃ ds,d = .agg ds ∧ dat a ds) t sz where
 cells := hc
 sized a := ⟨_,rfl,F.len a⟩
 open_ := by
  intro fuel cs x hl h
  obtain ⟨xs,n,rfl,rfl,h1,h2,h3⟩ := DataW.trod_struct ht h
  obtain ⟨a,ra,da⟩ := F.open_ n cs xs (by omega) (by simpa using h2) (fun i f hf => h3 i f (by simpa using hf))
  have e : (cs.drop 0).take sz = cs := by rw [List.drop_zero,List.take_of_length_le (by omega)]
  rw [e] at ra
  obtain ⟨r1,r2,r3⟩ := ra
  refine ⟨a,.agg cs.toArray,by simp [Value.cells],.agg _ _ (by simpa using r1) (fun i x v hx hv => r2 i x v hx (by simpa using hv)) (fun i v hv => r3 v (List.mem_of_getElem? (by simpa using hv))),r3,_,rfl,da⟩
theorem Opens'.iso {α β : Type} {enc : α → PV} {dat : α → DataW H → Prop} {t sz : Nat} (O : Opens' held encH P W enc dat t sz) (g : α → β) (k : β → α) (hk : ∀ a,k (g a) = a) {enc' : β → PV} (he : ∀ b,enc' b = enc (k b)) :
  Opens' held encH P W enc' (fun b => dat (k b)) t sz where
 cells := O.cells
 sized b := by rw [he]; exact O.sized _
 open_ := by
  intro fuel cs x hl h
  obtain ⟨a,v,h1,h2,h3,h4⟩ := O.open_ fuel cs x hl h
  exact ⟨g a,v,h1,by rw [he,hk]; exact h2,h3,by rw [hk]; exact h4⟩
end
end Go.Abs
