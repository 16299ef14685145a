import Derived.Test.YteikomnahelckaaGreatDoorAbsTabE
import Derived.Deep.DeepWitnessRowRef
import Derived.Deep.DeepLaidRun
import Derived.Lib.LaidU8
import Derived.JoinedOf
import Derived.Test.YteikomnahelckaaGreatDoorAbsArgs
set_option linter.unusedVariables false
set_option linter.unusedSimpArgs false
namespace Go.Proofs.YteikomnahelckaaGreatDoor
open Go Go.Abs Go.RowKit
theorem law_calls {f : FuncId} {xs : List PV} (h : callW Tryz.prog annF f xs [] (fun r σ => r = .ret (.bool true))) {Wd : World} (hsh : Wd.ShapedOpen Tryz.prog) (hL : laidMet Tryz.prog laidAll Wd) {vs : Array Value} (hl : xs.length = vs.size)
  (hr : ∀ (i : Nat) (x : PV) (v : Value),xs[i]? = some x → vs[i]? = some v → RelV (Gh.all Wd) x v) :
  Calls Tryz.prog f vs Wd fun e w' => e = .returned (.bool true) ∧ Below Wd.heap.size Wd w' := by
 have key := call_sound namesOk annF annOk (Base.all Wd (globs hL)) (extF_ok _ (facts hsh hL)) f xs [] _ h (Gh.all Wd) Wd vs (inv_all Wd _) hl hr
 refine key.mono ?_
 rintro e w' ⟨G',σ',r,rfl,hI,hE,hm⟩
 cases e with
 | returned v =>
  have hv : RelV G' (.bool true) v := hm
  rw [hv.bool_inv]
  exact ⟨rfl,ext_below hI hE⟩
 | _ => exact hm.elim
end Go.Proofs.YteikomnahelckaaGreatDoor
namespace Go.Proofs.YteikomnahelckaaGreatDoor
open Go Go.Abs Go.ChangeShapes Go.WideShapes Go.ChangeAt Go.RowKit
mutual
def flatD : DataW Unit → List Value
 | .lit (.int k n) => [.int k n]
 | .lit (.string s) => [.string ⟨⟨s⟩⟩]
 | .agg l => flatDs l
 | _ => []
def flatDs : List (DataW Unit) → List Value
 | [] => []
 | x :: l => flatD x ++ flatDs l
end
noncomputable def laidWorld (os : Os) : World :=
 let N := (World.settled Tryz.prog os).heap.size
 let w0 := World.holding Tryz.prog os ⟨#[.cells (Lib.whiteT.map fun (z : Nat) => Value.int .u16 (z : Int)).toArray 312,.cells #[.slice (some ⟨N,0,none⟩) 7 7,.slice none 0 0,.int .i64 2] 310],#[],[]⟩
 let put (h : Array Obj) (g : Nat) (cs : Array Value) : Array Obj := h.modify g fun
  | .cells _ t frozen => .cells cs t frozen
  | o => o
 let h0 := put w0.heap 0 (flatD Rows.laid_environ_frames_kinds).toArray
 let h1 := put h0 1 (flatD Rows.laid_environ_stand_lengths).toArray
 let h2 := put h1 2 (flatD Rows.laid_strings_asciiSpace).toArray
 let h3 := put h2 3 #[.pointer (some ⟨N + 1,0,none⟩)]
 let h4 := put h3 4 (flatD Rows.laid_internal_strconv_uint64pow10).toArray
 let h5 := put h4 6 (flatD Rows.laid_unicode_utf8_first).toArray
 let h6 := put h5 7 (flatD Rows.laid_unicode_utf8_acceptRanges).toArray
 let h7 := put h6 8 (flatD Rows.laid_math_bits_deBruijn32tab).toArray
 let h8 := put h7 9 (flatD Rows.laid_math_bits_deBruijn64tab).toArray
 {w0 with heap := h8 }
theorem laid_met (os : Os) (args : Array Value) : laidMet Tryz.prog laidAll ((laidWorld os).forCall (fun _ _ => 0) ⟨#[],args,[]⟩).memory :=
 laidMet_of_run3 8 (by kernel_rfl) (by kernel_rfl) (by kernel_rfl)
end Go.Proofs.YteikomnahelckaaGreatDoor
namespace Go.Abs
open Go
theorem aand {a b : Bool} (h : a = true) (k : b = true) : (a && b) = true := by rw [h,k]; rfl
theorem joined_of {P : Program} {f : FuncId} {fn : Func} {s : ChangeSpec} {c : OpenClaim}
  (k1 : (c.wf (OpenSpec.ofChange s)) = true)
  (k2 : (laidOutB P) = true)
  (k3 : (mapsRowed P) = true)
  (k4 : (fn.params.all (P.readableRec ·)) = true)
  (k5 : (namedTie P c.named s.vars) = true)
  (k6 : ((c.stops == [])) = true)
  (k7 : ((P.stops == [])) = true)
  (k8 : ((c.knobs == [])) = true)
  (k9 : ((P.stopKnobs == [])) = true)
  (k10 : ((c.inPlace == P.inPlace f)) = true)
  (k11 : ((c.unfollowed == P.unfollowed f)) = true)
  (k12 : ((c.recurses == P.recurses f)) = true)
  (k13 : ((c.named == P.varsNamed f)) = true)
  (k14 : ((c.maps == (fn.params.toList ++ s.plain.varTypes P).any (P.mapsRec ·))) = true)
  (k15 : ((c.ifaces == (fn.params.toList ++ s.plain.varTypes P).any (P.ifacesRec ·))) = true)
  (k16 : ((c.mapsOut == P.mapsAmong fn.resultTypes.toList)) = true)
  (k17 : ((c.loops == (fn.params.toList ++ s.plain.varTypes P).any (P.loopsFrom ·))) = true)
  (k18 : ((c.wideKeys == (fn.params.toList ++ s.plain.varTypes P ++ fn.resultTypes.toList).any (P.wideKeysFrom ·))) = true)
  (k19 : (s.vars.all (P.varReadable ·)) = true)
  (k20 : (fn.resultTypes.all (fun t => P.readableRec t && decide (t < P.types.size))) = true)
  (k21 : ((c.ifacesOut == fn.resultTypes.toList.any (P.ifacesRec ·))) = true)
  (k22 : ((c.loopsOut == fn.resultTypes.toList.any (P.loopsFrom ·))) = true)
  (k23 : ((c.plainKeys == P.plainKeys)) = true)
  (k24 : (c.shortTexts.isNone) = true)
  (k25 : (P.stopsHeard) = true)
  (k26 : (P.mayEnter) = true)
  (k27 : ((c.lifted == P.liftsFinal)) = true)
  (k28 : ((P.make == some c.make)) = true)
  (k29 : ((c.kinds == (if c.domain.isEmpty then [] else fn.params.toList.map fun t => match P.underlying t with | some (.int k) => some k | _ => none))) = true)
  (k30 : ((c.pinned == c.pinnedBy)) = true)
  (k31 : ((c.veiled == (fn.params.toList ++ s.plain.varTypes P ++ fn.resultTypes.toList).any (P.veiledRec ·))) = true)
  (k32 : (c.veiledFits P fn.params.toList (fn.params.toList ++ s.plain.varTypes P ++ fn.resultTypes.toList)) = true)
  : joinedFacts P f fn s c = true := by
 unfold joinedFacts
 exact aand (aand (aand (aand (aand (aand (aand (aand (aand (aand (aand (aand (aand (aand (aand (aand (aand (aand (aand (aand (aand (aand (aand (aand (aand (aand (aand (aand (aand (aand (aand (k1) k2) k3) k4) k5) k6) k7) k8) k9) k10) k11) k12) k13) k14) k15) k16) k17) k18) k19) k20) k21) k22) k23) k24) k25) k26) k27) k28) k29) k30) k31) k32
end Go.Abs
namespace Go.Proofs.YteikomnahelckaaGreatDoor
open Go Go.Abs Go.RowKit
theorem jj3 : (mapsRowed Tryz.prog) = true := by kernel_rfl
theorem jj6 : ((Rows.framesNilUptoRow.stops == [])) = true := by kernel_rfl
theorem jj7 : ((Tryz.prog.stops == [])) = true := by kernel_rfl
theorem jj8 : ((Rows.framesNilUptoRow.knobs == [])) = true := by kernel_rfl
theorem jj9 : ((Tryz.prog.stopKnobs == [])) = true := by kernel_rfl
theorem jj23 : ((Rows.framesNilUptoRow.plainKeys == Tryz.prog.plainKeys)) = true := by kernel_rfl
theorem jj24 : (Rows.framesNilUptoRow.shortTexts.isNone) = true := by kernel_rfl
theorem jj25 : (Tryz.prog.stopsHeard) = true := by kernel_rfl
theorem jj26 : (Tryz.prog.mayEnter) = true := by kernel_rfl
theorem jj27 : ((Rows.framesNilUptoRow.lifted == Tryz.prog.liftsFinal)) = true := by kernel_rfl
theorem jj28 : ((Tryz.prog.make == some Rows.framesNilUptoRow.make)) = true := by kernel_rfl
end Go.Proofs.YteikomnahelckaaGreatDoor
namespace Go.Abs
section
variable {H : Type} {encH : TypeId × Value → H} {P : Program} {W : World} {held : Bool}
structure FieldsO (held : Bool) (encH : TypeId × Value → H) (P : Program) (W : World) {α : Type} (enc : α → List PV) (dat : α → List (DataW H) → Prop) (o : Nat) (fs : List Field) (sz : Nat) : Prop where
 len : ∀ a,(enc a).length = sz
 open_ : ∀ (n : Nat) (cs : List Value) (xs : List (DataW H × List MemPlace)),o + sz ≤ cs.length → xs.length = fs.length →
  (∀ (i : Nat) f,fs[i]? = some f → DataW.trod encH P W 0 (fun _ => true) held n f.type ((cs.drop f.offset).take (P.cellsOf f.type)) = xs[i]?) →
  ∃ a,CellsR (Gh.all W) (enc a) ((cs.drop o).take sz) ∧ dat a (xs.map (·.1))
theorem fields_nil {o : Nat} : FieldsO held encH P W (fun _ : Unit => []) (fun _ ds => ds = []) o [] 0 where
 len _ := rfl
 open_ := by
  intro n cs xs _ hl _
  obtain rfl : xs = [] := List.length_eq_zero_iff.1 hl
  exact ⟨(),⟨by simp,fun i x v hx => by simp at hx,fun v hv => by simp at hv⟩,rfl⟩
theorem fields_cons {α β : Type} {e0 : α → PV} {d0 : α → DataW H → Prop} {enc1 : β → List PV} {dat1 : β → List (DataW H) → Prop} {f : Field} {fs : List Field} {o t0 s0 s1 : Nat} (ht : f.type = t0) (ho : f.offset = o)
  (O : Opens' held encH P W e0 d0 t0 s0) (R : FieldsO held encH P W enc1 dat1 (o + s0) fs s1) :
  FieldsO held encH P W (fun p : α × β => pcells (e0 p.1) ++ enc1 p.2) (fun p ds => ∃ d ds',ds = d :: ds' ∧ d0 p.1 d ∧ dat1 p.2 ds') o (f :: fs) (s0 + s1) where
 len := by
  rintro ⟨a,b⟩
  obtain ⟨c,q,l⟩ := O.sized a
  simp [pcells,q,l,R.len b]
 open_ := by
  intro n cs xs hlen hl h
  cases xs with
  | nil => simp at hl
  | cons x xs =>
   have h0 := h 0 f rfl
   simp only [List.getElem?_cons_zero] at h0
   rw [ht,ho,O.cells] at h0
   obtain ⟨a,v,hv,rv,cv,dv⟩ := O.open_ _ _ _ (by simp; omega) h0
   obtain ⟨b,rb,db⟩ := R.open_ n cs xs (by omega) (by simpa using hl) (fun i g hg => by simpa using h (i + 1) g (by simpa using hg))
   obtain ⟨c,q,l⟩ := O.sized a
   refine ⟨(a,b),?_,x.1,xs.map (·.1),rfl,dv,db⟩
   have e : (cs.drop o).take (s0 + s1) = v.cells.toList ++ (cs.drop (o + s0)).take s1 := by
    rw [hv,List.take_add,List.drop_drop]
   rw [e]
   have hp : pcells (e0 a) = c := by simp [pcells,q]
   simp only
   rw [hp]
   exact cellsR_append (rv.cellsR q) rb
theorem opens_struct {α : Type} {enc : α → List PV} {dat : α → List (DataW H) → Prop} {t sz : Nat} {fs : Array Field} (ht : P.underlying t = some (.struct fs)) (hc : P.cellsOf t = sz) (F : FieldsO held encH P W enc dat 0 fs.toList sz) :
  Opens' held encH P W (fun a => .agg (enc a)) (fun a d => ∃ ds,d = .agg ds ∧ dat a ds) t sz where
 cells := hc
 sized a := ⟨_,rfl,F.len a⟩
 open_ := by
  intro fuel cs x hl h
  obtain ⟨xs,n,rfl,rfl,h1,h2,h3⟩ := DataW.trod_struct ht h
  obtain ⟨a,ra,da⟩ := F.open_ n cs xs (by omega) (by simpa using h2) (fun i f hf => h3 i f (by simpa using hf))
  have e : (cs.drop 0).take sz = cs := by rw [List.drop_zero,List.take_of_length_le (by omega)]
  rw [e] at ra
  obtain ⟨r1,r2,r3⟩ := ra
  refine ⟨a,.agg cs.toArray,by simp [Value.cells],.agg _ _ (by simpa using r1) (fun i x v hx hv => r2 i x v hx (by simpa using hv)) (fun i v hv => r3 v (List.mem_of_getElem? (by simpa using hv))),r3,_,rfl,da⟩
theorem Opens'.iso {α β : Type} {enc : α → PV} {dat : α → DataW H → Prop} {t sz : Nat} (O : Opens' held encH P W enc dat t sz) (g : α → β) (k : β → α) (hk : ∀ a,k (g a) = a) {enc' : β → PV} (he : ∀ b,enc' b = enc (k b)) :
  Opens' held encH P W enc' (fun b => dat (k b)) t sz where
 cells := O.cells
 sized b := by rw [he]; exact O.sized _
 open_ := by
  intro fuel cs x hl h
  obtain ⟨a,v,h1,h2,h3,h4⟩ := O.open_ fuel cs x hl h
  exact ⟨g a,v,h1,by rw [he,hk]; exact h2,h3,by rw [hk]; exact h4⟩
end
end Go.Abs
