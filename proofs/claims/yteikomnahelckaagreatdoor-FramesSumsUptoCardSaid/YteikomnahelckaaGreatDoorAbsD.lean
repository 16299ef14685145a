import Derived.Lib.ConvBytes
import Derived.Laws.BytesString
import Derived.IntWalk
import Derived.Test.YteikomnahelckaaGreatDoorAbsC
set_option linter.unusedVariables false
set_option linter.unusedSimpArgs false
namespace Go.Abs
section
variable {P : Program} {G : Gh} (w : World)
theorem vBuildSl_sound {sz : Nat} : ∀ (ps : List (Nat × PV)) (pv : List (Nat × Value)) (xs xs' : List PV) (cells : Array Value),
  ps.length = pv.length → (∀ (i : Nat) (a : Nat × PV) (b : Nat × Value),ps[i]? = some a → pv[i]? = some b → a.1 = b.1 ∧ RelV G a.2 b.2) →
  RowAt G cells 0 sz xs → cells.size = xs.length * sz → vBuildSl sz xs ps = some xs' →
  ∃ cells',Instr.fill (fun i => some (i * sz,sz)) cells pv = some cells' ∧ RowAt G cells' 0 sz xs' ∧ cells'.size = xs'.length * sz ∧ xs'.length = xs.length
 | [],[],xs,xs',cells,_,_,hr,hs,h => by
  simp [vBuildSl] at h
  subst h
  exact ⟨cells,rfl,hr,hs,rfl⟩
 | [],b :: pv,_,_,_,hl,_,_,_,_ => by simp at hl
 | a :: ps,[],_,_,_,hl,_,_,_,_ => by simp at hl
 | (i,x) :: ps,(i',v) :: pv,xs,xs',cells,hl,hp,hr,hs,h => by
   obtain ⟨h1,h2⟩ := hp 0 _ _ rfl rfl
   simp only at h1 h2
   subst h1
   simp only [vBuildSl] at h
   cases hx : x.cells? with
   | none => simp [hx] at h
   | some ws =>
     simp only [hx] at h
     split at h
     · rename_i hh
       obtain ⟨c1,c2,c3⟩ := h2.cellsR hx
       have hvs : v.cells.size = sz := by simp at c1; omega
       have hmul : i * sz + sz ≤ cells.size := by
         have : (i + 1) * sz ≤ xs.length * sz := Nat.mul_le_mul_right _ hh.2
         rw [Nat.add_mul] at this
         omega
       have hsp := fold_splice' (i * sz) v.cells cells (by omega)
       generalize hcells1 : v.cells.zipIdx.foldl (fun (cs : Array Value) (x : Value × Nat) => cs.setIfInBounds (i * sz + x.2) x.1) cells = cells1 at hsp
       have hr1 : RowAt G cells1 0 sz (xs.set i x) := hr.set hh.2 h2 hvs c3 (by omega) (by simpa using hsp)
       have hs1 : cells1.size = (xs.set i x).length * sz := by
         have : cells1.toList.length = cells.toList.length := by rw [hsp,size_splice _ _ _ (by simp; omega)]
         simp at this ⊢
         omega
       obtain ⟨cells',e1,e2,e3,e4⟩ := vBuildSl_sound ps pv (xs.set i x) xs' cells1 (by simpa using hl) (fun j a b ha hb => hp (j + 1) a b (by simpa using ha) (by simpa using hb)) hr1 hs1 h
       refine ⟨cells',?_,e2,e3,by simpa using e4⟩
       simp only [Instr.fill]
       have hb3 : (decide (v.cells.size ≠ sz) || decide (i * sz + v.cells.size > cells.size)) = false := by simp [hvs]; omega
       simp only [hb3,Bool.false_eq_true,if_false]
       rw [← hcells1] at e1
       exact e1
     · simp at h
theorem RowAt.list {cs : Array Value} {O z B cap : Nat} {xs : List PV} {k : LK} (h : RowAt G cs O z xs) (hI : ∀ o v,cs[o]? = some v → G.I B o = some v) (h1 : k ≠ .nil) (h2 : k = .full → cap = xs.length ∧ (xs ≠ [] → G.n0 ≤ B)) (h3 : xs.length ≤ cap) :
  RelV G (.list k xs) (.slice (some ⟨B,O,none⟩) xs.length cap) := by
 obtain ⟨vs,hr,hc⟩ := h
 exact .list k xs B O z cap vs h1 h2 h3 hr fun i hi => ⟨(hc i hi).1,fun j v hj => ⟨((hc i hi).2 j v hj).1,hI _ _ ((hc i hi).2 j v hj).2⟩⟩
theorem buildSl_sound {N : Base} {σ : St} {t e : TypeId} {n sz : Nat} {z z' : PV} {parts : Array (Nat × Operand)} {ρ : Operand → Value} {f : Operand → PV} {xs : List PV}
  (hi : Inv G N σ w) (he : elemOf? P t = some e) (hs : szOf P e = some sz) (hz : zeroOf P e = some z) (hsmall : n * sz ≤ 16777216) (hpos : 0 < sz) (hb : vBox sz z = some z')
  (hr : ∀ x,RelV G (f x) (ρ x)) (h : vBuildSl sz (List.replicate n z') (parts.toList.map fun (i,x) => (i,f x)) = some xs) :
  ∃ v cells,(Instr.buildSlice t n (parts.map fun (i,x) => (i,ρ x))).run P w = .ok v (World.more w (.cells cells e)) ∧ RelV (G.newImm w.heap.size cells) (.list .full xs) v := by
 have hu : P.underlying t = some (.slice e) := by
  unfold elemOf? at he
  split at he <;> simp_all
 unfold zeroOf at hz
 unfold szOf at hs
 cases hie : P.info? e with
 | none => simp [hie] at hz
 | some ie =>
  simp only [hie,Option.map_some,Option.some.injEq] at hz hs
  cases hzz : ie.zero with
  | none => simp [hzz] at hz
  | some zv =>
   simp only [hzz,Option.some.injEq] at hz
   have rz : RelV G z zv := hz ▸ rel_ofVal G zv
   unfold vBox at hb
   cases hc : z.cells? with
   | none => simp [hc] at hb
   | some zc =>
    simp only [hc] at hb
    split at hb
    ·rename_i hzl
     simp only [Option.some.injEq] at hb
     subst hb
     have hzs : zv.cells.size = sz := by have := (rz.cells hc).1; omega
     have hrow := RowAt.zeros (n := n) hc rz hzs hpos
     obtain ⟨cells',e1,e2,e3,e4⟩ := vBuildSl_sound (G := G) (parts.toList.map fun (i,x) => (i,f x)) (parts.map fun (i,x) => (i,ρ x)).toList (List.replicate n z) xs _ (by simp) (fun i a b ha hb => by
      simp only [List.getElem?_map,Option.map_eq_some_iff,Array.toList_map] at ha hb
      obtain ⟨c,hc1,rfl⟩ := ha
      obtain ⟨c',hc2,rfl⟩ := hb
      rw [hc1] at hc2
      simp at hc2
      subst hc2
      exact ⟨rfl,hr _⟩) hrow (by simp) h
     have hxn : xs.length = n := by simpa using e4
     refine ⟨.slice (some ⟨w.heap.size,0,none⟩) n n,cells',?_,?_⟩
     ·by_cases hn : n = 0
      ·subst hn
       have hcells : cells' = #[] := Array.eq_empty_of_size_eq_zero (by rw [e3,hxn]; simp)
       have hparts : parts.toList = [] := by
        cases hp : parts.toList with
        | nil => rfl
        | cons a l =>
         rw [hp] at h
         obtain ⟨i,x⟩ := a
         simp only [List.map_cons,vBuildSl] at h
         split at h
         ·simp at h
         ·simp at h
       have hparts' : parts = #[] := by simpa using hparts
       subst hparts' hcells
       simp [Instr.buildSlice,run_underlying hu,sizeOf,typeInfo,hie,Instr.fill,newRow,newObj,Sem.run,World.more]
       rw [show (Array.range 0) = #[] from rfl,Array.map_empty]
      ·have hnz : ¬ n * ie.size = 0 := by rw [hs]; exact Nat.mul_ne_zero hn (by omega)
       rw [run_buildSlice w t e n _ cells' ie zv hu hie hzz (by rw [hs]; omega) hnz (by rw [hs]; exact e1)]
       rfl
     ·have hn0 : (G.newImm w.heap.size cells').n0 ≤ w.heap.size := by
       have h1 := hi.bas.n0
       have h2 := N.hn
       have h3 := hi.big
       show G.n0 ≤ w.heap.size
       omega
      have := (e2.mono (G' := G.newImm w.heap.size cells') (imm_sound hi cells' e).2.1.le).list (k := .full) (B := w.heap.size) (cap := n) (fun o v ho => by
       show (if w.heap.size = w.heap.size then cells'[o]? else _) = some v
       rw [if_pos rfl]
       exact ho) (fun h => by cases h) (fun _ => ⟨hxn.symm,fun _ => hn0⟩) (by omega)
      rw [hxn] at this
      exact this
    ·simp at hb
theorem buildSlB_sound {N : Base} {σ : St} {t e : TypeId} {n sz : Nat} {z z' : PV} {parts : Array (Nat × Operand)} {ρ : Operand → Value} {f : Operand → PV} {xs : List PV}
  (hi : Inv G N σ w) (he : elemOf? P t = some e) (hs : szOf P e = some sz) (hz : zeroOf P e = some z) (hsmall : n * sz ≤ 16777216) (hpos : 0 < sz) (hn : 0 < n) (hb : vBox sz z = some z')
  (hr : ∀ x,RelV G (f x) (ρ x)) (h : vBuildSl sz (List.replicate n z') (parts.toList.map fun (i,x) => (i,f x)) = some xs) :
  ∃ cells,(Instr.buildSlice t n (parts.map fun (i,x) => (i,ρ x))).run P w = .ok (.slice (some ⟨w.heap.size,0,none⟩) n n) (World.more w (.cells cells e)) ∧ RowAt G cells 0 sz xs ∧ xs.length * sz ≤ cells.size ∧ cells.size = n * sz := by
 have hu : P.underlying t = some (.slice e) := by
  unfold elemOf? at he
  split at he <;> simp_all
 unfold zeroOf at hz
 unfold szOf at hs
 cases hie : P.info? e with
 | none => simp [hie] at hz
 | some ie =>
  simp only [hie,Option.map_some,Option.some.injEq] at hz hs
  cases hzz : ie.zero with
  | none => simp [hzz] at hz
  | some zv =>
   simp only [hzz,Option.some.injEq] at hz
   have rz : RelV G z zv := hz ▸ rel_ofVal G zv
   unfold vBox at hb
   cases hc : z.cells? with
   | none => simp [hc] at hb
   | some zc =>
    simp only [hc] at hb
    split at hb
    ·rename_i hzl
     simp only [Option.some.injEq] at hb
     subst hb
     have hzs : zv.cells.size = sz := by have := (rz.cells hc).1; omega
     have hrow := RowAt.zeros (n := n) hc rz hzs hpos
     obtain ⟨cells',e1,e2,e3,e4⟩ := vBuildSl_sound (G := G) (parts.toList.map fun (i,x) => (i,f x)) (parts.map fun (i,x) => (i,ρ x)).toList (List.replicate n z) xs _ (by simp) (fun i a b ha hb => by
      simp only [List.getElem?_map,Option.map_eq_some_iff,Array.toList_map] at ha hb
      obtain ⟨c,hc1,rfl⟩ := ha
      obtain ⟨c',hc2,rfl⟩ := hb
      rw [hc1] at hc2
      simp at hc2
      subst hc2
      exact ⟨rfl,hr _⟩) hrow (by simp) h
     have hxn : xs.length = n := by simpa using e4
     have hcs : cells'.size = n * sz := by rw [e3,hxn]
     refine ⟨cells',?_,e2,by rw [hcs,hxn]; exact Nat.le_refl _,hcs⟩
     have hnz : ¬ n * ie.size = 0 := by rw [hs]; exact Nat.mul_ne_zero (by omega) (by omega)
     rw [run_buildSlice w t e n _ cells' ie zv hu hie hzz (by rw [hs]; omega) hnz (by rw [hs]; exact e1)]
     rfl
    ·simp at hb
theorem Inv.same {G : Gh} {N : Base} {σ : St} {w w' : World} (h : Inv G N σ w) (e : w'.heap = w.heap) : Inv G N σ w' := by
 obtain ⟨h1,h2,h3,h4,h5,h6,h7,h8,h9,h10,h11⟩ := h
 refine ⟨fun B o v hv => by have := h1 B o v hv; simpa [World.cell?,e] using this,h2,fun b k hk => (h3 b k hk).step (.refl G) fun B _ => by rw [e],h4,h5,by rw [e]; exact h6,h7,h8,h9,by rw [e]; exact h10,h11⟩
theorem Ext.of_same {G : Gh} {σ : St} {w w1 : World} {G' : Gh} {σ' : St} {w' : World} (h : Ext G σ w1 G' σ' w') (e : w1.heap = w.heap) (e1 : w1.os = w.os) (e2 : w1.tape = w.tape) (e3 : w1.output = w.output) : Ext G σ w G' σ' w' := by
 obtain ⟨h1,h2,h3,h4,h5,h6,h7,h8,h9⟩ := h
 exact ⟨h1,h2.trans e1,h3.trans e2,h4.trans e3,by rw [← e]; exact h5,fun k hk hn hno => by rw [h6 k (by rw [e]; exact hk) hn hno,e],fun B hB => by rw [← e]; exact h7 B hB,fun B o v hv => by rw [← e]; exact h8 B o v hv,h9⟩
def flat (vs : Nat → Value) (n : Nat) : List Value := (List.range n).flatMap fun i => (vs i).cells.toList
theorem flat_succ (vs : Nat → Value) (n : Nat) : flat vs (n + 1) = flat vs n ++ (vs n).cells.toList := by
 simp [flat,List.range_succ]
theorem flat_length {vs : Nat → Value} {z : Nat} : ∀ (n : Nat),(∀ i,i < n → (vs i).cells.size = z) → (flat vs n).length = n * z
 | 0,_ => by simp [flat]
 | n + 1,h => by
  rw [flat_succ,List.length_append,flat_length n fun i hi => h i (by omega)]
  simp [h n (by omega),Nat.add_mul]
theorem flat_get {vs : Nat → Value} {z : Nat} : ∀ (n : Nat),(∀ i,i < n → (vs i).cells.size = z) → ∀ i j,i < n → j < z → (flat vs n)[i * z + j]? = (vs i).cells[j]?
 | 0,_,i,j,hi,_ => by omega
 | n + 1,h,i,j,hi,hj => by
  have hl := flat_length n fun i hi => h i (by omega : i < n + 1)
  rw [flat_succ]
  by_cases hin : i < n
  ·have : i * z + j < n * z := by
    have : (i + 1) * z ≤ n * z := Nat.mul_le_mul_right _ hin
    rw [Nat.add_mul] at this
    omega
   rw [List.getElem?_append_left (by omega)]
   exact flat_get n (fun i hi => h i (by omega)) i j hin hj
  ·obtain rfl : i = n := by omega
   rw [List.getElem?_append_right (by omega),hl]
   simp
theorem flat_mem {vs : Nat → Value} {n : Nat} {u : Value} (h : u ∈ flat vs n) : ∃ i,i < n ∧ u ∈ (vs i).cells.toList := by
 simp only [flat,List.mem_flatMap,List.mem_range] at h
 exact h
theorem index_split {n z k : Nat} (h : k < n * z) : ∃ i j,i < n ∧ j < z ∧ k = i * z + j := by
 have hz : 0 < z := by
  rcases Nat.eq_zero_or_pos z with h0 | h0
  ·subst h0; simp at h
  ·exact h0
 refine ⟨k / z,k % z,(Nat.div_lt_iff_lt_mul hz).2 h,Nat.mod_lt _ hz,?_⟩
 have := Nat.div_add_mod k z
 rw [Nat.mul_comm] at this
 omega
theorem row_of_flat {vs : Nat → Value} {z : Nat} {xs : List PV} (hr : ∀ i x,xs[i]? = some x → RelV G x (vs i)) (hz : ∀ i,i < xs.length → (vs i).cells.size = z) (h1 : ∀ i,i < xs.length → ∀ u ∈ (vs i).cells.toList,u.oneCell' = true) :
  RowAt G (flat vs xs.length).toArray 0 z xs := by
 refine ⟨vs,hr,fun i hi => ⟨hz i hi,fun j v hj => ⟨h1 i hi v (by simpa using Array.mem_of_getElem? hj),?_⟩⟩⟩
 have hjz : j < z := by have := (Array.getElem?_eq_some_iff.1 hj).1; have := hz i hi; omega
 rw [List.getElem?_toArray,Nat.zero_add,flat_get _ hz i j hi hjz]
 exact hj
theorem head_get {sz : Nat} {xs : List PV} (h : headSized sz xs = true) (x : PV) (hx : xs[0]? = some x) : ∃ cs,x.cells? = some cs ∧ cs.length = sz := by
 cases xs with
 | nil => simp at hx
 | cons y l =>
  simp at hx
  subst hx
  simp only [headSized] at h
  cases hc : y.cells? with
  | none => simp [hc] at h
  | some cs => simp [hc] at h; exact ⟨cs,rfl,h⟩
theorem elems_sound {N : Base} {σ : St} {sz : Nat} {y : PV} {vy : Value} {ys : List PV} (hi : Inv G N σ w) (ry : RelV G y vy) (h : vElems y σ = some ys) (hs0 : headSized sz ys = true ∨ ∃ b g off len,y = .sref b g sz off len) :
  (Builtin.lenOf vy).run P w = .ok ys.length w ∧ ∃ cells : List Value,(∀ w' : World,w'.heap = w.heap → (Builtin.firstCells sz ys.length vy).run P w' = .ok cells.toArray w') ∧ RowAt G cells.toArray 0 sz ys ∧ cells.length = ys.length * sz ∧ ∀ u ∈ cells,u.oneCell' = true := by
 cases ry with
 | nillist =>
  simp [vElems] at h
  subst h
  exact ⟨rfl,[],fun _ _ => by simp [Builtin.firstCells],⟨fun _ => undef,by simp,by simp⟩,by simp,by simp⟩
 | emptyl a c =>
  simp [vElems] at h
  subst h
  exact ⟨rfl,[],fun w' _ => by simpa [Builtin.firstCells] using run_loadCells_list (P := P) w' a [] (fun k v hk => by simp at hk),⟨fun _ => undef,by simp,by simp⟩,by simp,by simp⟩
 | list k xs B O z cap vs h1 h2 h3 hr hc =>
  simp [vElems] at h
  subst h
  have hs : headSized sz xs = true := by
   rcases hs0 with h | ⟨_,_,_,_,h⟩
   ·exact h
   ·cases h
  have hz : ∀ i,i < xs.length → (vs i).cells.size = sz := by
   intro i hil
   obtain ⟨cs,c1,c2⟩ := head_get hs (xs[0]'(by omega)) (by simp)
   rw [(hc i hil).1,← (hc 0 (by omega)).1,← c2]
   exact ((hr 0 _ (List.getElem?_eq_getElem (by omega))).cells c1).1.symm
  have h1c : ∀ i,i < xs.length → ∀ u ∈ (vs i).cells.toList,u.oneCell' = true := by
   intro i hil u hu
   obtain ⟨j,hj⟩ := List.getElem?_of_mem hu
   exact ((hc i hil).2 j u (by simpa using hj)).1
  refine ⟨rfl,flat vs xs.length,fun w' hw => ?_,row_of_flat hr hz h1c,flat_length _ hz,fun u hu => ?_⟩
  ·have hl := flat_length xs.length hz
   have := run_loadCells_list (P := P) w' ⟨B,O,none⟩ (flat vs xs.length) (fun k v hk => by
    have hklt : k < xs.length * sz := by rw [← hl]; exact (List.getElem?_eq_some_iff.1 hk).1
    obtain ⟨i,j,hi',hj',rfl⟩ := index_split hklt
    rw [flat_get _ hz i j hi' hj'] at hk
    rw [addr_add]
    have hzz : z = sz := by rw [← (hc i hi').1]; exact hz i hi'
    have := (hi.same hw).imm B (O + i * z + j) v ((hc i hi').2 j v hk).2
    rw [hzz] at this
    rw [← Nat.add_assoc]
    exact this)
   rw [hl] at this
   simp [Builtin.firstCells,this]
  ·obtain ⟨i,hi',hu'⟩ := flat_mem hu
   exact h1c i hi' u hu'
 | str s =>
  simp [vElems] at h
  subst h
  have hs : headSized sz (s.data.toList.map fun b => PV.int .u8 b.toNat) = true := by
   rcases hs0 with h | ⟨_,_,_,_,h⟩
   ·exact h
   ·cases h
  have hlen : (s.data.toList.map fun b => PV.int .u8 b.toNat).length = s.size := by simp
  have hcells : ∀ ys : List PV,ys = s.data.toList.map (fun b => PV.int .u8 b.toNat) → headSized sz ys = true → ys.length = 0 ∨ sz = 1 := by
   intro ys hys hss
   cases hy : ys with
   | nil => exact .inl rfl
   | cons y l =>
    right
    obtain ⟨cs,c1,c2⟩ := head_get hss y (by simp [hy])
    have : y = .int .u8 (s.data.toList[0]?.getD 0).toNat := by
     have h0 : ys[0]? = some y := by simp [hy]
     rw [hys] at h0
     simp only [List.getElem?_map,Option.map_eq_some_iff] at h0
     obtain ⟨b,hb,rfl⟩ := h0
     simp [hb]
    subst this
    simp [PV.cells?] at c1
    subst c1
    simpa using c2.symm
  refine ⟨by rw [hlen]; rfl,s.data.toList.map fun b => .int .u8 b.toNat,fun w' hw => ?_,?_,?_,?_⟩
  ·rw [hlen]
   have : s.extract 0 s.size = s := by simp
   simp only [Builtin.firstCells,this,Sem.run_pure]
   congr 1
   apply Array.ext'
   simp
  ·rcases hcells _ rfl hs with h0 | rfl
   ·have : s.data.toList = [] := List.length_eq_zero_iff.1 (by rw [List.length_map] at h0; exact h0)
    rw [this]
    exact ⟨fun _ => undef,by simp,by simp⟩
   ·refine ⟨fun i => .int .u8 (s.data.toList[i]?.getD 0).toNat,fun i x hx => ?_,fun i hil => ⟨rfl,fun j v hj => ?_⟩⟩
    ·simp only [List.getElem?_map,Option.map_eq_some_iff] at hx
     obtain ⟨b,hb,rfl⟩ := hx
     show RelV G _ (Value.int .u8 (s.data.toList[i]?.getD 0).toNat)
     rw [hb]
     exact .int _ _
    ·simp only [List.length_map] at hil
     cases j with
     | zero =>
      simp [Value.cells] at hj
      subst hj
      refine ⟨rfl,?_⟩
      simp only [Nat.zero_add,Nat.mul_one,Nat.add_zero,List.getElem?_toArray,List.getElem?_map]
      rw [List.getElem?_eq_getElem hil]
      have h9 : s.data[i]?.getD 0 = s.data.toList[i] := by rw [Array.getElem?_eq_getElem (by simpa using hil)]; simp
      rw [h9]
      rfl
     | succ j => simp [Value.cells] at hj
  ·rcases hcells _ rfl hs with h0 | rfl
   ·have : s.data.toList = [] := List.length_eq_zero_iff.1 (by rw [List.length_map] at h0; exact h0)
    simp [this]
   ·simp
  ·intro u hu
   simp only [List.mem_map] at hu
   obtain ⟨b,_,rfl⟩ := hu
   rfl
 | sref b g z off len B O n cap hm h1 h2 =>
  simp only [vElems] at h
  cases hb : σ[b]? with
  | none => simp [hb] at h
  | some blk =>
   cases blk with
   | arr g' z' xs =>
    simp only [hb] at h
    split at h
    ·rename_i hh
     obtain ⟨rfl,hle⟩ := hh
     simp only [Option.some.injEq] at h
     subst h
     obtain ⟨B',O',n',cs,el,hm',hN,⟨fz,hfz,hheap⟩,hn,hsz,hpos,vs,hr,hc⟩ := hi.blk b _ hb
     rw [hm] at hm'
     simp only [Option.some.injEq,Prod.mk.injEq] at hm'
     obtain ⟨rfl,rfl,rfl,rfl⟩ := hm'
     have hlen : ((xs.drop off).take len).length = len := by simp; omega
     have hget : ∀ (i : Nat) (x : PV),((xs.drop off).take len)[i]? = some x → i < len ∧ xs[off + i]? = some x := by
      intro i x hx
      rw [List.getElem?_take] at hx
      split at hx
      ·rw [List.getElem?_drop] at hx; exact ⟨by assumption,hx⟩
      ·simp at hx
     have hr' : ∀ (i : Nat) (x : PV),((xs.drop off).take len)[i]? = some x → RelV G x (vs (off + i)) := fun i x hx => hr _ _ (hget i x hx).2
     have hz : ∀ i,i < ((xs.drop off).take len).length → (vs (off + i)).cells.size = sz := by
      intro i hil
      rcases hs0 with hs | ⟨_,_,_,_,heq⟩
      ·have h0 : 0 < ((xs.drop off).take len).length := by omega
       obtain ⟨c,c1,c2⟩ := head_get hs _ (List.getElem?_eq_getElem h0)
       rw [(hc (off + i) (by omega)).1,← (hc (off + 0) (by omega)).1,← c2]
       exact ((hr' 0 _ (List.getElem?_eq_getElem h0)).cells c1).1.symm
      ·cases heq
       exact (hc (off + i) (by omega)).1
     have h1c : ∀ i,i < ((xs.drop off).take len).length → ∀ u ∈ (vs (off + i)).cells.toList,u.oneCell' = true := by
      intro i hil u hu
      obtain ⟨j,hj⟩ := List.getElem?_of_mem hu
      exact ((hc (off + i) (by omega)).2 j u (by simpa using hj)).1
     have hfl := flat_length (vs := fun i => vs (off + i)) _ hz
     refine ⟨by rw [hlen]; rfl,flat (fun i => vs (off + i)) ((xs.drop off).take len).length,fun w' hw => ?_,row_of_flat hr' hz h1c,hfl,fun u hu => ?_⟩
     ·have := run_loadCells_list (P := P) w' ⟨B,O + off * z,none⟩ (flat (fun i => vs (off + i)) ((xs.drop off).take len).length) (fun k v hk => by
       have hklt : k < ((xs.drop off).take len).length * sz := by rw [← hfl]; exact (List.getElem?_eq_some_iff.1 hk).1
       obtain ⟨i,j,hi',hj',rfl⟩ := index_split hklt
       rw [flat_get _ hz i j hi' hj'] at hk
       rw [addr_add]
       have hzz : z = sz := by rw [← (hc (off + i) (by omega)).1]; exact hz i hi'
       have := ((hc (off + i) (by omega)).2 j v hk).2
       rw [hzz] at this ⊢
       have he : O + off * sz + (i * sz + j) = O + (off + i) * sz + j := by rw [Nat.add_mul]; omega
       rw [he]
       simp [World.cell?,hw,hheap,this])
      rw [hfl] at this
      simp only [Builtin.firstCells]
      exact this
     ·obtain ⟨i,hi',hu'⟩ := flat_mem hu
      exact h1c i hi' u hu'
    ·simp at h
   | _ => simp [hb] at h
 | _ => simp [vElems] at h
theorem growBy_le (n : Nat) : ∀ (r c : Nat),c ≤ n + n / 4 + 192 → Builtin.growBy n r c ≤ n + n / 4 + 192
 | 0,c,h => by simpa [Builtin.growBy] using h
 | r + 1,c,h => by
  simp only [Builtin.growBy]
  split
  ·exact h
  ·exact growBy_le n r _ (by omega)
theorem nextcap_le {need cap : Nat} (h : cap < need) : Builtin.nextslicecap need cap ≤ need + need / 4 + 192 ∨ Builtin.nextslicecap need cap ≤ 512 := by
 unfold Builtin.nextslicecap
 split
 ·left; omega
 ·split
  ·right; omega
  ·left; exact growBy_le need 4 cap (by omega)
theorem cap_small {need cap by_ : Nat} (h : cap < need) (hr : roomy need by_ = true) (hb : by_ ≤ 1048576) : ¬ Builtin.nextslicecap need cap * by_ > 2 ^ 48 := by
 simp only [roomy,decide_eq_true_eq] at hr
 have e : (2 : Nat) ^ 48 = 281474976710656 := by decide
 rw [e]
 rcases nextcap_le h with h1 | h1
 ·have h2 : Builtin.nextslicecap need cap * by_ ≤ (need + need / 4 + 192) * by_ := Nat.mul_le_mul_right _ h1
  have h3 : need / 4 * by_ ≤ need * by_ / 4 := by
   rw [Nat.le_div_iff_mul_le (by omega)]
   have : need / 4 * 4 ≤ need := Nat.div_mul_le_self _ _
   calc need / 4 * by_ * 4 = need / 4 * 4 * by_ := by rw [Nat.mul_right_comm]
    _ ≤ need * by_ := Nat.mul_le_mul_right _ this
  rw [Nat.add_mul,Nat.add_mul] at h2
  omega
 ·have h2 : Builtin.nextslicecap need cap * by_ ≤ 512 * by_ := Nat.mul_le_mul_right _ h1
  omega
theorem appTy_run {t : TypeId} (h : appTy P t = true) : (∃ e,P.underlying t = some (.slice e)) ∨ P.underlying t = some .string := by
 unfold appTy at h
 split at h
 ·rename_i e hu; exact .inl ⟨_,hu⟩
 ·rename_i hu; exact .inr hu
 ·simp at h
theorem run_append_grow {t t2 e ty : TypeId} {sz by_ : Nat} {zv : Value} {it : TypeInfo} {base : Option Addr} {sLen sCap n : Nat} {vy : Value} {old new : List Value}
  (hu : P.underlying t = some (.slice e)) (h2 : appTy P t2 = true) (hi : P.info? e = some it) (hs : it.size = sz) (hb : it.bytes = by_) (hz : it.zero = some zv) (hb0 : 0 < by_)
  (hl : (Builtin.lenOf vy).run P w = .ok n w) (hcap : sCap < sLen + n) (hr : roomy (sLen + n) by_ = true) (hbm : by_ ≤ 1048576)
  (ho : ∀ w' : World,w'.heap = w.heap → (Builtin.firstCells sz sLen (.slice base sLen sCap)).run P w' = .ok old.toArray w')
  (hn : ∀ w' : World,w'.heap = w.heap → (Builtin.firstCells sz n vy).run P w' = .ok new.toArray w') :
  ∃ (cap : Nat) (rest : Array Value),sLen + n ≤ cap ∧ rest.size = (cap - (sLen + n)) * zv.cells.size ∧
   (Builtin.append_ #[t,t2] ty #[.slice base sLen sCap,vy]).run P w = .ok (.slice (some ⟨w.heap.size,0,none⟩) (sLen + n) cap) (World.more w.drew (.cells (old.toArray ++ (new.toArray ++ rest)) e)) := by
 have hsize : ∀ w' : World,(sizeOf e).run P w' = .ok sz w' := fun w' => by simp [sizeOf,typeInfo,hi,hs]
 have hinfo : ∀ w' : World,(typeInfo e).run P w' = .ok it w' := fun w' => by simp [typeInfo,hi]
 have hzero : ∀ w' : World,(zeroValue e).run P w' = .ok zv w' := fun w' => by simp [zeroValue,typeInfo,hi,hz]
 have hneed : ¬ sLen + n ≤ sCap := by omega
 have hroom := hr
 simp only [roomy,decide_eq_true_eq] at hroom
 have hbz : ¬ it.bytes = 0 := by omega
 have hsm := cap_small hcap hr hbm
 generalize hq : Question.cut (.appendCap (sLen + n) sCap e) (w.tape w.drawn (.appendCap (sLen + n) sCap e)) = cap
 have hcap' : sLen + n ≤ cap := by rw [← hq]; simp [Question.cut]
 refine ⟨cap,Builtin.zeroCells zv.cells (cap - (sLen + n)),hcap',by simp [Builtin.zeroCells],?_⟩
 have hask : ∀ (b : Nat) (w' : World),(askRoom b).run P w' = .ok () w' := by
  intro b w'
  unfold askRoom
  split <;> rfl
 have hch : (choose (.appendCap (sLen + n) sCap e)).run P w = .ok cap w.drew := by
  simp only [choose,Sem.run,Question.forced,Bool.false_eq_true,if_false,hq]
  rfl
 have hsm' : ¬ Builtin.nextslicecap (sLen + n) sCap * it.bytes > 2 ^ 48 := by rw [hb]; exact hsm
 have ho' := ho w.drew rfl
 have hn' := hn w.drew rfl
 have hsm2 : ¬ 281474976710656 < Builtin.nextslicecap (sLen + n) sCap * it.bytes := by simpa using hsm'
 have hsz2 : it.size = sz := hs
 rcases appTy_run h2 with ⟨e',hu2⟩ | hu2
 ·simp [Builtin.append_,run_underlying hu,run_underlying hu2,sizeOf,typeInfo,zeroValue,hi,hz,hl,hneed,hbz,hsm2,hask,hsz2,ho',hn',newRow,newObj,Sem.run,Question.forced,hq]
  rfl
 ·simp [Builtin.append_,run_underlying hu,run_underlying hu2,sizeOf,typeInfo,zeroValue,hi,hz,hl,hneed,hbz,hsm2,hask,hsz2,ho',hn',newRow,newObj,Sem.run,Question.forced,hq]
  rfl
theorem run_append_zero {t t2 e ty : TypeId} {it : TypeInfo} {base : Option Addr} {sLen sCap : Nat} {vy : Value} (hu : P.underlying t = some (.slice e)) (h2 : appTy P t2 = true) (hi : P.info? e = some it)
  (hl : (Builtin.lenOf vy).run P w = .ok 0 w) (hcap : sLen ≤ sCap) (hn : (Builtin.firstCells it.size 0 vy).run P w = .ok #[] w) :
  (Builtin.append_ #[t,t2] ty #[.slice base sLen sCap,vy]).run P w = .ok (.slice base sLen sCap) w := by
 rcases appTy_run h2 with ⟨e',hu2⟩ | hu2 <;> cases base <;>
  simp [Builtin.append_,run_underlying hu,run_underlying hu2,sizeOf,typeInfo,hi,hl,hcap,hn,storeCells]
theorem run_append_in {t t2 e ty : TypeId} {it : TypeInfo} {B p sLen sCap n : Nat} {vy : Value} {new : List Value} {cs : Array Value} {el : TypeId} {fz : Nat × Nat}
  (hu : P.underlying t = some (.slice e)) (h2 : appTy P t2 = true) (hi : P.info? e = some it)
  (hl : (Builtin.lenOf vy).run P w = .ok n w) (hcap : sLen + n ≤ sCap) (hn : (Builtin.firstCells it.size n vy).run P w = .ok new.toArray w)
  (hh : w.heap[B]? = some (.cells cs el fz)) (hfz : FzOk fz cs.size) (h1 : ∀ u ∈ new,u.oneCell' = true) (hfit : p + sLen * it.size + new.length ≤ cs.size) :
  (Builtin.append_ #[t,t2] ty #[.slice (some ⟨B,p,none⟩) sLen sCap,vy]).run P w =
   .ok (.slice (some ⟨B,p,none⟩) (sLen + n) sCap) (w.setRow B (cs.toList.take (p + sLen * it.size) ++ new ++ cs.toList.drop (p + sLen * it.size + new.length)).toArray) := by
 have hst := storeCells_fz P B (p + sLen * it.size) el fz new 0 cs w hh hfz (by simpa using hfit) h1
 simp only [Nat.add_zero] at hst
 rcases appTy_run h2 with ⟨e',hu2⟩ | hu2 <;>
  simp [Builtin.append_,run_underlying hu,run_underlying hu2,sizeOf,typeInfo,hi,hl,hcap,hn,addr_add,hst]
theorem RowAt.append {c1 c2 rest cs : Array Value} {z : Nat} {xs ys : List PV} (h1 : RowAt G c1 0 z xs) (hs : c1.size = xs.length * z) (h2 : RowAt G c2 0 z ys) (hs2 : c2.size = ys.length * z) (hcs : cs = c1 ++ (c2 ++ rest)) : RowAt G cs 0 z (xs ++ ys) := by
 subst hcs
 obtain ⟨vs,r1,k1⟩ := h1
 obtain ⟨us,r2,k2⟩ := h2
 refine ⟨fun i => if i < xs.length then vs i else us (i - xs.length),fun i x hx => ?_,fun i hi => ?_⟩
 ·rw [List.getElem?_append] at hx
  show RelV G x (if i < xs.length then vs i else us (i - xs.length))
  split at hx
  ·rename_i hlt; rw [if_pos hlt]; exact r1 i x hx
  ·rename_i hlt; rw [if_neg hlt]; exact r2 _ x hx
 ·rw [List.length_append] at hi
  by_cases hlt : i < xs.length
  ·simp only [hlt,if_true]
   obtain ⟨q1,q2⟩ := k1 i hlt
   refine ⟨q1,fun j v hj => ⟨(q2 j v hj).1,?_⟩⟩
   have h9 := (q2 j v hj).2
   have hlt2 := (Array.getElem?_eq_some_iff.1 h9).1
   rw [Array.getElem?_append_left hlt2]
   exact h9
  ·simp only [hlt,if_false]
   obtain ⟨q1,q2⟩ := k2 (i - xs.length) (by omega)
   refine ⟨q1,fun j v hj => ⟨(q2 j v hj).1,?_⟩⟩
   have h9 := (q2 j v hj).2
   have hlt2 := (Array.getElem?_eq_some_iff.1 h9).1
   have hmul : i * z = xs.length * z + (i - xs.length) * z := by rw [← Nat.add_mul]; congr 1; omega
   rw [Array.getElem?_append_right (by omega),Array.getElem?_append_left (by omega),← h9]
   congr 1
   omega
theorem grow_size {z cap n1 n2 : Nat} {c1 c2 rest : Array Value} (h1 : c1.size = n1 * z) (h2 : c2.size = n2 * z) (h3 : rest.size = (cap - (n1 + n2)) * z) (h : n1 + n2 ≤ cap) : (c1 ++ (c2 ++ rest)).size = cap * z := by
 simp only [Array.size_append,h1,h2,h3]
 rw [← Nat.add_mul,← Nat.add_mul]
 congr 1
 omega
theorem nextT_lt (tg g off : Nat) : g < nextT tg g off := by
 unfold nextT nextG
 split <;> omega
theorem tyG_ap (e : Nat) (h : e < 1048576) : e = tyG (4 * e + 3) := by
 unfold tyG
 omega
theorem tyG_up (g : Nat) : tyG (g + 4194304) = tyG g := by
 unfold tyG
 omega
theorem tyG_of (g e : Nat) (h : e < 1048576) (h2 : g % 4194304 = 4 * e + 3) : e = tyG g ∧ g % 4 = 3 := by
 unfold tyG
 omega
theorem TyOk.ap {tg z n : Nat} {e : TypeId} (h : tg = 0 ∨ tg = 4 * e + 3 ∧ e < 1048576) : TyOk tg z 0 n e := by
 rcases h with h | h
 ·subst h; exact .no (by decide) (by decide)
 ·obtain ⟨h1,h2⟩ := h
  refine ⟨fun h3 => ?_,fun _ => ⟨rfl,?_⟩⟩
  ·have h4 : ∀ k : Nat,tg = 4 * k + 3 → False := fun k hk => by omega
   exact (h4 e h1).elim
  ·rw [h1]
   exact tyG_ap e h2
theorem TyOk.ap2 {tg g off z n : Nat} {e : TypeId} (h : tg = 0 ∨ tg = 4 * e + 3 ∧ e < 1048576) : TyOk (nextT tg g off) z 0 n e := by
 unfold nextT
 split
 ·rename_i hh
  obtain ⟨h1,h2,h3⟩ := hh
  rcases h with h | h
  ·exact absurd h h1
  ·obtain ⟨h4,h5⟩ := h
   obtain ⟨h6,h7⟩ := tyG_of g e h5 (h2.trans h4)
   exact ⟨fun h => by omega,fun _ => ⟨rfl,by rw [tyG_up]; exact h6⟩⟩
 ·exact .no (by unfold nextG; omega) (by unfold nextG; omega)
theorem TyOk.next {tg g off z O n : Nat} {e el : TypeId} (h : tg = 0 ∨ tg = 4 * e + 3 ∧ e < 1048576) (ho : TyOk g z O n el) : TyOk (nextT tg g off) z (O + off * z) n el := by
 unfold nextT
 split
 ·rename_i hh
  obtain ⟨h1,h2,h3⟩ := hh
  rcases h with h | h
  ·exact absurd h h1
  ·obtain ⟨h4,h5⟩ := h
   obtain ⟨h6,h7⟩ := tyG_of g e h5 (h2.trans h4)
   obtain ⟨h8,h9⟩ := ho.2 h7
   exact ⟨fun h => by omega,fun _ => ⟨by rw [h8,h3]; simp,by rw [h9,tyG_up]⟩⟩
 ·exact .no (by unfold nextG; omega) (by unfold nextG; omega)
set_option maxHeartbeats 400000 in
theorem append_sound {N : Base} {σ σ' : St} {t t2 e ty : TypeId} {sz by_ tg : Nat} {z z' s y r : PV} {vs vy : Value}
  (hi : Inv G N σ w) (he : elemOf? P t = some e) (h2 : appTy P t2 = true) (hs : szOf P e = some sz) (hb : bytesOf P e = some by_) (hz : zeroOf P e = some z) (hzb : vBox sz z = some z')
  (hsz : 0 < sz) (hb0 : 0 < by_) (hbm : by_ ≤ 1048576) (rs : RelV G s vs) (ry : RelV G y vy) (htg : tg = 0 ∨ tg = 4 * e + 3 ∧ e < 1048576) (h : vAppendT tg sz by_ s y σ = some (r,σ')) :
  ∃ v w' G',(Builtin.append_ #[t,t2] ty #[vs,vy]).run P w = .ok v w' ∧ Inv G' N σ' w' ∧ Ext G σ w G' σ' w' ∧ RelV G' r v := by
 have hu : P.underlying t = some (.slice e) := by
  unfold elemOf? at he
  split at he <;> simp_all
 unfold zeroOf at hz
 unfold szOf at hs
 unfold bytesOf at hb
 cases hie : P.info? e with
 | none => simp [hie] at hz
 | some it =>
 simp only [hie,Option.map_some,Option.some.injEq] at hz hs hb
 cases hzz : it.zero with
 | none => simp [hzz] at hz
 | some zv =>
 simp only [hzz,Option.some.injEq] at hz
 have rz : RelV G z zv := hz ▸ rel_ofVal G zv
 have hzs : zv.cells.size = sz := by
  unfold vBox at hzb
  cases hc : z.cells? with
  | none => simp [hc] at hzb
  | some zc =>
   simp only [hc] at hzb
   split at hzb
   ·have := (rz.cells hc).1; omega
   ·simp at hzb
 unfold vAppendT at h
 cases hys : vElems y σ with
 | none => simp [hys] at h
 | some ys =>
 simp only [hys] at h
 
 have none_case : ∀ {base : Option Addr} {sLen sCap : Nat},vs = .slice base sLen sCap → sLen ≤ sCap → ys = [] → r = s → σ' = σ →
   ∃ v w' G',(Builtin.append_ #[t,t2] ty #[vs,vy]).run P w = .ok v w' ∧ Inv G' N σ' w' ∧ Ext G σ w G' σ' w' ∧ RelV G' r v := by
  intro base sLen sCap hvs hle hy0 hr hσ
  subst hy0 hr hσ
  obtain ⟨hl,cells,hf,_,hcl,_⟩ := elems_sound (P := P) (sz := it.size) w hi ry hys (.inl (by simp [headSized]))
  have : cells = [] := by simpa using hcl
  subst this
  refine ⟨vs,w,G,?_,hi,.refl _ _ _,rs⟩
  rw [hvs]
  exact run_append_zero w hu h2 hie (by simpa using hl) hle (by simpa using hf w rfl)
 
 have grow_case : ∀ {base : Option Addr} {sLen sCap : Nat} {xs : List PV} {old : List Value},vs = .slice base sLen sCap → xs.length = sLen → sCap < sLen + ys.length → roomy (sLen + ys.length) by_ = true → headSized sz ys = true →
   (∀ w' : World,w'.heap = w.heap → (Builtin.firstCells sz sLen (.slice base sLen sCap)).run P w' = .ok old.toArray w') → RowAt G old.toArray 0 sz xs → old.length = xs.length * sz →
   ∃ (cap : Nat) (cells : Array Value),(Builtin.append_ #[t,t2] ty #[vs,vy]).run P w = .ok (.slice (some ⟨w.heap.size,0,none⟩) (xs.length + ys.length) cap) (World.more w.drew (.cells cells e)) ∧
    RowAt G cells 0 sz (xs ++ ys) ∧ cells.size = cap * sz ∧ xs.length + ys.length ≤ cap := by
  intro base sLen sCap xs old hvs hxl hcap hroom hsized hold hrow hol
  obtain ⟨hl,cells,hf,hcr,hcl,hc1⟩ := elems_sound (P := P) w hi ry hys (.inl hsized)
  obtain ⟨cap,rest,h3,h4,h5⟩ := run_append_grow (P := P) w (ty := ty) (vy := vy) (base := base) (old := old) (new := cells) hu h2 hie hs hb hzz hb0 hl hcap hroom hbm hold hf
  refine ⟨cap,_,by rw [hvs,hxl]; exact h5,hrow.append (by simpa using hol) hcr (by simpa using hcl) rfl,grow_size (by simpa using hol) (by simpa using hcl) (by rw [h4,hzs,hxl]) (by omega),by omega⟩
 
 have list_grow : ∀ {base : Option Addr} {sCap : Nat} {xs : List PV} {old : List Value},vs = .slice base xs.length sCap → sCap < xs.length + ys.length → roomy (xs.length + ys.length) by_ = true → headSized sz ys = true →
   (∀ w' : World,w'.heap = w.heap → (Builtin.firstCells sz xs.length (.slice base xs.length sCap)).run P w' = .ok old.toArray w') → RowAt G old.toArray 0 sz xs → old.length = xs.length * sz →
   r = .sref σ.length tg sz 0 (xs.length + ys.length) → σ' = σ ++ [.arr tg sz (xs ++ ys)] →
   ∃ v w' G',(Builtin.append_ #[t,t2] ty #[vs,vy]).run P w = .ok v w' ∧ Inv G' N σ' w' ∧ Ext G σ w G' σ' w' ∧ RelV G' r v := by
  intro base sCap xs old hvs hcap hroom hsized hold hrow hol hr hσ
  obtain ⟨cap,cells,h3,h4,h5,h6⟩ := grow_case hvs rfl hcap hroom hsized hold hrow hol
  have hdrew : Inv G N σ w.drew := hi.same rfl
  obtain ⟨p1,p2,p3⟩ := push_soundT hdrew sz (xs ++ ys) cells e tg (TyOk.ap htg) hsz (by rw [List.length_append,h5]; exact Nat.mul_le_mul_right _ h6) h4
  refine ⟨_,_,_,h3,hσ ▸ p1,hσ ▸ (p2.of_same rfl rfl rfl rfl),?_⟩
  subst hr
  have := RelV.sref (G := G.newAt σ.length tg (w.heap.size,0,sz,cells.size)) σ.length tg sz 0 (xs.length + ys.length) w.heap.size 0 cells.size cap (Gh.newAt_at _ _ _ _) h6 (by rw [h5,Nat.zero_add,Nat.zero_add])
  simpa using this
 cases rs with
 | nillist =>
  simp only [List.isEmpty_iff] at h
  split at h
  ·rename_i hy0
   simp only [Option.some.injEq,Prod.mk.injEq] at h
   exact none_case rfl (Nat.le_refl 0) hy0 h.1.symm h.2.symm
  ·rename_i hy0
   split at h
   ·rename_i hh
    simp only [Option.some.injEq,Prod.mk.injEq] at h
    have hyl : 0 < ys.length := List.length_pos_iff.2 hy0
    exact list_grow (xs := []) (old := []) rfl (by simpa using hyl) hh.2.1 hh.2.2.2 (fun w' _ => by simp [Builtin.firstCells]) ⟨fun _ => undef,by simp,by simp⟩ (by simp) h.1.symm h.2.symm
   ·simp at h
 | emptyl a c =>
  simp only [List.isEmpty_iff] at h
  split at h
  ·rename_i hy0
   simp only [Option.some.injEq,Prod.mk.injEq] at h
   exact none_case rfl (Nat.zero_le _) hy0 h.1.symm h.2.symm
  ·simp at h
 | list k xs B O z cap vs' h1 h2' h3 hr hc =>
  simp only [List.isEmpty_iff] at h
  split at h
  ·rename_i hy0
   simp only [Option.some.injEq,Prod.mk.injEq] at h
   exact none_case rfl h3 hy0 h.1.symm h.2.symm
  ·rename_i hy0
   split at h
   ·rename_i hh
    simp only [Option.some.injEq,Prod.mk.injEq] at h
    have hyl : 0 < ys.length := List.length_pos_iff.2 hy0
    have hfull : k = .full := by
     cases k with
     | nil => exact absurd rfl h1
     | full => rfl
     | part => exact absurd rfl hh.1
    have hcapx := (h2' hfull).1
    obtain ⟨_,old,ho,hor,hol,_⟩ := elems_sound (P := P) (y := .list k xs) w hi (.list k xs B O z cap vs' h1 h2' h3 hr hc) rfl (.inl hh.2.2.1)
    exact list_grow (xs := xs) (old := old) rfl (by omega) hh.2.1 hh.2.2.2 ho hor hol h.1.symm h.2.symm
   ·simp at h
 | sref b g z off len B O n cap hm h1 h3 =>
  simp only [List.isEmpty_iff] at h
  split at h
  ·rename_i hy0
   simp only [Option.some.injEq,Prod.mk.injEq] at h
   exact none_case rfl h1 hy0 h.1.symm h.2.symm
  ·rename_i hy0
   have hyl : 0 < ys.length := List.length_pos_iff.2 hy0
   cases hbl : σ[b]? with
   | none => simp [hbl] at h
   | some blk =>
   cases blk with
   | arr g' z'' xs =>
    simp only [hbl] at h
    split at h
    ·rename_i hh
     obtain ⟨rfl,rfl,hle,hroom,hsized⟩ := hh
     split at h
     ·
      rename_i hin
      simp only [Option.some.injEq,Prod.mk.injEq] at h
      obtain ⟨hr,hσ⟩ := h
      have hblk := hi.blk b _ hbl
      obtain ⟨B',O',n',cs,el,hm',hN,⟨fz,hfz,hheap⟩,hn,hxsz,hpos,vs',hrel,hcell⟩ := hblk
      rw [hm] at hm'
      simp only [Option.some.injEq,Prod.mk.injEq] at hm'
      obtain ⟨rfl,rfl,rfl,rfl⟩ := hm'
      have hbase : baseOf G b (.arr g z xs) = some B := by simp [baseOf,hm]
      have hcapge : len + ys.length ≤ cap := by
       have h5 : xs.length * z ≤ (off + cap) * z := by omega
       have := Nat.le_of_mul_le_mul_right h5 hpos.1
       omega
      obtain ⟨hl,new,hf,hnr,hnl,hn1⟩ := elems_sound (P := P) w hi ry hys (.inl hsized)
      have e1 : (off + len + ys.length) * z ≤ xs.length * z := Nat.mul_le_mul_right _ hin
      rw [Nat.add_mul,Nat.add_mul] at e1
      have hfit : O + off * z + len * z + new.length ≤ cs.size := by omega
      have hrun := run_append_in (P := P) w (ty := ty) (sLen := len) (sCap := cap) (p := O + off * z) hu h2 hie hl hcapge (by rw [hs]; exact hf w rfl) hheap (hn ▸ hfz) hn1 (by rw [hs]; exact hfit)
      rw [hs] at hrun
      generalize hcs' : (cs.toList.take (O + off * z + len * z) ++ new ++ cs.toList.drop (O + off * z + len * z + new.length)).toArray = cs' at hrun
      have hget : ∀ j : Nat,cs'[j]? = if O + off * z + len * z ≤ j ∧ j < O + off * z + len * z + new.length then new[j - (O + off * z + len * z)]? else cs[j]? := by
       intro j
       rw [← hcs',List.getElem?_toArray,getElem?_splice _ _ _ (by simpa using hfit)]
       simp
      have hcsz : cs'.size = cs.size := by rw [← hcs',List.size_toArray,size_splice _ _ _ (by simpa using hfit)]; simp
      have htl : (xs.take (off + len)).length = off + len := by simp; omega
      have hlenx : (xs.take (off + len) ++ ys ++ xs.drop (off + len + ys.length)).length = xs.length := by simp; omega
      have hrow2 : RowAt G cs' O z (xs.take (off + len) ++ ys ++ xs.drop (off + len + ys.length)) := by
       obtain ⟨ws,r2,k2⟩ := hnr
       refine ⟨fun i => if i < off + len then vs' i else if i < off + len + ys.length then ws (i - (off + len)) else vs' i,fun i x hx => ?_,fun i hil => ?_⟩
       ·show RelV G x (if i < off + len then vs' i else if i < off + len + ys.length then ws (i - (off + len)) else vs' i)
        rw [List.append_assoc,List.getElem?_append,htl] at hx
        by_cases c1 : i < off + len
        ·rw [if_pos c1] at hx ⊢
         rw [List.getElem?_take,if_pos c1] at hx
         exact hrel i x hx
        ·rw [if_neg c1] at hx ⊢
         rw [List.getElem?_append] at hx
         by_cases c2 : i < off + len + ys.length
         ·rw [if_pos (by omega)] at hx
          rw [if_pos c2]
          exact r2 _ x hx
         ·rw [if_neg (by omega),List.getElem?_drop,show off + len + ys.length + (i - (off + len) - ys.length) = i by omega] at hx
          rw [if_neg c2]
          exact hrel i x hx
       ·rw [hlenx] at hil
        show (if i < off + len then vs' i else if i < off + len + ys.length then ws (i - (off + len)) else vs' i).cells.size = z ∧ ∀ j v,(if i < off + len then vs' i else if i < off + len + ys.length then ws (i - (off + len)) else vs' i).cells[j]? = some v → v.oneCell' = true ∧ cs'[O + i * z + j]? = some v
        by_cases c1 : i < off + len
        ·rw [if_pos c1]
         obtain ⟨q1,q2⟩ := hcell i hil
         refine ⟨q1,fun j v hj => ⟨(q2 j v hj).1,?_⟩⟩
         have hjz : j < z := by have := (Array.getElem?_eq_some_iff.1 hj).1; omega
         have : (i + 1) * z ≤ (off + len) * z := Nat.mul_le_mul_right _ c1
         rw [Nat.add_mul,Nat.add_mul] at this
         rw [hget,if_neg (by omega)]
         exact (q2 j v hj).2
        ·rw [if_neg c1]
         by_cases c2 : i < off + len + ys.length
         ·rw [if_pos c2]
          obtain ⟨q1,q2⟩ := k2 (i - (off + len)) (by omega)
          refine ⟨q1,fun j v hj => ⟨(q2 j v hj).1,?_⟩⟩
          have hjz : j < z := by have := (Array.getElem?_eq_some_iff.1 hj).1; omega
          have h9 := (q2 j v hj).2
          simp only [List.getElem?_toArray] at h9
          have hmul : i * z = off * z + len * z + (i - (off + len)) * z := by rw [← Nat.add_mul,← Nat.add_mul]; congr 1; omega
          have hlt2 := (List.getElem?_eq_some_iff.1 h9).1
          rw [hget,if_pos (by omega),← h9]
          congr 1
          omega
         ·rw [if_neg c2]
          obtain ⟨q1,q2⟩ := hcell i hil
          refine ⟨q1,fun j v hj => ⟨(q2 j v hj).1,?_⟩⟩
          have : (off + len + ys.length) * z ≤ i * z := Nat.mul_le_mul_right _ (by omega)
          rw [Nat.add_mul,Nat.add_mul] at this
          rw [hget,if_neg (by omega)]
          exact (q2 j v hj).2
      obtain ⟨p1,p2⟩ := repl_sound (G' := G) (w' := w.setRow B cs') (g' := g) (z' := z) (ys := xs.take (off + len) ++ ys ++ xs.drop (off + len + ys.length)) hi hbl hbase (.refl G) rfl rfl (fun _ _ _ => rfl) hm (fun h' hlt => hi.gen b g z xs hbl h' hlt) (.inl rfl)
       (fun k _ hk => setRow_ext_heap w B cs' k hk) rfl rfl rfl (by rw [setRow_size]; exact Nat.le_refl _)
       ⟨B,O,n,cs',el,hm,hN,⟨fz,hfz,setRow_heap w B cs cs' el fz hheap⟩,by rw [hcsz]; exact hn,by rw [hlenx]; exact hxsz,hpos,hrow2⟩
      refine ⟨_,_,_,hrun,hσ ▸ p1,hσ ▸ p2,?_⟩
      subst hr
      exact RelV.sref b g z off (len + ys.length) B O n cap hm hcapge h3
     simp only [Option.some.injEq,Prod.mk.injEq] at h
     obtain ⟨hr,hσ⟩ := h
     have hblk := hi.blk b _ hbl
     have hbb := hblk
     obtain ⟨B',O',n',cs,el,hm',hN,⟨fz,hfz,hheap⟩,hn,hxsz,hpos,vs',hrel,hcell⟩ := hblk
     rw [hm] at hm'
     simp only [Option.some.injEq,Prod.mk.injEq] at hm'
     obtain ⟨rfl,rfl,rfl,rfl⟩ := hm'
     have hbase : baseOf G b (.arr g z xs) = some B := by simp [baseOf,hm]
     have hlen : ((xs.drop off).take len).length = len := by simp; omega
     have hlt : g < nextT tg g off := nextT_lt tg g off
     have hnone : G.μ b (nextT tg g off) = none := hi.gen b g z xs hbl (nextT tg g off) (by omega)
     have hgenN : ∀ (y : Nat × Nat × Nat × Nat) (h' : Nat),nextT tg g off < h' → (G.newAt b (nextT tg g off) y).μ b h' = none := by
      intro y h' hlt
      simp only [Gh.newAt]
      rw [if_neg (by omega)]
      exact hi.gen b g z xs hbl h' (by omega)
     have hothN : ∀ (y : Nat × Nat × Nat × Nat) (c h' : Nat),c ≠ b → (G.newAt b (nextT tg g off) y).μ c h' = G.μ c h' := by
      intro y c h' hc
      simp only [Gh.newAt]
      rw [if_neg (by omega)]
     have hsub : RowAt G cs (O + off * z) z ((xs.drop off).take len) := by
      refine ⟨fun i => vs' (off + i),fun i x hx => ?_,fun i hil => ?_⟩
      ·rw [List.getElem?_take] at hx
       split at hx
       ·rw [List.getElem?_drop] at hx; exact hrel _ _ hx
       ·simp at hx
      ·obtain ⟨q1,q2⟩ := hcell (off + i) (by omega)
       refine ⟨q1,fun j v hj => ⟨(q2 j v hj).1,?_⟩⟩
       rw [show O + off * z + i * z + j = O + (off + i) * z + j by rw [Nat.add_mul]; omega]
       exact (q2 j v hj).2
     have hlew : (off + len) * z ≤ xs.length * z := Nat.mul_le_mul_right _ hle
     rw [Nat.add_mul] at hlew
     by_cases hroom2 : len + ys.length ≤ cap
     ·
      obtain ⟨hl,new,hf,hnr,hnl,hn1⟩ := elems_sound (P := P) w hi ry hys (.inl hsized)
      have hcapw : (len + ys.length) * z ≤ cap * z := Nat.mul_le_mul_right _ hroom2
      rw [Nat.add_mul] at hcapw
      have h3' := h3
      rw [Nat.add_mul] at h3'
      have hfit : O + off * z + len * z + new.length ≤ cs.size := by omega
      have hrun := run_append_in (P := P) w (ty := ty) (sLen := len) (sCap := cap) (p := O + off * z) hu h2 hie hl hroom2 (by rw [hs]; exact hf w rfl) hheap (hn ▸ hfz) hn1 (by rw [hs]; exact hfit)
      rw [hs] at hrun
      generalize hcs' : (cs.toList.take (O + off * z + len * z) ++ new ++ cs.toList.drop (O + off * z + len * z + new.length)).toArray = cs' at hrun
      have hget : ∀ j : Nat,cs'[j]? = if O + off * z + len * z ≤ j ∧ j < O + off * z + len * z + new.length then new[j - (O + off * z + len * z)]? else cs[j]? := by
       intro j
       rw [← hcs',List.getElem?_toArray,getElem?_splice _ _ _ (by simpa using hfit)]
       simp
      have hcsz : cs'.size = cs.size := by rw [← hcs',List.size_toArray,size_splice _ _ _ (by simpa using hfit)]; simp
      have le := Gh.newAt_le (y := (B,O + off * z,z,cs.size)) hnone
      have hrow2 : RowAt G cs' (O + off * z) z ((xs.drop off).take len ++ ys) := by
       obtain ⟨us,r1,k1⟩ := hsub
       obtain ⟨ws,r2,k2⟩ := hnr
       refine ⟨fun i => if i < len then us i else ws (i - len),fun i x hx => ?_,fun i hil => ?_⟩
       ·rw [List.getElem?_append,hlen] at hx
        show RelV G x (if i < len then us i else ws (i - len))
        split at hx
        ·rename_i hlt; rw [if_pos hlt]; exact r1 i x hx
        ·rename_i hlt; rw [if_neg hlt]; exact r2 _ x hx
       ·rw [List.length_append,hlen] at hil
        by_cases hlt : i < len
        ·simp only [hlt,if_true]
         obtain ⟨q1,q2⟩ := k1 i (by omega)
         refine ⟨q1,fun j v hj => ⟨(q2 j v hj).1,?_⟩⟩
         have hjz : j < z := by have := (Array.getElem?_eq_some_iff.1 hj).1; omega
         have : (i + 1) * z ≤ len * z := Nat.mul_le_mul_right _ hlt
         rw [Nat.add_mul] at this
         rw [hget,if_neg (by omega)]
         exact (q2 j v hj).2
        ·simp only [hlt,if_false]
         obtain ⟨q1,q2⟩ := k2 (i - len) (by omega)
         refine ⟨q1,fun j v hj => ⟨(q2 j v hj).1,?_⟩⟩
         have hjz : j < z := by have := (Array.getElem?_eq_some_iff.1 hj).1; omega
         have h9 := (q2 j v hj).2
         simp only [List.getElem?_toArray] at h9
         have hmul : i * z = len * z + (i - len) * z := by rw [← Nat.add_mul]; congr 1; omega
         have hlt2 := (List.getElem?_eq_some_iff.1 h9).1
         rw [hget,if_pos (by omega),← h9]
         congr 1
         omega
      obtain ⟨p1,p2⟩ := repl_sound (G' := G.newAt b (nextT tg g off) (B,O + off * z,z,cs.size)) (w' := w.setRow B cs') (g' := nextT tg g off) (z' := z) (ys := (xs.drop off).take len ++ ys) hi hbl hbase le rfl rfl (hothN _) (Gh.newAt_at _ _ _ _) (hgenN _) (.inl rfl)
       (fun k _ hk => setRow_ext_heap w B cs' k hk) rfl rfl rfl (by rw [setRow_size]; exact Nat.le_refl _)
       ⟨B,O + off * z,cs.size,cs',el,Gh.newAt_at _ _ _ _,hN,⟨fz,hn ▸ hfz,setRow_heap w B cs cs' el fz hheap⟩,hcsz,by rw [List.length_append,hlen,Nat.add_mul]; omega,⟨hpos.1,hn ▸ hpos.2.next htg⟩,hrow2.mono le⟩
      refine ⟨_,_,_,hrun,hσ ▸ p1,hσ ▸ p2,?_⟩
      subst hr
      have := RelV.sref (G := G.newAt b (nextT tg g off) (B,O + off * z,z,cs.size)) b (nextT tg g off) z 0 (len + ys.length) B (O + off * z) cs.size cap (Gh.newAt_at _ _ _ _) hroom2 (by rw [Nat.zero_add]; omega)
      simpa using this
     ·
      obtain ⟨_,old,ho,hor,hol,_⟩ := elems_sound (P := P) (sz := z) (y := .sref b g z off len) (ys := (xs.drop off).take len) w hi (.sref b g z off len B O n cap hm h1 h3) (by simp [vElems,hbl,hle]) (.inr ⟨_,_,_,_,rfl⟩)
      rw [hlen] at ho hol
      obtain ⟨cap',cells,h4,h5,h6,h7⟩ := grow_case (xs := (xs.drop off).take len) rfl hlen (by omega) hroom hsized ho hor (by rw [hlen]; exact hol)
      rw [hlen] at h4 h7
      have le := Gh.newAt_le (y := (w.heap.size,0,z,cells.size)) hnone
      have hiD : Inv G N σ w.drew := hi.same rfl
      obtain ⟨p1,p2⟩ := repl_sound (G' := G.newAt b (nextT tg g off) (w.heap.size,0,z,cells.size)) (w' := World.more w.drew (.cells cells e)) (g' := nextT tg g off) (z' := z) (ys := (xs.drop off).take len ++ ys) hiD hbl hbase le rfl rfl (hothN _) (Gh.newAt_at _ _ _ _) (hgenN _) (.inr (Nat.le_refl _))
       (fun k hk _ => more_heap_lt _ _ _ hk) rfl rfl rfl (by rw [more_size]; omega)
       ⟨w.heap.size,0,cells.size,cells,e,Gh.newAt_at _ _ _ _,hi.big,⟨(0,0),.inl rfl,by rw [more_heap]; exact if_pos rfl⟩,rfl,by rw [List.length_append,hlen,h6]; have := Nat.mul_le_mul_right z h7; omega,⟨hpos.1,TyOk.ap2 htg⟩,h5.mono le⟩
      refine ⟨_,_,_,h4,hσ ▸ p1,hσ ▸ (p2.of_same rfl rfl rfl rfl),?_⟩
      subst hr
      have := RelV.sref (G := G.newAt b (nextT tg g off) (w.heap.size,0,z,cells.size)) b (nextT tg g off) z 0 (len + ys.length) w.heap.size 0 cells.size cap' (Gh.newAt_at _ _ _ _) h7 (by rw [h6,Nat.zero_add,Nat.zero_add])
      simpa using this
    ·simp at h
   | _ => simp [hbl] at h
 | _ => simp at h
end
end Go.Abs
namespace Go.Abs
section
variable {P : Program} {G : Gh} (w : World)
theorem load_sound {N : Base} {σ : St} {t : TypeId} {ag : Bool} {sz : Nat} {p x : PV} {vp : Value} (hi : Inv G N σ w) (ha : aggOf P t = some ag) (hs : szOf P t = some sz)
  (rp : RelV G p vp) (h : vLoad ag sz p σ = some x) : ∃ v,(Instr.loadAt t vp).run P w = .ok v w ∧ RelV G x v := by
 cases rp with
 | eptr e off B O ve re hc =>
  obtain ⟨v,h1,h2⟩ := load_part (P := P) ha hs re (fun j v hj => hi.imm _ _ _ (hc j v hj).2) h
  exact ⟨v,by simp [Instr.loadAt,Instr.sureAddr,h1],h2⟩
 | ptr b g i off B O z n hm =>
  simp only [vLoad] at h
  cases hb : σ[b]? with
  | none => simp [hb] at h
  | some blk =>
  cases blk with
  | arr g' z' xs =>
   simp only [hb] at h
   split at h
   ·rename_i hg
    subst hg
    cases he : xs[i]? with
    | none => simp [he] at h
    | some e =>
    simp only [he] at h
    obtain ⟨B',O',n',cs,el,hm',hN,⟨fz,hfz,hh⟩,hn,hle,hz,vs,hrel,hcell⟩ := hi.blk b _ hb
    rw [hm] at hm'
    simp only [Option.some.injEq,Prod.mk.injEq] at hm'
    obtain ⟨rfl,rfl,rfl,rfl⟩ := hm'
    have hil : i < xs.length := (List.getElem?_eq_some_iff.1 he).1
    obtain ⟨v,h1,h2⟩ := load_part (P := P) (w := w) (B := B) (O := O + i * z) ha hs (hrel i e he) (fun j v hj => by
     have := ((hcell i hil).2 j v hj).2
     simp [World.cell?,hh,this]) h
    exact ⟨v,by simp [Instr.loadAt,Instr.sureAddr,h1],h2⟩
   ·simp at h
  | _ => simp [hb] at h
 | _ => simp [vLoad] at h
theorem mkTy_run {t : TypeId} (h : mkTy P t = true) : ∃ k,P.underlying t = some (.int k) := by
 unfold mkTy at h
 split at h
 ·rename_i k hk; exact ⟨k,hk⟩
 ·cases h
theorem run_append_mk {t t2 e ty : TypeId} {sz by_ n : Nat} {k : IntKind} {zv : Value} {it : TypeInfo}
  (hu : P.underlying t = some (.slice e)) (h2 : mkTy P t2 = true) (hi : P.info? e = some it) (hs : it.size = sz) (hb : it.bytes = by_) (hz : it.zero = some zv) (hb0 : 0 < by_) (hpos : 0 < sz)
  (hn : 0 < n) (hr : roomy n by_ = true) (hbm : by_ ≤ 1048576) :
  ∃ (cap : Nat),n ≤ cap ∧ (Builtin.append_ #[t,t2] ty #[.slice none 0 0,.int k (n : Int)]).run P w = .ok (.slice (some ⟨w.heap.size,0,none⟩) n cap) (World.more w.drew (.cells (Builtin.zeroCells zv.cells n ++ Builtin.zeroCells zv.cells (cap - n)) e)) := by
 have hroom := hr
 simp only [roomy,decide_eq_true_eq] at hroom
 have hbz : ¬ it.bytes = 0 := by omega
 have hsm := cap_small (need := n) (cap := 0) hn hr hbm
 generalize hq : Question.cut (.appendCap n 0 e) (w.tape w.drawn (.appendCap n 0 e)) = cap
 have hcap' : n ≤ cap := by rw [← hq]; simp [Question.cut]
 refine ⟨cap,hcap',?_⟩
 have hask : ∀ (b : Nat) (w' : World),(askRoom b).run P w' = .ok () w' := by
  intro b w'
  unfold askRoom
  split <;> rfl
 have hn47 : n ≤ 140737488355328 := by
  have : n * 1 ≤ n * by_ := Nat.mul_le_mul_left _ hb0
  omega
 have hwrap : IntKind.i64.wrap (n : Int) = n := IntWalk.i64_in _ (by omega)
 have hbig2 : ¬ 281474976710656 < (n : Int) * (it.bytes : Int) := by
  rw [hb]
  have : ((n * by_ : Nat) : Int) ≤ 140737488355328 := by omega
  have e2 : ((n * by_ : Nat) : Int) = (n : Int) * by_ := by rw [Int.natCast_mul]
  omega
 have hn0 : ¬ n = 0 := by omega
 have hs0 : ¬ it.size = 0 := by omega
 have hmax : ¬ ((n : Int) > IntKind.i64.max) := by
  show ¬ ((n : Int) > 9223372036854775807)
  omega
 obtain ⟨k2,hu2⟩ := mkTy_run h2
 have hsm2 : ¬ 281474976710656 < Builtin.nextslicecap n 0 * it.bytes := by rw [hb]; simpa using hsm
 have hneg : ¬ ((n : Int) < 0) := by omega
 simp [Builtin.append_,run_underlying hu,run_underlying hu2,sizeOf,typeInfo,zeroValue,asInt,asIntOf,hi,hz,hwrap,hneg,hbig2,hn0,hs0,hmax,hbz,hsm2,hask,Builtin.firstCells,newRow,newObj,Sem.run,Question.forced,hq]
 rw [if_neg (by omega),if_neg (Nat.mul_ne_zero hn0 hs0)]
 rfl
theorem appendMk_sound {N : Base} {σ σ' : St} {t t2 e ty : TypeId} {sz by_ : Nat} {z z' s y r : PV} {vs vy : Value}
  (hi : Inv G N σ w) (he : elemOf? P t = some e) (h2 : mkTy P t2 = true) (hs : szOf P e = some sz) (hb : bytesOf P e = some by_) (hz : zeroOf P e = some z) (hzb : vBox sz z = some z')
  (hpos : 0 < sz) (hb0 : 0 < by_) (hbm : by_ ≤ 1048576) (rs : RelV G s vs) (ry : RelV G y vy) (h : vAppendMk sz by_ z' s y σ = some (r,σ')) :
  ∃ v w' G',(Builtin.append_ #[t,t2] ty #[vs,vy]).run P w = .ok v w' ∧ Inv G' N σ' w' ∧ Ext G σ w G' σ' w' ∧ RelV G' r v := by
 have hu : P.underlying t = some (.slice e) := by
  unfold elemOf? at he
  split at he <;> simp_all
 unfold zeroOf at hz
 unfold szOf at hs
 unfold bytesOf at hb
 cases hie : P.info? e with
 | none => simp [hie] at hz
 | some it =>
 simp only [hie,Option.map_some,Option.some.injEq] at hz hs hb
 cases hzz : it.zero with
 | none => simp [hzz] at hz
 | some zv =>
 simp only [hzz,Option.some.injEq] at hz
 have rz : RelV G z zv := hz ▸ rel_ofVal G zv
 unfold vBox at hzb
 cases hc : z.cells? with
 | none => simp [hc] at hzb
 | some zc =>
 simp only [hc] at hzb
 have hzl : zc.length = sz := by
  split at hzb
  ·assumption
  ·simp at hzb
 simp only [hzl,if_true,Option.some.injEq] at hzb
 subst hzb
 have hzs : zv.cells.size = sz := by have := (rz.cells hc).1; omega
 unfold vAppendMk at h
 split at h
 ·rename_i k n
  split at h
  ·rename_i hh
   obtain ⟨h0,hroom⟩ := hh
   simp only [Option.some.injEq,Prod.mk.injEq] at h
   obtain ⟨hr,hσ⟩ := h
   have hvs : vs = .slice none 0 0 := by
    cases rs with
    | nillist => rfl
    | list k xs B O z cap vs' h1 h2' h3 hr hc => exact absurd rfl h1
   have hvy : vy = .int k n := by cases ry; rfl
   subst hvs hvy
   have hnn : ((n.toNat : Nat) : Int) = n := by omega
   generalize n.toNat = m at hr hσ hroom hnn
   subst hnn
   obtain ⟨cap,hcap,hrun⟩ := run_append_mk (P := P) w (t := t) (t2 := t2) (ty := ty) (k := k) hu h2 hie hs hb hzz hb0 hpos (by omega) hroom hbm
   have hrow := RowAt.zeros (n := m) hc rz hzs hpos
   have hzc : Builtin.zeroCells zv.cells m = ((Array.range (m * sz)).map (zv.cells[· % zv.cells.size]!)) := by
    unfold Builtin.zeroCells
    rw [hzs]
   have hsize : (Builtin.zeroCells zv.cells m).size = (List.replicate m z).length * sz := by
    unfold Builtin.zeroCells
    simp [hzs]
   rw [← hzc] at hrow
   have hrow2 : RowAt G (Builtin.zeroCells zv.cells m ++ (#[] ++ Builtin.zeroCells zv.cells (cap - m))) 0 sz (List.replicate m z ++ []) :=
    RowAt.append hrow hsize (c2 := #[]) (ys := []) ⟨fun _ => undef,by simp,by simp⟩ (by simp) rfl
   rw [List.append_nil,Array.empty_append] at hrow2
   have hcsz : (Builtin.zeroCells zv.cells m ++ Builtin.zeroCells zv.cells (cap - m)).size = cap * sz := by
    rw [Array.size_append,hsize]
    unfold Builtin.zeroCells
    simp only [Array.size_map,Array.size_range,hzs,List.length_replicate]
    rw [← Nat.add_mul]
    congr 1
    omega
   have hdrew : Inv G N σ w.drew := hi.same rfl
   obtain ⟨p1,p2,p3⟩ := push_sound hdrew sz (List.replicate m z) _ e hpos (by rw [hcsz,List.length_replicate]; exact Nat.mul_le_mul_right _ hcap) hrow2
   refine ⟨_,_,_,hrun,hσ ▸ p1,hσ ▸ (p2.of_same rfl rfl rfl rfl),?_⟩
   subst hr
   have := RelV.sref (G := G.newAt σ.length 0 (w.heap.size,0,sz,(Builtin.zeroCells zv.cells m ++ Builtin.zeroCells zv.cells (cap - m)).size)) σ.length 0 sz 0 m w.heap.size 0 _ cap (Gh.newAt_at _ _ _ _) hcap (by rw [hcsz,Nat.zero_add,Nat.zero_add])
   simpa using this
  ·cases h
 ·cases h
theorem makeSl_sound {N : Base} {σ σ' : St} {t e : TypeId} {sz by_ : Nat} {z l c r : PV} {vl vc : Value}
  (hi : Inv G N σ w) (he : elemOf? P t = some e) (hs : szOf P e = some sz) (hb : bytesOf P e = some by_) (hz : zeroOf P e = some z) (hpos : 0 < sz) (hb0 : 0 < by_)
  (rl : RelV G l vl) (rc : RelV G c vc) (h : vMakeSl sz by_ z l c σ = some (r,σ')) :
  ∃ v w' G',(Instr.makeSlice t vl vc).run P w = .ok v w' ∧ Inv G' N σ' w' ∧ Ext G σ w G' σ' w' ∧ RelV G' r v := by
 have hu : P.underlying t = some (.slice e) := by
  unfold elemOf? at he
  split at he <;> simp_all
 unfold zeroOf at hz
 unfold szOf at hs
 unfold bytesOf at hb
 cases hie : P.info? e with
 | none => simp [hie] at hz
 | some it =>
 simp only [hie,Option.map_some,Option.some.injEq] at hz hs hb
 cases hzz : it.zero with
 | none => simp [hzz] at hz
 | some zv =>
 simp only [hzz,Option.some.injEq] at hz
 have rz : RelV G z zv := hz ▸ rel_ofVal G zv
 cases rl with
 | int kl ln =>
  cases rc with
  | int kc cn =>
   simp only [vMakeSl] at h
   split at h
   ·rename_i hh
    obtain ⟨h0,rfl,hroom⟩ := hh
    cases hvb : vBox sz z with
    | none => simp [hvb] at h
    | some z' =>
     simp only [hvb] at h
     unfold vBox at hvb
     cases hc : z.cells? with
     | none => simp [hc] at hvb
     | some zc =>
     simp only [hc] at hvb
     have hzl : zc.length = sz := by
      split at hvb
      ·assumption
      ·simp at hvb
     simp only [hzl,if_true,Option.some.injEq] at hvb
     subst hvb
     simp only [Option.some.injEq,Prod.mk.injEq] at h
     obtain ⟨hr,hσ⟩ := h
     have hzs : zv.cells.size = sz := by have := (rz.cells hc).1; omega
     have hnn : ((ln.toNat : Nat) : Int) = ln := by omega
     generalize ln.toNat = n at hr hσ hroom hnn
     subst hnn
     have hroom' := hroom
     simp only [roomy,decide_eq_true_eq] at hroom'
     have hn47 : n ≤ 140737488355328 := by
      have : n * 1 ≤ n * by_ := Nat.mul_le_mul_left _ hb0
      omega
     have hwrap : IntKind.i64.wrap (n : Int) = n := IntWalk.i64_in _ (by omega)
     have hbig2 : ¬ 281474976710656 < (it.bytes : Int) * n := by
      rw [hb]
      have : ((n * by_ : Nat) : Int) ≤ 140737488355328 := by omega
      have e2 : ((n * by_ : Nat) : Int) = (by_ : Int) * n := by rw [Int.natCast_mul,Int.mul_comm]
      omega
     have hw0 : IntKind.i64.wrap 0 = 0 := IntWalk.i64_in 0 (by omega)
     have hask : ∀ (b : Nat) (w' : World),(askRoom b).run P w' = .ok () w' := by
      intro b w'
      unfold askRoom
      split <;> rfl
     have hrow := RowAt.zeros (n := n) hc rz hzs hpos
     have hsize : ((Array.range (n * sz)).map (zv.cells[· % zv.cells.size]!)).size = n * sz := by simp
     have hxl : (List.replicate n z).length * sz ≤ ((Array.range (n * sz)).map (zv.cells[· % zv.cells.size]!)).size := by rw [hsize]; simp
     obtain ⟨p1,p2,p3⟩ := push_sound hi sz (List.replicate n z) _ e hpos hxl hrow
     refine ⟨.slice (some ⟨w.heap.size,0,none⟩) n n,World.more w (.cells ((Array.range (n * sz)).map (zv.cells[· % zv.cells.size]!)) e),_,?_,hσ ▸ p1,hσ ▸ p2,?_⟩
     ·by_cases hn0 : n = 0
      ·subst hn0
       simp [Instr.makeSlice,run_underlying hu,asInt,asIntOf,typeInfo,sizeOf,zeroValue,hie,hzz,hs,hb,hw0,hask,newRow,newObj,Sem.run,World.more,show (Array.range 0) = #[] from rfl]
      ·have hns : ¬ n * sz = 0 := Nat.mul_ne_zero hn0 (by omega)
       simp [Instr.makeSlice,run_underlying hu,asInt,asIntOf,typeInfo,sizeOf,zeroValue,hie,hzz,hs,hwrap,hask,hbig2,hn0,hns,newRow,newObj,Sem.run]
       rw [← hs]
       rfl
     ·subst hr
      have := RelV.sref (G := G.newAt σ.length 0 (w.heap.size,0,sz,((Array.range (n * sz)).map (zv.cells[· % zv.cells.size]!)).size)) σ.length 0 sz 0 n w.heap.size 0 _ n (Gh.newAt_at _ _ _ _) (Nat.le_refl _) (by rw [hsize,Nat.zero_add,Nat.zero_add])
      simpa using this
   ·simp at h
  | _ => simp [vMakeSl] at h
 | _ => simp [vMakeSl] at h
theorem index_sound {t e : TypeId} {sz : Nat} {x i r : PV} {vx vi : Value} (he : elemOf? P t = some e) (hs : szOf P e = some sz)
  (rx : RelV G x vx) (ri : RelV G i vi) (h : vIndex sz x i = some r) : ∃ v,(Instr.indexAt t vx vi).run P w = .ok v w ∧ RelV G r v := by
 have hu : P.underlying t = some (.slice e) := by
  unfold elemOf? at he
  split at he <;> simp_all
 cases ri with
 | int k n =>
  cases rx with
  | nillist => simp [vIndex] at h
  | emptyl a c => simp [vIndex] at h
  | list kk xs B O z cap vs h1 h2 h3 hr hc =>
   simp only [vIndex] at h
   split at h
   ·rename_i h0
    cases hx : xs[n.toNat]? with
    | none => simp [hx] at h
    | some ev =>
    simp only [hx] at h
    cases hcs : ev.cells? with
    | none => simp [hcs] at h
    | some cs =>
    simp only [hcs] at h
    split at h
    ·rename_i hsz
     simp only [Option.some.injEq] at h
     subst h
     have hlt := (List.getElem?_eq_some_iff.1 hx).1
     obtain ⟨q1,q2⟩ := hc n.toNat hlt
     have hzz : z = sz := by rw [← q1,← hsz]; exact ((hr _ _ hx).cells hcs).1.symm
     have hin : 0 ≤ n ∧ n < (xs.length : Int) := ⟨h0,by omega⟩
     refine ⟨.pointer (some ⟨B,O + n.toNat * sz,none⟩),?_,?_⟩
     ·simp [Instr.indexAt,asIntOf,run_underlying hu,hin,szOf_run hs,addr_add]
     ·have := RelV.eptr (G := G) ev 0 B (O + n.toNat * sz) (vs n.toNat) (hr _ _ hx) (fun j v hj => by rw [← hzz]; exact q2 j v hj)
      simpa using this
    ·simp at h
   ·simp at h
  | sref b g z off len B O m cap hm h1 h2 =>
   simp only [vIndex] at h
   split at h
   ·rename_i hh
    obtain ⟨h0,hlt,rfl⟩ := hh
    simp only [Option.some.injEq] at h
    subst h
    have hin : 0 ≤ n ∧ n < (len : Int) := ⟨h0,hlt⟩
    refine ⟨.pointer (some ⟨B,O + off * z + n.toNat * z,none⟩),?_,?_⟩
    ·simp [Instr.indexAt,asIntOf,run_underlying hu,hin,szOf_run hs,addr_add]
    ·have := RelV.ptr (G := G) b g (off + n.toNat) 0 B O z m hm
     rw [Nat.add_mul,Nat.add_zero,← Nat.add_assoc] at this
     exact this
   ·simp at h
  | _ => simp [vIndex] at h
 | _ => simp [vIndex] at h
theorem strAt_sound {t : TypeId} {x i r : PV} {vx vi : Value} (hu : P.underlying t = some .string) (rx : RelV G x vx) (ri : RelV G i vi) (h : vStrAt x i = some r) :
  ∃ v,(Instr.index t vx vi).run P w = .ok v w ∧ RelV G r v := by
 cases ri with
 | int k n =>
  cases rx with
  | str s =>
   simp only [vStrAt] at h
   split at h
   ·rename_i h0
    cases hb : s.data.toList[n.toNat]? with
    | none => simp [hb] at h
    | some b =>
     simp only [hb,Option.some.injEq] at h
     subst h
     have hb' : s[n.toNat]? = some b := by
      have h1 : s.data[n.toNat]? = some b := by simpa using hb
      have hlt := (Array.getElem?_eq_some_iff.1 h1).1
      have hlt' : n.toNat < s.size := hlt
      rw [getElem?_pos s n.toNat hlt']
      have := (Array.getElem?_eq_some_iff.1 h1).2
      exact congrArg some this
     exact ⟨.int .u8 b.toNat,by simp [Instr.index,asIntOf,run_underlying hu,h0,hb'],.int _ _⟩
   ·simp at h
  | _ => simp [vStrAt] at h
 | _ => simp [vStrAt] at h
theorem fieldAt_run {t : TypeId} {f k : Nat} (h : fieldAt? P t f = some k) (a : Addr) : (Instr.fieldAt t (.pointer (some a)) f).run P w = .ok (.pointer (some (a.add k))) w := by
 unfold fieldAt? fieldOf at h
 split at h
 ·rename_i fd hf
  split at hf
  ·rename_i fs hu
   split at h
   ·simp at h
   ·rename_i n hn hz
    simp only [Option.some.injEq] at h
    subst h
    cases n with
    | zero => exact absurd rfl hn
    | succ n =>
     simp [Instr.fieldAt,run_underlying hu,hf,Instr.sureAddr,fieldPlace,szOf_run hz]
   ·simp at h
  ·simp at hf
 ·simp at h
theorem field_sound {t : TypeId} {f k : Nat} {p r : PV} {vp : Value} (hf : fieldAt? P t f = some k) (rp : RelV G p vp) (h : vField k p = some r) :
  ∃ v,(Instr.fieldAt t vp f).run P w = .ok v w ∧ RelV G r v := by
 cases rp with
 | ptr b g i off B O z n hm =>
  simp only [vField,Option.some.injEq] at h
  subst h
  refine ⟨_,fieldAt_run w hf _,?_⟩
  rw [addr_add,Nat.add_assoc]
  exact .ptr b g i (off + k) B O z n hm
 | eptr e off B O ve re hc =>
  simp only [vField,Option.some.injEq] at h
  subst h
  refine ⟨_,fieldAt_run w hf _,?_⟩
  rw [addr_add,Nat.add_assoc]
  exact .eptr e (off + k) B O ve re hc
 | _ => simp [vField] at h
theorem bound_sound {x : Option PV} {vx : Option Value} {d a : Nat} (h : bound x d = some a) (r : ∀ p,x = some p → ∃ v,vx = some v ∧ RelV G p v) (hn : x = none → vx = none) :
  (x = none ∧ vx = none ∧ a = d) ∨ ∃ k,vx = some (.int k (a : Int)) := by
 cases x with
 | none => simp [bound] at h; exact .inl ⟨rfl,hn rfl,h.symm⟩
 | some p =>
  obtain ⟨v,rfl,rv⟩ := r p rfl
  cases rv with
  | int k n =>
   simp only [bound] at h
   split at h
   ·rename_i h0
    simp only [Option.some.injEq] at h
    refine .inr ⟨k,?_⟩
    rw [← h]
    congr 2
    omega
   ·simp at h
  | _ => simp [bound] at h
theorem run_bounds {isSlice : Bool} {len cap a b : Nat} {lo hi : Option Value} (hlo : (lo = none ∧ a = 0) ∨ ∃ k,lo = some (.int k (a : Int))) (hhi : (hi = none ∧ b = len) ∨ ∃ k,hi = some (.int k (b : Int))) (hab : a ≤ b) (hbc : b ≤ cap) :
  (Instr.sliceBounds isSlice len cap lo hi none).run P w = .ok (a,b,cap) w := by
 rcases hlo with ⟨rfl,rfl⟩ | ⟨k,rfl⟩ <;> rcases hhi with ⟨rfl,rfl⟩ | ⟨k',rfl⟩ <;>
  simp [Instr.sliceBounds,Instr.sliceBound,asIntOf,hab,hbc]
theorem subStr_sound {t : TypeId} {x r : PV} {lo hi : Option PV} {vx : Value} {vlo vhi : Option Value} (hu : P.underlying t = some .string) (rx : RelV G x vx)
  (rlo : ∀ p,lo = some p → ∃ v,vlo = some v ∧ RelV G p v) (nlo : lo = none → vlo = none) (rhi : ∀ p,hi = some p → ∃ v,vhi = some v ∧ RelV G p v) (nhi : hi = none → vhi = none)
  (h : vSubStr x lo hi = some r) : ∃ v,(Instr.sliceAt t vx vlo vhi none).run P w = .ok v w ∧ RelV G r v := by
 cases rx with
 | str s =>
  simp only [vSubStr] at h
  cases ha : bound lo 0 with
  | none => simp [ha] at h
  | some a =>
  cases hb : bound hi s.data.toList.length with
  | none => simp only [ha,hb] at h; simp at h
  | some b =>
  simp only [ha,hb] at h
  split at h
  ·rename_i hab
   simp only [Option.some.injEq] at h
   subst h
   have hbl : b ≤ s.size := by simpa using hab.2
   have hrun := run_bounds (P := P) (isSlice := false) (len := s.size) (cap := s.size) w (by
     rcases bound_sound ha rlo nlo with ⟨_,h2,h3⟩ | h2
     ·exact .inl ⟨h2,h3⟩
     ·exact .inr h2) (by
     rcases bound_sound hb rhi nhi with ⟨_,h2,h3⟩ | h2
     ·exact .inl ⟨h2,by simpa using h3⟩
     ·exact .inr h2) hab.1 hbl
   refine ⟨.string (s.extract a b),by simp [Instr.sliceAt,run_underlying hu,Instr.slice,hrun],.of_str _ ?_⟩
   simp [ByteArray.data_extract,List.extract_eq_take_drop,List.drop_take]
  ·simp at h
 | _ => simp [vSubStr] at h
theorem subSl_sound {t e : TypeId} {sz : Nat} {x r : PV} {lo hi : Option PV} {vx : Value} {vlo vhi : Option Value} (he : elemOf? P t = some e) (hs : szOf P e = some sz) (rx : RelV G x vx)
  (rlo : ∀ p,lo = some p → ∃ v,vlo = some v ∧ RelV G p v) (nlo : lo = none → vlo = none) (rhi : ∀ p,hi = some p → ∃ v,vhi = some v ∧ RelV G p v) (nhi : hi = none → vhi = none)
  (h : vSubSl sz x lo hi = some r) : ∃ v,(Instr.sliceAt t vx vlo vhi none).run P w = .ok v w ∧ RelV G r v := by
 have hu : P.underlying t = some (.slice e) := by
  unfold elemOf? at he
  split at he <;> simp_all
 have key : ∀ {len cap a b : Nat} (base : Option Addr),(lo = none → vlo = none) → bound lo 0 = some a → bound hi len = some b → a ≤ b → b ≤ len → len ≤ cap →
   (Instr.sliceAt t (.slice base len cap) vlo vhi none).run P w = .ok (.slice (if cap = a then base else base.map (·.add (a * sz))) (b - a) (cap - a)) w := by
  intro len cap a b base _ ha hb hab hbl hlc
  have hrun := run_bounds (P := P) (isSlice := true) (len := len) (cap := cap) w (by
    rcases bound_sound ha rlo nlo with ⟨_,h2,h3⟩ | h2
    ·exact .inl ⟨h2,h3⟩
    ·exact .inr h2) (by
    rcases bound_sound hb rhi nhi with ⟨_,h2,h3⟩ | h2
    ·exact .inl ⟨h2,h3⟩
    ·exact .inr h2) hab (by omega : b ≤ cap)
  simp [Instr.sliceAt,run_underlying hu,Instr.slice,hrun,szOf_run hs]
 cases rx with
 | nillist =>
  simp only [vSubSl] at h
  cases ha : bound lo 0 with
  | none => simp [ha] at h
  | some a =>
  cases hb : bound hi ([] : List PV).length with
  | none => simp only [ha,hb] at h; simp at h
  | some b =>
  simp only [ha,hb] at h
  split at h
  ·rename_i hab
   simp only [Option.some.injEq] at h
   subst h
   simp only [List.length_nil] at hb hab
   obtain rfl : b = 0 := by omega
   obtain rfl : a = 0 := by omega
   refine ⟨_,key none nlo ha hb (Nat.le_refl _) (Nat.le_refl _) (Nat.le_refl _),?_⟩
   simpa [LK.sub] using RelV.nillist
  ·simp at h
 | emptyl ad cap =>
  simp only [vSubSl] at h
  cases ha : bound lo 0 with
  | none => simp [ha] at h
  | some a =>
  cases hb : bound hi ([] : List PV).length with
  | none => simp only [ha,hb] at h; simp at h
  | some b =>
  simp only [ha,hb] at h
  split at h
  ·rename_i hab
   simp only [Option.some.injEq] at h
   subst h
   simp only [List.length_nil] at hb hab
   obtain rfl : b = 0 := by omega
   obtain rfl : a = 0 := by omega
   refine ⟨_,key (some ad) nlo ha hb (Nat.le_refl _) (Nat.le_refl _) (Nat.zero_le _),?_⟩
   have := RelV.emptyl (G := G) ad cap
   simpa [LK.sub,Addr.add] using this
  ·simp at h
 | list k xs B O z cap vs h1 h2 h3 hr hc =>
  simp only [vSubSl] at h
  cases ha : bound lo 0 with
  | none => simp [ha] at h
  | some a =>
  cases hb : bound hi xs.length with
  | none => simp [ha,hb] at h
  | some b =>
  simp only [ha,hb] at h
  split at h
  ·rename_i hab
   obtain ⟨hab,hbl,hsz⟩ := hab
   simp only [Option.some.injEq] at h
   subst h
   refine ⟨_,key (some ⟨B,O,none⟩) nlo ha hb hab hbl h3,?_⟩
   have hlen : ((xs.take b).drop a).length = b - a := by simp; omega
   generalize hk' : k.sub (b == xs.length) = k'
   have hk1 : k' ≠ .nil := by
    cases k with
    | nil => exact absurd rfl h1
    | full => subst hk'; simp only [LK.sub]; split <;> simp
    | part => subst hk'; simp [LK.sub]
   have hk2 : k' = .full → cap - a = b - a ∧ (xs ≠ [] → G.n0 ≤ B) := by
    intro hf
    cases k with
    | nil => exact absurd rfl h1
    | full =>
     rw [hf] at hk'
     simp only [LK.sub] at hk'
     split at hk'
     ·rename_i hbx; rw [(h2 rfl).1]; simp at hbx; exact ⟨by omega,(h2 rfl).2⟩
     ·simp at hk'
    | part => rw [hf] at hk'; simp [LK.sub] at hk'
   have hzz : 0 < xs.length → z = sz := by
    intro h0
    obtain ⟨cs,c1,c2⟩ := head_get hsz xs[0] (by simp)
    rw [← (hc 0 h0).1,← c2]
    exact ((hr 0 _ (List.getElem?_eq_getElem h0)).cells c1).1.symm
   have build : ∀ (O' : Nat),(a < b → O' = O + a * sz) → RelV G (.list k' ((xs.take b).drop a)) (.slice (some ⟨B,O',none⟩) (b - a) (cap - a)) := by
    intro O' hO'
    have := RelV.list (G := G) k' ((xs.take b).drop a) B O' z (cap - a) (fun i => vs (a + i)) hk1 (fun hf => by rw [hlen]; exact ⟨(hk2 hf).1,fun hne => (hk2 hf).2 fun h => hne (by rw [h]; simp)⟩) (by rw [hlen]; omega)
     (fun i x hx => by
      rw [List.getElem?_drop,List.getElem?_take] at hx
      split at hx
      ·exact hr _ _ hx
      ·simp at hx)
     (fun i hi => by
      rw [hlen] at hi
      obtain ⟨q1,q2⟩ := hc (a + i) (by omega)
      refine ⟨q1,fun j v hj => ⟨(q2 j v hj).1,?_⟩⟩
      have hz' := hzz (by omega)
      rw [hO' (by omega),← hz',show O + a * z + i * z + j = O + (a + i) * z + j by rw [Nat.add_mul]; omega]
      exact (q2 j v hj).2)
    rw [hlen] at this
    exact this
   by_cases hcap : cap = a
   ·rw [if_pos hcap]
    exact build O (fun hlt => by omega)
   ·rw [if_neg hcap]
    simp only [Option.map_some,addr_add]
    exact build _ (fun _ => rfl)
  ·simp at h
 | sref b0 g z off len B O n cap hm h1 h3 =>
  simp only [vSubSl] at h
  cases ha : bound lo 0 with
  | none => simp [ha] at h
  | some a =>
  cases hb : bound hi len with
  | none => simp [ha,hb] at h
  | some b =>
  simp only [ha,hb] at h
  split at h
  ·rename_i hab
   obtain ⟨rfl,hab,hbl,hal⟩ := hab
   simp only [Option.some.injEq] at h
   subst h
   refine ⟨_,key (some ⟨B,O + off * z,none⟩) nlo ha hb (by omega) hbl h1,?_⟩
   rw [if_neg (by omega)]
   simp only [Option.map_some,addr_add]
   have := RelV.sref (G := G) b0 g z (off + a) (b - a) B O n (cap - a) hm (by omega) (by rw [show off + a + (cap - a) = off + cap by omega]; exact h3)
   rw [Nat.add_mul,← Nat.add_assoc] at this
   exact this
  ·split at h
   ·rename_i hab
    obtain ⟨rfl,hbl⟩ := hab
    simp only [Option.some.injEq] at h
    subst h
    refine ⟨_,key (some ⟨B,O + off * z,none⟩) nlo ha hb (Nat.le_refl _) hbl h1,?_⟩
    have build : ∀ (O' : Nat),RelV G (.list .part []) (.slice (some ⟨B,O',none⟩) (a - a) (cap - a)) := by
     intro O'
     have := RelV.list (G := G) .part [] B O' 1 (cap - a) (fun _ => undef) (fun h => by cases h) (fun h => by cases h) (by simp) (by simp) (by simp)
     rw [Nat.sub_self]
     exact this
    split
    ·exact build _
    ·simp only [Option.map_some,addr_add]
     exact build _
   ·simp at h
 | _ => simp [vSubSl] at h
theorem len_sound {N : Base} {σ : St} {t ty : TypeId} {k : LenK} {x r : PV} {vx : Value} (hi : Inv G N σ w) (rx : RelV G x vx) (hk : lenTy P t = some k)
  (h : vLen k x σ = some r) : ∃ v,(Builtin.len_ #[t] ty #[vx]).run P w = .ok v w ∧ RelV G r v := by
 unfold lenTy at hk
 split at hk
 ·rename_i hu
  simp only [Option.some.injEq] at hk
  subst hk
  cases rx <;> simp only [vLen,Option.some.injEq,reduceCtorEq] at h
  subst h
  exact ⟨_,by simp [Builtin.len_,run_underlying hu]; rfl,.int _ _⟩
 ·rename_i e hu
  simp only [Option.some.injEq] at hk
  subst hk
  cases rx <;> simp only [vLen,Option.some.injEq,reduceCtorEq] at h <;> subst h <;>
   exact ⟨_,by simp [Builtin.len_,run_underlying hu]; rfl,.int _ _⟩
 ·rename_i ke e hu
  simp only [Option.some.injEq] at hk
  subst hk
  cases rx with
  | nilmap =>
   simp only [vLen,Option.some.injEq] at h
   subst h
   exact ⟨_,by simp [Builtin.len_,run_underlying hu]; rfl,.int _ _⟩
  | mref b B hm =>
   simp only [vLen] at h
   cases hb : σ[b]? with
   | none => simp [hb] at h
   | some blk =>
   cases blk with
   | map v es =>
    simp [hb] at h
    subst h
    obtain ⟨B',ents,clock,hm',hN,hh,hl,_⟩ := hi.blk b _ hb
    rw [hm] at hm'
    simp only [Option.some.injEq,Prod.mk.injEq] at hm'
    obtain ⟨rfl,_⟩ := hm'
    refine ⟨.int .i64 es.length,?_,.int _ _⟩
    simp [Builtin.len_,run_underlying hu,getObj,Sem.run,hh,goInt,hl]
   | _ => simp [hb] at h
  | _ => simp [vLen] at h
 ·simp at hk
end
end Go.Abs
namespace Go.Abs
section
variable {P : Program} {G : Gh} {w : World}
theorem zeroOf_run {P : Program} {t : TypeId} {z : PV} (w : World) (h : zeroOf P t = some z) : ∃ v,(zeroValue t).run P w = .ok v w ∧ ofVal v = z := by
 unfold zeroOf at h
 split at h
 ·rename_i i hi
  split at h
  ·rename_i v hv
   simp only [Option.some.injEq] at h
   exact ⟨v,by simp [zeroValue,typeInfo,hi,hv],h⟩
  ·simp at h
 ·simp at h
theorem eqScalar_kind {t : TypeId} {k : EK1} (h : eqScalar P t = some k) : ∃ d,P.underlying t = some d ∧ ((d = .bool ∧ k = .bool) ∨ (∃ i,d = .int i ∧ k = .int) ∨ (d = .string ∧ k = .str)) := by
 unfold eqScalar at h
 split at h
 ·rename_i hu; simp at h; exact ⟨_,hu,.inl ⟨rfl,h.symm⟩⟩
 ·rename_i i hu; simp at h; exact ⟨_,hu,.inr (.inl ⟨i,rfl,h.symm⟩)⟩
 ·rename_i hu; simp at h; exact ⟨_,hu,.inr (.inr ⟨rfl,h.symm⟩)⟩
 ·cases h
theorem same_sound {d : TypeDesc} {k : EK1} (hd : (d = .bool ∧ k = .bool) ∨ (∃ i,d = .int i ∧ k = .int) ∨ (d = .string ∧ k = .str)) {x y : PV} {vx vy : Value} {b : Bool} (rx : RelV G x vx) (ry : RelV G y vy) (h : vEqS k x y = some b) :
  Instr.sameNow d vx vy = some b := by
 rcases hd with ⟨rfl,rfl⟩ | ⟨i,rfl,rfl⟩ | ⟨rfl,rfl⟩
 ·cases x <;> cases y <;> simp only [vEqS,reduceCtorEq,Option.some.injEq] at h
  subst h
  rw [rx.bool_inv,ry.bool_inv]
  rfl
 ·cases x <;> cases y <;> simp only [vEqS,reduceCtorEq] at h
  rw [rx.int_inv,ry.int_inv]
  exact h
 ·cases x <;> cases y <;> simp only [vEqS,reduceCtorEq,Option.some.injEq] at h
  subst h
  cases rx
  cases ry
  rename_i s s'
  have hbeq : ∀ a b : ByteArray,(a == b) = (a.data.toList == b.data.toList) := by
   intro a b
   obtain ⟨a⟩ := a
   obtain ⟨b⟩ := b
   have h0 : ((⟨a⟩ : ByteArray) == ⟨b⟩) = (a == b) := rfl
   rw [h0]
   obtain ⟨a⟩ := a
   obtain ⟨b⟩ := b
   by_cases hab : a = b
   ·subst hab; simp
   ·simp [hab]
  simp only [Instr.sameNow,Option.some.injEq]
  exact hbeq _ _
theorem find_sound {d : TypeDesc} {k : EK1} (hd : (d = .bool ∧ k = .bool) ∨ (∃ i,d = .int i ∧ k = .int) ∨ (d = .string ∧ k = .str)) {key : PV} {vk : Value} (rk : RelV G key vk) :
  ∀ (es : List (PV × PV)) (ents : List MapEntry) (i : Nat),es.length = ents.length → (∀ (j : Nat) (e : PV × PV) (m : MapEntry),es[j]? = some e → ents[j]? = some m → RelV G e.1 m.key ∧ RelV G e.2 m.val) →
   ∀ r,vFind k key es i = some r → ∃ r',Instr.findNow d vk ents i = some r' ∧ match r,r' with
    | none,none => True
    | some (a,x),some (b,v) => a = b ∧ RelV G x v ∧ i ≤ a ∧ ∃ e m,es[a - i]? = some e ∧ ents[a - i]? = some m ∧ e.2 = x ∧ m.val = v ∧ vEqS k key e.1 = some true
    | _,_ => False
 | [],[],i,hl,hr,r,h => by
  simp only [vFind,Option.some.injEq] at h
  subst h
  exact ⟨none,rfl,trivial⟩
 | [],_ :: _,i,hl,hr,r,h => by simp at hl
 | _ :: _,[],i,hl,hr,r,h => by simp at hl
 | e :: es,m :: ents,i,hl,hr,r,h => by
  obtain ⟨r1,r2⟩ := hr 0 e m rfl rfl
  simp only [vFind] at h
  split at h
  ·rename_i hs
   simp only [Option.some.injEq] at h
   subst h
   refine ⟨some (i,m.val),by simp only [Instr.findNow,same_sound hd rk r1 hs],rfl,r2,Nat.le_refl _,e,m,by simp,by simp,rfl,rfl,hs⟩
  ·rename_i hs
   obtain ⟨r',h1,h2⟩ := find_sound hd rk es ents (i + 1) (by simpa using hl) (fun j e m he hm => hr (j + 1) e m (by simpa using he) (by simpa using hm)) r h
   refine ⟨r',by simp only [Instr.findNow,same_sound hd rk r1 hs,h1],?_⟩
   cases r with
   | none => cases r' with
    | none => trivial
    | some q => exact h2.elim
   | some p => cases r' with
    | none => exact h2.elim
    | some q =>
     obtain ⟨h3,h4,h5,e',m',h6,h7,h8⟩ := h2
     refine ⟨h3,h4,by omega,e',m',?_,?_,h8⟩
     ·rw [show p.1 - i = (p.1 - (i + 1)) + 1 by omega]; simpa using h6
     ·rw [show p.1 - i = (p.1 - (i + 1)) + 1 by omega]; simpa using h7
  ·cases h
theorem checkKey_run {t : TypeId} {d : TypeDesc} {k : EK1} (hu : P.underlying t = some d) (hd : (d = .bool ∧ k = .bool) ∨ (∃ i,d = .int i ∧ k = .int) ∨ (d = .string ∧ k = .str)) (empty : Bool) (v : Value) :
  (Instr.checkKey empty 10000 t v).run P w = .ok () w := by
 show (Instr.checkKey empty (9999 + 1) t v).run P w = _
 rw [Instr.checkKey,Sem.run_bind,run_underlying hu]
 rcases hd with ⟨rfl,rfl⟩ | ⟨i,rfl,rfl⟩ | ⟨rfl,rfl⟩ <;> rfl
theorem lookup_sound {N : Base} {σ : St} {t kt et : TypeId} {k : EK1} {z m key r : PV} {vm vk : Value} {ok : Bool} (hi : Inv G N σ w) (ht : mapOf? P t = some (kt,et)) (hk : eqScalar P kt = some k) (hz : zeroOf P et = some z)
  (rm : RelV G m vm) (rk : RelV G key vk) (h : vLookup k z ok m key σ = some r) : ∃ v,(Instr.lookup t vm vk ok).run P w = .ok v w ∧ RelV G r v := by
 obtain ⟨d,hu,hd⟩ := eqScalar_kind hk
 have htu : P.underlying t = some (.map kt et) := by
  unfold mapOf? at ht
  split at ht
  ·rename_i hh; simp at ht; obtain ⟨rfl,rfl⟩ := ht; exact hh
  ·cases ht
 obtain ⟨zv,hzv,hzr⟩ := zeroOf_run (P := P) w hz
 have rz : RelV G z zv := hzr ▸ rel_ofVal G zv
 have pair : ∀ {x : PV} {v : Value} (b : Bool),RelV G x v → RelV G (if ok then .tuple [x,.bool b] else x) (if ok then .tuple #[v,.bool b] else v) := by
  intro x v b rx
  cases ok with
  | false => exact rx
  | true =>
   refine .tuple _ _ rfl fun i y u hy hu => ?_
   match i with
   | 0 => simp at hy hu; subst hy; subst hu; exact rx
   | 1 => simp at hy hu; subst hy; subst hu; exact .bool b
   | i + 2 => simp at hy
 cases m with
 | nilmap =>
  cases rm
  simp only [vLookup] at h
  split at h
  ·simp only [Option.some.injEq] at h
   subst h
   refine ⟨_,?_,pair false rz⟩
   simp only [Instr.lookup,Sem.run_bind,run_underlying htu,Result.andThen_ok,Sem.run_pure,checkKey_run hu hd,Instr.findKey,run_underlying hu,Instr.findNow,hzv]
  ·cases h
 | mref b =>
  cases rm with | mref _ B hm =>
  simp only [vLookup] at h
  cases hb : σ[b]? with
  | none => simp [hb] at h
  | some blk =>
   rw [hb] at h
   cases blk with
   | map v es =>
    simp only at h
    split at h
    ·obtain ⟨B',ents,clock,hm',hN,hh,hl,hent,_⟩ := hi.blk b _ hb
     rw [hm] at hm'
     simp only [Option.some.injEq,Prod.mk.injEq] at hm'
     obtain ⟨rfl,_⟩ := hm'
     cases hf : vFind k key es 0 with
     | none => simp [hf] at h
     | some q =>
      obtain ⟨q',h1,h2⟩ := find_sound hd rk es ents.toList 0 (by simp [hl]) (fun j e m he hm => hent j e m he (by simpa using hm)) q hf
      rw [hf] at h
      have hobj : (getObj B).run P w = .ok (.map ents clock) w := by simp [getObj,Sem.run,hh]
      cases q with
      | none => cases q' with
       | some _ => exact h2.elim
       | none =>
        simp only [Option.some.injEq] at h
        subst h
        refine ⟨_,?_,pair false rz⟩
        simp only [Instr.lookup,Sem.run_bind,run_underlying htu,hobj,Result.andThen_ok,Sem.run_pure,checkKey_run hu hd,Instr.findKey,run_underlying hu,h1,hzv]
      | some p => cases q' with
       | none => exact h2.elim
       | some p' =>
        obtain ⟨_,h4,_⟩ := h2
        simp only [Option.some.injEq] at h
        subst h
        refine ⟨_,?_,pair true h4⟩
        simp only [Instr.lookup,Sem.run_bind,run_underlying htu,hobj,Result.andThen_ok,Sem.run_pure,checkKey_run hu hd,Instr.findKey,run_underlying hu,h1,hzv]
    ·cases h
   | _ => simp at h
 | _ => simp [vLookup] at h
theorem assert_sound {t t0 : TypeId} {z x r : PV} {vx : Value} {ok : Bool} (hn : noIface P t = true) (hz : zeroOf P t = some z) (rx : RelV G x vx) (h : vAssert t z ok x = some r) :
  ∃ v,(Instr.typeAssert vx t0 t ok).run P w = .ok v w ∧ RelV G r v := by
 obtain ⟨zv,hzv,hzr⟩ := zeroOf_run (P := P) w hz
 have rz : RelV G z zv := hzr ▸ rel_ofVal G zv
 have tup : ∀ {x : PV} {v : Value} (b : Bool),RelV G x v → RelV G (.tuple [x,.bool b]) (.tuple #[v,.bool b]) := by
  intro x v b rx
  refine .tuple _ _ rfl fun i y u hy hu => ?_
  match i with
  | 0 => simp at hy hu; subst hy; subst hu; exact rx
  | 1 => simp at hy hu; subst hy; subst hu; exact .bool b
  | i + 2 => simp at hy
 unfold noIface at hn
 cases hu : P.underlying t with
 | none => simp [hu] at hn
 | some d =>
  rw [hu] at hn
  cases x with
  | iface t' p =>
   cases rx with | iface _ _ v rv =>
   simp only [vAssert] at h
   split at h
   ·rename_i ht
    subst ht
    simp only [Option.some.injEq] at h
    subst h
    cases ok with
    | true => exact ⟨.tuple #[v,.bool true],by cases d <;> first | (simp at hn; done) | simp [Instr.typeAssert,run_underlying hu],tup true rv⟩
    | false => exact ⟨v,by cases d <;> first | (simp at hn; done) | simp [Instr.typeAssert,run_underlying hu],rv⟩
   ·rename_i ht
    split at h
    ·rename_i hok
     subst hok
     simp only [Option.some.injEq] at h
     subst h
     exact ⟨.tuple #[zv,.bool false],by cases d <;> first | (simp at hn; done) | simp [Instr.typeAssert,run_underlying hu,ht,hzv],tup false rz⟩
    ·cases h
  | nilIface =>
   cases rx
   simp only [vAssert] at h
   split at h
   ·rename_i hok
    subst hok
    simp only [Option.some.injEq] at h
    subst h
    exact ⟨.tuple #[zv,.bool false],by cases d <;> first | (simp at hn; done) | simp [Instr.typeAssert,run_underlying hu,hzv],tup false rz⟩
   ·cases h
  | _ => simp [vAssert] at h
theorem pushG_sound {G' : Gh} {N : Base} {σ : St} {ob : Obj} {k0 : Blk} (hi : Inv G N σ w) (le : G.le G') (hI : G'.I = G.I) (hoth : ∀ c h,c ≠ σ.length → G'.μ c h = G.μ c h) (hothH : ∀ c h,c ≠ σ.length → G'.H c h = G.H c h)
  (hbn : baseOf G' σ.length k0 = some w.heap.size) (hblk : BlkRel G' N (World.more w ob) σ.length k0)
  (hga : ∀ g z xs,k0 = .arr g z xs → ∀ g',g < g' → G'.μ σ.length g' = none) (hgm : ∀ v es,k0 = .map v es → ∀ v',v < v' → G'.H σ.length v' = none) :
  Inv G' N (σ ++ [k0]) (World.more w ob) ∧ Ext G σ w G' (σ ++ [k0]) (World.more w ob) := by
 have hget : ∀ c k,(σ ++ [k0])[c]? = some k → (σ[c]? = some k) ∨ (c = σ.length ∧ k = k0) := by
  intro c k h
  rw [List.getElem?_append] at h
  split at h
  ·exact .inl h
  ·rename_i hc
   have hc0 : c - σ.length = 0 := by
    have := (List.getElem?_eq_some_iff.1 h).1
    simp at this
    omega
   rw [hc0] at h
   simp at h
   exact .inr ⟨by omega,h.symm⟩
 have hown : ∀ B,ownB G' (σ ++ [k0]) B → ownB G σ B ∨ B = w.heap.size := by
  rintro B ⟨c,k,hk,hB⟩
  rcases hget c k hk with h1 | ⟨rfl,rfl⟩
  ·rw [baseOf_mono le (hi.blk c k h1)] at hB
   exact .inl ⟨c,k,h1,hB⟩
  ·rw [hbn] at hB
   exact .inr (Option.some.inj hB).symm
 have hlt : ∀ {c k},σ[c]? = some k → c ≠ σ.length := fun h => by have := (List.getElem?_eq_some_iff.1 h).1; omega
 refine ⟨⟨?_,?_,?_,?_,?_,?_,?_,?_,?_,fun k hk => (more_heap_lt _ _ _ (by have := hi.big; omega)).trans (hi.old k hk),hi.bas.trans le⟩,⟨le,rfl,rfl,rfl,by rw [more_size]; omega,fun k hk _ _ => more_heap_lt _ _ _ hk,fun B hB => ?_,fun _ _ _ hv => .inl (by rw [hI] at hv; exact hv),by simp⟩⟩
 ·intro B o v hv
  rw [hI] at hv
  exact cell_more (hi.imm B o v hv)
 ·intro b g y hy
  by_cases hb : b = σ.length
  ·subst hb; simp
  ·rw [hoth b g hb] at hy
   have := hi.dom b g y hy; simp; omega
 ·intro c k hk
  rcases hget c k hk with h1 | ⟨rfl,rfl⟩
  ·exact (hi.blk c k h1).step le fun B hB => more_heap_lt _ _ _ (hi.lt_of_own ⟨c,k,h1,hB⟩).1
  ·exact hblk
 ·intro b b' k k' B hk hk' hB hB'
  rcases hget b k hk with h1 | ⟨rfl,rfl⟩
  ·rw [baseOf_mono le (hi.blk b k h1)] at hB
   rcases hget b' k' hk' with h2 | ⟨rfl,rfl⟩
   ·rw [baseOf_mono le (hi.blk b' k' h2)] at hB'
    exact hi.inj b b' k k' B h1 h2 hB hB'
   ·rw [hbn] at hB'
    have := (hi.lt_of_own ⟨b,k,h1,hB⟩).1
    simp at hB'
    omega
  ·rw [hbn] at hB
   rcases hget b' k' hk' with h2 | ⟨rfl,rfl⟩
   ·rw [baseOf_mono le (hi.blk b' k' h2)] at hB'
    have := (hi.lt_of_own ⟨b',k',h2,hB'⟩).1
    simp at hB
    omega
   ·rfl
 ·intro B o ho
  rw [hI]
  rcases hown B ho with h1 | rfl
  ·exact hi.sep B o h1
  ·cases h : G.I w.heap.size o with
   | none => rfl
   | some v =>
    have := hi.imm _ _ _ h
    simp [World.cell?] at this
 ·rw [more_size]; have := hi.big; omega
 ·intro b g z' xs' hk g' hg
  rcases hget b _ hk with h1 | ⟨rfl,h2⟩
  ·rw [hoth b g' (hlt h1)]; exact hi.gen b g z' xs' h1 g' hg
  ·exact hga g z' xs' h2.symm g' hg
 ·intro b n y hy
  by_cases hb : b = σ.length
  ·subst hb; simp
  ·rw [hothH b n hb] at hy
   have := hi.domH b n y hy; simp; omega
 ·intro b v es hk v' hg
  rcases hget b _ hk with h1 | ⟨rfl,h2⟩
  ·rw [hothH b v' (hlt h1)]; exact hi.genH b v es h1 v' hg
  ·exact hgm v es h2.symm v' hg
 ·rcases hown B hB with h1 | rfl
  ·exact .inl h1
  ·exact .inr (Nat.le_refl _)
def Gh.newH (G : Gh) (b n : Nat) (y : Array MapEntry × Nat) : Gh := { G with H := fun c h => if c = b ∧ h = n then some y else G.H c h }
theorem makeMap_sound {N : Base} {σ : St} {t : TypeId} (hi : Inv G N σ w) :
  ∃ v w' G',(Instr.makeMap t none).run P w = .ok v w' ∧ Inv G' N (σ ++ [.map 0 []]) w' ∧ Ext G σ w G' (σ ++ [.map 0 []]) w' ∧ RelV G' (.mref σ.length) v := by
 have hnone : G.μ σ.length 0 = none := by
  cases h : G.μ σ.length 0 with
  | none => rfl
  | some y => exact absurd (hi.dom _ _ _ h) (by omega)
 have hnoneH : ∀ n,G.H σ.length n = none := by
  intro n
  cases h : G.H σ.length n with
  | none => rfl
  | some y => exact absurd (hi.domH _ _ _ h) (by omega)
 have hat : ((G.newAt σ.length 0 (w.heap.size,0,0,0)).newH σ.length 0 (#[],0)).μ σ.length 0 = some (w.heap.size,0,0,0) := Gh.newAt_at _ _ _ _
 obtain ⟨p1,p2⟩ := pushG_sound (G' := (G.newAt σ.length 0 (w.heap.size,0,0,0)).newH σ.length 0 (#[],0)) (ob := .map #[] 0) (k0 := .map 0 []) hi
  ⟨(Gh.newAt_le (y := (w.heap.size,0,0,0)) hnone).imm,(Gh.newAt_le (y := (w.heap.size,0,0,0)) hnone).at_,fun b n x h => by
   simp only [Gh.newH]
   split
   ·rename_i hc; obtain ⟨rfl,rfl⟩ := hc; rw [hnoneH] at h; cases h
   ·exact h,rfl⟩ rfl (fun c h hc => by simp [Gh.newH,Gh.newAt,hc]) (fun c h hc => by simp [Gh.newH,Gh.newAt,hc])
  (by simp [baseOf,hat])
  ⟨w.heap.size,#[],0,hat,hi.big,by rw [more_heap,if_pos rfl],rfl,fun i e m he hm => by simp at he,by simp [Gh.newH],⟨fun i m hm => by simp at hm,fun i j m m' hm => by simp at hm⟩⟩
  (fun g z xs h => by cases h) (fun v es h v' hv => by
   cases h
   simp only [Gh.newH]
   rw [if_neg (by omega)]
   exact hnoneH v')
 exact ⟨.map (some w.heap.size),_,_,rfl,p1,p2,.mref _ _ hat⟩
theorem chgG_sound {G' : Gh} {N : Base} {σ : St} {w' : World} {b B : Nat} {k0 k1 : Blk} (hi : Inv G N σ w) (hb : σ[b]? = some k0) (hB : baseOf G b k0 = some B)
  (le : G.le G') (hI : G'.I = G.I) (hμ : G'.μ = G.μ) (hothH : ∀ c h,c ≠ b → G'.H c h = G.H c h)
  (hbn : baseOf G' b k1 = some B) (hheap : ∀ k,k ≠ B → w'.heap[k]? = w.heap[k]?) (hos : w'.os = w.os) (htape : w'.tape = w.tape) (hout : w'.output = w.output) (hsz : w'.heap.size = w.heap.size)
  (hblk : BlkRel G' N w' b k1) (hna : ∀ g z xs,k1 ≠ .arr g z xs) (hgm : ∀ v es,k1 = .map v es → ∀ v',v < v' → G'.H b v' = none) :
  Inv G' N (σ.set b k1) w' ∧ Ext G σ w G' (σ.set b k1) w' := by
 have hbl : b < σ.length := (List.getElem?_eq_some_iff.1 hb).1
 have hget : ∀ c k,(σ.set b k1)[c]? = some k → (c ≠ b ∧ σ[c]? = some k) ∨ (c = b ∧ k = k1) := by
  intro c k hk
  rw [List.getElem?_set] at hk
  split at hk
  ·rename_i hc
   subst hc
   simp [hbl] at hk
   exact .inr ⟨rfl,hk.symm⟩
  ·rename_i hc
   exact .inl ⟨fun e => hc e.symm,hk⟩
 have hown : ∀ C,ownB G' (σ.set b k1) C → ownB G σ C := by
  rintro C ⟨c,k,hk,hC⟩
  rcases hget c k hk with ⟨h1,h2⟩ | ⟨rfl,rfl⟩
  ·rw [baseOf_mono le (hi.blk c k h2)] at hC
   exact ⟨c,k,h2,hC⟩
  ·rw [hbn] at hC
   cases hC
   exact ⟨c,k0,hb,hB⟩
 have hheap2 : ∀ C,¬ ownB G σ C → w'.heap[C]? = w.heap[C]? := by
  intro C hno
  apply hheap C
  rintro rfl
  exact hno ⟨b,_,hb,hB⟩
 refine ⟨⟨?_,?_,?_,?_,?_,?_,?_,?_,?_,fun k hk => (hheap2 k (fun ho => by have := (hi.lt_of_own ho).2; omega)).trans (hi.old k hk),hi.bas.trans le⟩,⟨le,hos,htape,hout,by omega,fun k _ hn _ => hheap2 k hn,fun C hC => .inl (hown C hC),fun C o v hv => .inl (by rw [hI] at hv; exact hv),by simp⟩⟩
 ·intro C o v hv
  rw [hI] at hv
  have hno : ¬ ownB G σ C := fun ho => by rw [hi.sep C o ho] at hv; simp at hv
  rw [cell_of_heap_eq (hheap2 C hno)]
  exact hi.imm C o v hv
 ·intro c h y hy
  rw [List.length_set]
  rw [hμ] at hy
  exact hi.dom c h y hy
 ·intro c k hk
  rcases hget c k hk with ⟨h1,h2⟩ | ⟨rfl,rfl⟩
  ·refine (hi.blk c k h2).step le fun C hC => hheap C ?_
   rintro rfl
   exact h1 (hi.inj c b _ _ C h2 hb hC hB)
  ·exact hblk
 ·intro c c' k k' C hk hk' hC hC'
  rcases hget c k hk with ⟨h1,h2⟩ | ⟨rfl,rfl⟩
  ·rw [baseOf_mono le (hi.blk c k h2)] at hC
   rcases hget c' k' hk' with ⟨h3,h4⟩ | ⟨rfl,rfl⟩
   ·rw [baseOf_mono le (hi.blk c' k' h4)] at hC'
    exact hi.inj c c' _ _ C h2 h4 hC hC'
   ·rw [hbn] at hC'
    cases hC'
    exact hi.inj c _ _ _ _ h2 hb hC hB
  ·rw [hbn] at hC
   cases hC
   rcases hget c' k' hk' with ⟨h3,h4⟩ | ⟨rfl,rfl⟩
   ·rw [baseOf_mono le (hi.blk c' k' h4)] at hC'
    exact hi.inj _ c' _ _ _ hb h4 hB hC'
   ·rfl
 ·intro C o ho
  rw [hI]
  exact hi.sep C o (hown C ho)
 ·rw [hsz]; exact hi.big
 ·intro c h z'' xs'' hk h' hlt
  rcases hget c _ hk with ⟨h1,h2⟩ | ⟨rfl,h2⟩
  ·rw [hμ]; exact hi.gen c h z'' xs'' h2 h' hlt
  ·exact absurd h2.symm (hna _ _ _)
 ·intro c v y hy
  rw [List.length_set]
  by_cases hc : c = b
  ·subst hc; exact hbl
  ·rw [hothH c v hc] at hy; exact hi.domH c v y hy
 ·intro c v es hk v' hlt
  rcases hget c _ hk with ⟨h1,h2⟩ | ⟨rfl,h2⟩
  ·rw [hothH c _ h1]; exact hi.genH c v es h2 v' hlt
  ·exact hgm v es h2.symm v' hlt
def World.put (w : World) (B : Nat) (o : Obj) : World := { w with heap := w.heap.setIfInBounds B o }
theorem put_heap {w : World} {B : Nat} {o o' : Obj} (h : w.heap[B]? = some o') : (World.put w B o).heap[B]? = some o := by
 have := (Array.getElem?_eq_some_iff.1 h).1
 simp [World.put,this]
theorem put_heap_ne {w : World} {B k : Nat} {o : Obj} (h : k ≠ B) : (World.put w B o).heap[k]? = w.heap[k]? := by
 simp [World.put,Array.getElem?_setIfInBounds_ne (Ne.symm h)]
theorem keys_same {d : TypeDesc} {k : EK1} (hd : (d = .bool ∧ k = .bool) ∨ (∃ i,d = .int i ∧ k = .int) ∨ (d = .string ∧ k = .str)) {x y : PV} {vx vy : Value} (rx : RelV G x vx) (ry : RelV G y vy) (h : vEqS k x y = some true) :
  Instr.sameBits 10000 vy vx = true := by
 cases k <;> cases x <;> cases y <;> simp only [vEqS,reduceCtorEq,Option.some.injEq] at h
 ·rw [rx.bool_inv,ry.bool_inv]
  simp only [beq_iff_eq] at h
  subst h
  show (_ == _) = true
  simp
 ·split at h
  ·rename_i hk
   subst hk
   simp only [Option.some.injEq,beq_iff_eq] at h
   subst h
   rw [rx.int_inv,ry.int_inv]
   show (_ == _ && _ == _) = true
   simp
  ·cases h
 ·simp only [beq_iff_eq] at h
  cases rx
  cases ry
  rename_i s s'
  obtain ⟨⟨s⟩⟩ := s
  obtain ⟨⟨s'⟩⟩ := s'
  simp only at h
  subst h
  show ((⟨⟨s⟩⟩ : ByteArray) == ⟨⟨s⟩⟩) = true
  show ((⟨s⟩ : Array UInt8) == ⟨s⟩) = true
  simp
theorem mapOf_some {t kt et : TypeId} (ht : mapOf? P t = some (kt,et)) : P.underlying t = some (.map kt et) := by
 unfold mapOf? at ht
 split at ht
 ·rename_i hh; simp at ht; obtain ⟨rfl,rfl⟩ := ht; exact hh
 ·cases ht
theorem setMap_sound {N : Base} {σ : St} {b n : Nat} {es es' : List (PV × PV)} {B : Nat} {ents ents' : Array MapEntry} {clock clock' : Nat} (hi : Inv G N σ w) (hb : σ[b]? = some (.map n es)) (hm : G.μ b 0 = some (B,0,0,0)) (hN : N.n ≤ B)
  (hh : w.heap[B]? = some (.map ents clock)) (hl : ents'.size = es'.length) (hr : ∀ (i : Nat) (e : PV × PV) (m : MapEntry),es'[i]? = some e → ents'[i]? = some m → RelV G e.1 m.key ∧ RelV G e.2 m.val) (hok : EntsOk ents' clock') :
  (setObj B (.map ents' clock')).run P w = .ok () (World.put w B (.map ents' clock')) ∧
  Inv (G.newH b (n + 1) (ents',clock')) N (σ.set b (.map (n + 1) es')) (World.put w B (.map ents' clock')) ∧ Ext G σ w (G.newH b (n + 1) (ents',clock')) (σ.set b (.map (n + 1) es')) (World.put w B (.map ents' clock')) := by
 have le : G.le (G.newH b (n + 1) (ents',clock')) := by
  refine ⟨fun _ _ _ h => h,fun _ _ _ h => h,fun c v x h => ?_,rfl⟩
  simp only [Gh.newH]
  split
  ·rename_i hc
   obtain ⟨rfl,rfl⟩ := hc
   rw [hi.genH _ _ _ hb (n + 1) (by omega)] at h
   cases h
  ·exact h
 refine ⟨by simp [setObj,Sem.run,hh,World.put],?_⟩
 refine chgG_sound (B := B) (k0 := .map n es) hi hb (by simp [baseOf,hm]) le rfl rfl (fun c h hc => by simp [Gh.newH,hc]) (by simp [baseOf,Gh.newH,hm]) (fun k hk => put_heap_ne hk) rfl rfl rfl (by simp [World.put]) ?_ (fun _ _ _ h => by cases h) (fun v es h v' hv => ?_)
 ·exact ⟨B,ents',clock',hm,hN,put_heap hh,hl,fun i e m he hm => ⟨(hr i e m he hm).1.mono le,(hr i e m he hm).2.mono le⟩,by simp [Gh.newH],hok⟩
 ·cases h
  simp only [Gh.newH]
  rw [if_neg (by omega)]
  exact hi.genH _ _ _ hb v' (by omega)
theorem mapUpdate_sound {N : Base} {σ σ' : St} {t kt et : TypeId} {k : EK1} {m key x : PV} {vm vk v : Value} (hi : Inv G N σ w) (ht : mapOf? P t = some (kt,et)) (hk : eqScalar P kt = some k)
  (rm : RelV G m vm) (rk : RelV G key vk) (rx : RelV G x v) (h : vMapSet k m key x σ = some σ') :
  ∃ w' G',(Instr.mapUpdate t vm vk v).run P w = .ok () w' ∧ Inv G' N σ' w' ∧ Ext G σ w G' σ' w' := by
 obtain ⟨d,hu,hd⟩ := eqScalar_kind hk
 have htu := mapOf_some ht
 cases m with
 | mref b =>
  cases rm with | mref _ B hm =>
  simp only [vMapSet] at h
  cases hb : σ[b]? with
  | none => simp [hb] at h
  | some blk =>
   rw [hb] at h
   cases blk with
   | map n es =>
    simp only at h
    split at h
    ·obtain ⟨B',ents,clock,hm',hN,hh,hl,hent,hH,hok⟩ := hi.blk b _ hb
     rw [hm] at hm'
     simp only [Option.some.injEq,Prod.mk.injEq] at hm'
     obtain ⟨rfl,_⟩ := hm'
     cases hf : vFind k key es 0 with
     | none => simp [hf] at h
     | some q =>
      obtain ⟨q',h1,h2⟩ := find_sound hd rk es ents.toList 0 (by simp [hl]) (fun j e m he hm => hent j e m he (by simpa using hm)) q hf
      rw [hf] at h
      have hobj : (getObj B).run P w = .ok (.map ents clock) w := by simp [getObj,Sem.run,hh]
      cases q with
      | none => cases q' with
       | some _ => exact h2.elim
       | none =>
        simp only [Option.some.injEq] at h
        subst h
        obtain ⟨q1,q2,q3⟩ := setMap_sound (P := P) (es' := es ++ [(key,x)]) (ents' := ents.push { key := vk,val := v,born := clock }) (clock' := clock + 1) hi hb hm hN hh (by simp [hl]) (fun i e m he hm => by
         rw [Array.getElem?_push] at hm
         rw [List.getElem?_append] at he
         split at hm
         ·rename_i hi'
          subst hi'
          rw [if_neg (by omega),hl,Nat.sub_self] at he
          simp at he hm
          subst he
          subst hm
          exact ⟨rk,rx⟩
         ·rename_i hi'
          have : i < ents.size := (Array.getElem?_eq_some_iff.1 hm).1
          rw [if_pos (by omega)] at he
          exact hent i e m he hm) ⟨fun i m hm => by
         rw [Array.getElem?_push] at hm
         split at hm
         ·simp at hm; subst hm; simp
         ·have := hok.1 i m hm; omega,fun i j m m' hm hm' hb => by
         rw [Array.getElem?_push] at hm hm'
         split at hm <;> split at hm'
         ·omega
         ·simp at hm; subst hm
          have := hok.1 j m' hm'
          simp at hb; omega
         ·simp at hm'; subst hm'
          have := hok.1 i m hm
          simp at hb; omega
         ·exact hok.2 i j m m' hm hm' hb⟩
        refine ⟨_,_,?_,q2,q3⟩
        simp only [Instr.mapUpdate,Sem.run_bind,run_underlying htu,hobj,Result.andThen_ok,Sem.run_pure,checkKey_run hu hd,Instr.findKey,run_underlying hu,h1,q1]
      | some p => cases q' with
       | none => exact h2.elim
       | some p' =>
        obtain ⟨h3,h4,_,e0,m0,h5,h6,h7,h8,h9⟩ := h2
        simp only [Option.some.injEq] at h
        subst h
        simp only [Nat.sub_zero,Array.getElem?_toList] at h5 h6
        have hpl : p.1 < ents.size := (Array.getElem?_eq_some_iff.1 h6).1
        obtain ⟨q1,q2,q3⟩ := setMap_sound (P := P) (es' := es.set p.1 (key,x)) (ents' := ents.modify p.1 fun e => { e with key := vk,val := v }) (clock' := clock) hi hb hm hN hh (by simp [hl]) (fun i e m he hm => by
         rw [Array.getElem?_modify] at hm
         rw [List.getElem?_set] at he
         split at hm
         ·rename_i hi'
          subst hi'
          rw [if_pos rfl,if_pos (by omega)] at he
          rw [h6] at hm
          simp at he hm
          subst he
          subst hm
          exact ⟨rk,rx⟩
         ·rename_i hi'
          rw [if_neg hi'] at he
          exact hent i e m he hm) ⟨fun i m hm => by
         rw [Array.getElem?_modify] at hm
         split at hm
         ·rename_i hi'
          subst hi'
          rw [h6] at hm
          simp at hm
          subst hm
          have hb6 := hok.1 _ _ h6
          exact hb6
         ·exact hok.1 i m hm,fun i j m m' hm hm' hb => by
         have born : ∀ (i : Nat) (m : MapEntry),(ents.modify p.1 fun e => { e with key := vk,val := v })[i]? = some m → ∃ m1,ents[i]? = some m1 ∧ m1.born = m.born := by
          intro i m hm
          rw [Array.getElem?_modify] at hm
          split at hm
          ·rename_i hi'
           subst hi'
           rw [h6] at hm
           simp at hm
           subst hm
           exact ⟨_,h6,rfl⟩
          ·exact ⟨m,hm,rfl⟩
         obtain ⟨m1,a1,a2⟩ := born i m hm
         obtain ⟨m2,a3,a4⟩ := born j m' hm'
         exact hok.2 i j m1 m2 a1 a3 (by rw [a2,a4]; exact hb)⟩
        refine ⟨_,_,?_,q2,q3⟩
        have hsame : Instr.sameBits 10000 m0.key vk = true := keys_same hd rk (hent p.1 e0 m0 h5 h6).1 h9
        have hp' : ents[p'.1]? = some m0 := by rw [← h3]; exact h6
        simp only [Instr.mapUpdate,Sem.run_bind,run_underlying htu,hobj,Result.andThen_ok,Sem.run_pure,checkKey_run hu hd,Instr.findKey,run_underlying hu,h1,Instr.keyThatStays,hp',Option.map_some,Option.getD_some,hsame,if_true]
        rw [← h3]
        exact q1
    ·cases h
   | _ => simp at h
 | _ => simp [vMapSet] at h
theorem delete_sound {N : Base} {σ σ' : St} {t t2 ty kt et : TypeId} {k : EK1} {m key : PV} {vm vk : Value} (hi : Inv G N σ w) (ht : mapOf? P t = some (kt,et)) (hk : eqScalar P kt = some k)
  (rm : RelV G m vm) (rk : RelV G key vk) (h : vMapDel k m key σ = some σ') :
  ∃ w' G',(Builtin.delete_ #[t,t2] ty #[vm,vk]).run P w = .ok (.tuple #[]) w' ∧ Inv G' N σ' w' ∧ Ext G σ w G' σ' w' := by
 obtain ⟨d,hu,hd⟩ := eqScalar_kind hk
 have htu := mapOf_some ht
 cases m with
 | mref b =>
  cases rm with | mref _ B hm =>
  simp only [vMapDel] at h
  cases hb : σ[b]? with
  | none => simp [hb] at h
  | some blk =>
   rw [hb] at h
   cases blk with
   | map n es =>
    simp only at h
    split at h
    ·obtain ⟨B',ents,clock,hm',hN,hh,hl,hent,hH,hok⟩ := hi.blk b _ hb
     rw [hm] at hm'
     simp only [Option.some.injEq,Prod.mk.injEq] at hm'
     obtain ⟨rfl,_⟩ := hm'
     cases hf : vFind k key es 0 with
     | none => simp [hf] at h
     | some q =>
      obtain ⟨q',h1,h2⟩ := find_sound hd rk es ents.toList 0 (by simp [hl]) (fun j e m he hm => hent j e m he (by simpa using hm)) q hf
      rw [hf] at h
      have hobj : (getObj B).run P w = .ok (.map ents clock) w := by simp [getObj,Sem.run,hh]
      cases q with
      | none => cases q' with
       | some _ => exact h2.elim
       | none =>
        simp only [Option.some.injEq] at h
        subst h
        obtain ⟨q1,q2,q3⟩ := setMap_sound (P := P) (es' := es) (ents' := ents) (clock' := clock) hi hb hm hN hh hl hent hok
        refine ⟨_,_,?_,q2,q3⟩
        simp only [Builtin.delete_,List.getElem?_toArray,List.getElem?_cons_zero,List.getElem?_cons_succ,Sem.run_bind,run_underlying htu,hobj,Result.andThen_ok,Sem.run_pure,checkKey_run hu hd,Instr.findKey,run_underlying hu,h1,q1]
      | some p => cases q' with
       | none => exact h2.elim
       | some p' =>
        obtain ⟨h3,h4,_,e0,m0,h5,h6,h7,h8,h9⟩ := h2
        simp only [Option.some.injEq] at h
        subst h
        simp only [Nat.sub_zero,Array.getElem?_toList] at h5 h6
        have hpl : p.1 < ents.size := (Array.getElem?_eq_some_iff.1 h6).1
        have hget : ∀ j : Nat,(ents.eraseIdxIfInBounds p.1)[j]? = if j < p.1 then ents[j]? else ents[j + 1]? := by
         intro j
         rw [← Array.getElem?_toList,Array.toList_eraseIdxIfInBounds,List.getElem?_eraseIdx]
         split <;> simp
        obtain ⟨q1,q2,q3⟩ := setMap_sound (P := P) (es' := es.eraseIdx p.1) (ents' := ents.eraseIdxIfInBounds p.1) (clock' := clock) hi hb hm hN hh
         (by rw [← Array.length_toList,Array.toList_eraseIdxIfInBounds,List.length_eraseIdx,List.length_eraseIdx]; simp [hl]) (fun i e m he hm => by
          rw [hget] at hm
          rw [List.getElem?_eraseIdx] at he
          split at hm
          ·rename_i hlt
           rw [if_pos hlt] at he
           exact hent i e m he hm
          ·rename_i hlt
           rw [if_neg hlt] at he
           exact hent (i + 1) e m he hm) ⟨fun i m hm => by
          rw [hget] at hm
          split at hm
          ·exact hok.1 i m hm
          ·exact hok.1 (i + 1) m hm,fun i j m m' hm hm' hb => by
          rw [hget] at hm hm'
          split at hm <;> split at hm'
          ·exact hok.2 i j m m' hm hm' hb
          ·have := hok.2 i (j + 1) m m' hm hm' hb; omega
          ·have := hok.2 (i + 1) j m m' hm hm' hb; omega
          ·have := hok.2 (i + 1) (j + 1) m m' hm hm' hb; omega⟩
        refine ⟨_,_,?_,q2,q3⟩
        simp only [Builtin.delete_,List.getElem?_toArray,List.getElem?_cons_zero,List.getElem?_cons_succ,Sem.run_bind,run_underlying htu,hobj,Result.andThen_ok,Sem.run_pure,checkKey_run hu hd,Instr.findKey,run_underlying hu,h1]
        rw [← h3,q1]
        rfl
    ·cases h
   | _ => simp at h
 | _ => simp [vMapDel] at h
theorem newIter_sound {N : Base} {σ : St} {mr : Option Nat} {since stepped : Nat} {seen : Array Nat} {m : Option (Nat × Nat)} {last : Option Nat} {left : List Nat} (hi : Inv G N σ w)
  (hr : match m with
   | none => mr = none
   | some k => ∃ MB ents clock,G.μ k.1 0 = some (MB,0,0,0) ∧ mr = some MB ∧ G.H k.1 k.2 = some (ents,clock) ∧ IterOk ents clock since seen stepped last left) :
  ∃ G',Inv G' N (σ ++ [.iter m last left]) (World.more w (.mapIter mr since seen stepped)) ∧ Ext G σ w G' (σ ++ [.iter m last left]) (World.more w (.mapIter mr since seen stepped)) ∧ RelV G' (.ptr σ.length 0 0 0) (.pointer (some ⟨w.heap.size,0,none⟩)) := by
 have hnone : G.μ σ.length 0 = none := by
  cases h : G.μ σ.length 0 with
  | none => rfl
  | some y => exact absurd (hi.dom _ _ _ h) (by omega)
 have le := Gh.newAt_le (y := (w.heap.size,0,0,0)) hnone
 have hat : (G.newAt σ.length 0 (w.heap.size,0,0,0)).μ σ.length 0 = some (w.heap.size,0,0,0) := Gh.newAt_at _ _ _ _
 obtain ⟨p1,p2⟩ := pushG_sound (G' := G.newAt σ.length 0 (w.heap.size,0,0,0)) (ob := .mapIter mr since seen stepped) (k0 := .iter m last left) hi le rfl (fun c h hc => by simp [Gh.newAt,hc]) (fun c h hc => rfl)
  (by simp [baseOf,hat])
  ⟨w.heap.size,mr,since,seen,stepped,hat,hi.big,by rw [more_heap,if_pos rfl],by
   cases m with
   | none => exact hr
   | some k =>
    obtain ⟨MB,ents,clock,q1,q2,q3,q4⟩ := hr
    exact ⟨MB,ents,clock,le.at_ _ _ _ q1,q2,le.his _ _ _ q3,q4⟩⟩
  (fun g z xs h => by cases h) (fun v es h => by cases h)
 exact ⟨_,p1,p2,by simpa using RelV.ptr (G := G.newAt σ.length 0 (w.heap.size,0,0,0)) σ.length 0 0 0 w.heap.size 0 0 0 hat⟩
theorem range_sound {N : Base} {σ σ' : St} {t kt et : TypeId} {m r : PV} {vm : Value} (hi : Inv G N σ w) (ht : mapOf? P t = some (kt,et))
  (rm : RelV G m vm) (h : vRange m σ = some (r,σ')) :
  ∃ v w' G',(Instr.range t vm).run P w = .ok v w' ∧ Inv G' N σ' w' ∧ Ext G σ w G' σ' w' ∧ RelV G' r v := by
 have htu := mapOf_some ht
 cases m with
 | nilmap =>
  cases rm
  simp only [vRange,Option.some.injEq,Prod.mk.injEq] at h
  obtain ⟨rfl,rfl⟩ := h
  obtain ⟨G',q1,q2,q3⟩ := newIter_sound (mr := none) (since := 0) (stepped := 0) (seen := #[]) (m := none) (last := none) (left := []) hi rfl
  refine ⟨_,_,G',?_,q1,q2,q3⟩
  simp only [Instr.range,Sem.run_bind,run_underlying htu,Result.andThen_ok,Sem.run_pure]
  rfl
 | mref b =>
  cases rm with | mref _ B hm =>
  simp only [vRange] at h
  cases hb : σ[b]? with
  | none => simp [hb] at h
  | some blk =>
   rw [hb] at h
   cases blk with
   | map n es =>
    simp only [Option.some.injEq,Prod.mk.injEq] at h
    obtain ⟨rfl,rfl⟩ := h
    obtain ⟨B',ents,clock,hm',hN,hh,hl,hent,hH,hok⟩ := hi.blk b _ hb
    rw [hm] at hm'
    simp only [Option.some.injEq,Prod.mk.injEq] at hm'
    obtain ⟨rfl,_⟩ := hm'
    have hobj : (getObj B).run P w = .ok (.map ents clock) w := by simp [getObj,Sem.run,hh]
    obtain ⟨G',q1,q2,q3⟩ := newIter_sound (mr := some B) (since := clock) (stepped := clock) (seen := #[]) (m := some (b,n)) (last := none) (left := List.range es.length) hi
     ⟨B,ents,clock,hm,rfl,hH,rfl,rfl,List.nodup_range,fun i => by
      rw [List.mem_range,← hl]
      constructor
      ·intro hi'; exact ⟨ents[i],by simp [hi'],by simp⟩
      ·rintro ⟨m,hm,_⟩; exact (Array.getElem?_eq_some_iff.1 hm).1,fun i h => by cases h⟩
    refine ⟨_,_,G',?_,q1,q2,q3⟩
    simp only [Instr.range,Sem.run_bind,run_underlying htu,hobj,Result.andThen_ok,Sem.run_pure]
    rfl
   | _ => simp at h
 | _ => simp [vRange] at h
theorem Inv.drawn {N : Base} {σ : St} {k : Nat} (h : Inv G N σ w) : Inv G N σ { w with drawn := k } := ⟨h.imm,h.dom,h.blk,h.inj,h.sep,h.big,h.gen,h.domH,h.genH,h.old,h.bas⟩
theorem Ext.drawn {G' : Gh} {σ σ' : St} {w' : World} {k : Nat} (h : Ext G σ w G' σ' w') : Ext G σ w G' σ' { w' with drawn := k } := ⟨h.le,h.os,h.tape,h.output,h.size,h.keep,h.own,h.imm,h.len⟩
theorem choose_next (P : Program) (w : World) {n : Nat} (hn : 0 < n) : ∃ j k,j < n ∧ (choose (.mapNext n)).run P w = .ok j { w with drawn := k } := by
 by_cases h1 : n ≤ 1
 ·refine ⟨0,w.drawn,hn,?_⟩
  simp [choose,Sem.run,Question.forced,h1]
 ·refine ⟨w.tape w.drawn (.mapNext n) % n,w.drawn + 1,Nat.mod_lt _ hn,?_⟩
  simp [choose,Sem.run,Question.forced,h1,Question.cut]
theorem next_sound {N : Base} {σ : St} {ty : TypeId} {p : PV} {l : List (PV × St)} {vp : Value} (hi : Inv G N σ w) (rp : RelV G p vp) (h : vNexts p σ = some l) :
  ∃ v w' x σ',(x,σ') ∈ l ∧ (Instr.next vp false ty).run P w = .ok v w' ∧ Inv G N σ' w' ∧ Ext G σ w G σ' w' ∧ RelV G x v := by
 have over : RelV G (.tuple [.bool false]) (.tuple #[.bool false]) := by
  refine .tuple _ _ rfl fun i y u hy hu => ?_
  match i with
  | 0 => simp at hy hu; subst hy; subst hu; exact .bool _
  | i + 1 => simp at hy
 unfold vNexts at h
 split at h
 ·rename_i b
  cases rp with | ptr _ _ _ _ B O z n hm =>
  split at h
  ·rename_i last left hb
   simp only [Option.some.injEq] at h
   subst h
   obtain ⟨B',mr,since,seen,stepped,hm',hN,hh,hr⟩ := hi.blk b _ hb
   rw [hm] at hm'
   simp only [Option.some.injEq,Prod.mk.injEq] at hm'
   obtain ⟨rfl,rfl,rfl,rfl⟩ := hm'
   obtain rfl : mr = none := hr
   have hobj : (getObj B).run P w = .ok (.mapIter none since seen stepped) w := by simp [getObj,Sem.run,hh]
   refine ⟨_,w,_,σ,by simp,?_,hi,.refl _ _ _,over⟩
   simp only [Nat.zero_mul,Nat.add_zero,Instr.next,Sem.run_bind,hobj,Result.andThen_ok,Sem.run_pure]
  ·rename_i mb n' last left hb
   split at h
   ·rename_i n'' es hmb
    split at h
    ·rename_i hnn
     subst hnn
     obtain ⟨B',mr,since,seen,stepped,hm',hN,hh,MB,ents,clock,q1,q2,q3,q4⟩ := hi.blk b _ hb
     rw [hm] at hm'
     simp only [Option.some.injEq,Prod.mk.injEq] at hm'
     obtain ⟨rfl,rfl,rfl,rfl⟩ := hm'
     subst q2
     obtain ⟨MB',ents',clock',k1,k2,k3,k4,k5,k6,hok⟩ := hi.blk mb _ hmb
     simp only at q1 q3
     rw [q1] at k1
     simp only [Option.some.injEq,Prod.mk.injEq] at k1
     obtain ⟨rfl,_⟩ := k1
     rw [q3] at k6
     simp only [Option.some.injEq,Prod.mk.injEq] at k6
     obtain ⟨rfl,rfl⟩ := k6
     obtain ⟨rfl,rfl,hnd,hmem,hlast⟩ := q4
     have hobj : (getObj B).run P w = .ok (.mapIter (some MB) stepped seen stepped) w := by simp [getObj,Sem.run,hh]
     have hobj2 : (getObj MB).run P w = .ok (.map ents stepped) w := by simp [getObj,Sem.run,k3]
     have hc : (!seen.isEmpty && !ents.isEmpty && ents.all fun e => decide (e.born ≥ stepped)) = false := by
      rw [Bool.eq_false_iff]
      intro hh
      simp only [Bool.and_eq_true,Bool.not_eq_true'] at hh
      obtain ⟨⟨_,h2⟩,h3⟩ := hh
      have h0 : 0 < ents.size := by
       rcases Nat.eq_zero_or_pos ents.size with h | h
       ·have : ents = #[] := Array.eq_empty_of_size_eq_zero h
        subst this; simp at h2
       ·exact h
      have h4 := Array.all_eq_true_iff_forall_mem.1 h3 ents[0] (by simp)
      have h5 := hok.1 0 ents[0] (by simp [h0])
      simp at h4
      omega
     have hmemL : ∀ e,e ∈ (ents.filter fun e => !seen.contains e.born) ↔ ∃ i,i ∈ left ∧ ents[i]? = some e := by
      intro e
      rw [Array.mem_filter]
      constructor
      ·rintro ⟨h1,h2⟩
       obtain ⟨i,hi'⟩ := Array.getElem?_of_mem h1
       exact ⟨i,(hmem i).2 ⟨e,hi',by simpa using h2⟩,hi'⟩
      ·rintro ⟨i,h1,h2⟩
       obtain ⟨m,h3,h4⟩ := (hmem i).1 h1
       rw [h2] at h3
       cases h3
       exact ⟨Array.mem_of_getElem? h2,by simpa using h4⟩
     generalize hL : (ents.filter fun e => !seen.contains e.born) = L at hmemL
     have hborn : ∀ e ∈ L,e.born < stepped := by
      intro e he
      obtain ⟨i,_,h2⟩ := (hmemL e).1 he
      exact hok.1 i e h2
     have hold : (L.filter fun e => decide (e.born < stepped)) = L := Array.filter_eq_self.2 fun e he => by simpa using hborn e he
     have hnew : (L.filter fun e => decide (e.born ≥ stepped)) = #[] := Array.filter_eq_empty_iff.2 fun e he => by have := hborn e he; simp; omega
     cases hleft : left with
     | nil =>
      subst hleft
      simp only [Option.some.injEq] at h
      subst h
      have hLe : L = #[] := by
       apply Array.eq_empty_iff_forall_not_mem.2
       intro e he
       obtain ⟨i,h1,_⟩ := (hmemL e).1 he
       cases h1
      subst hLe
      obtain ⟨j,k,hj,hch⟩ := choose_next P w (n := 1) (by omega)
      obtain rfl : j = 0 := by omega
      refine ⟨_,{ w with drawn := k },_,σ,by simp,?_,hi.drawn,(Ext.refl _ _ _).drawn,over⟩
      have hcand : ((if (#[] : Array MapEntry).isEmpty = true then #[none] else #[]) ++ Array.map some ((#[] : Array MapEntry) ++ #[]) : Array (Option MapEntry)) = #[none] := by simp
      have hs : (#[none] : Array (Option MapEntry)).size = 1 := rfl
      simp only [Nat.zero_mul,Nat.add_zero,Instr.next,Sem.run_bind,hobj,hobj2,Result.andThen_ok,Sem.run_pure,hc,Bool.false_eq_true,if_false,hL,hold,hnew,hcand,hs,hch]
      rfl
     | cons i0 rest =>
      rw [hleft] at h
      simp only [Option.some.injEq] at h
      rw [← hleft] at h
      have hpos : 0 < L.size := by
       obtain ⟨m,h1,h2⟩ := (hmem i0).1 (by simp [hleft])
       have := (hmemL m).2 ⟨i0,by simp [hleft],h1⟩
       rcases Nat.eq_zero_or_pos L.size with h | h
       ·have : L = #[] := Array.eq_empty_of_size_eq_zero h
        subst this; simp at *
       ·exact h
      have hemp : L.isEmpty = false := by
       rw [Bool.eq_false_iff]
       intro h
       simp at h
       subst h
       simp at hpos
      obtain ⟨j,k,hj,hch⟩ := choose_next P w hpos
      have hje : L[j]? = some L[j] := by simp [hj]
      obtain ⟨i,hil,hie⟩ := (hmemL L[j]).1 (by simp)
      have hset : (setObj B (.mapIter (some MB) stepped (seen.push L[j].born) stepped)).run P { w with drawn := k } = .ok () (World.put { w with drawn := k } B (.mapIter (some MB) stepped (seen.push L[j].born) stepped)) := by
       simp [setObj,Sem.run,hh,World.put]
      obtain ⟨p1,p2⟩ := chgG_sound (w := { w with drawn := k }) (G' := G) (w' := World.put { w with drawn := k } B (.mapIter (some MB) stepped (seen.push L[j].born) stepped)) (b := b) (B := B) (k0 := .iter (some (mb,n'')) last left) (k1 := .iter (some (mb,n'')) (some i) (left.erase i)) hi.drawn hb (by simp [baseOf,hm]) (.refl G) rfl rfl (fun _ _ _ => rfl) (by simp [baseOf,hm])
       (fun k' hk' => put_heap_ne hk') rfl rfl rfl (by simp [World.put]) ⟨B,some MB,stepped,seen.push L[j].born,stepped,hm,hN,put_heap (w := { w with drawn := k }) hh,MB,ents,stepped,q1,rfl,q3,rfl,rfl,hnd.erase _,fun i' => by
        rw [hnd.mem_erase_iff]
        constructor
        ·rintro ⟨h1,h2⟩
         obtain ⟨m,h3,h4⟩ := (hmem i').1 h2
         refine ⟨m,h3,?_⟩
         rw [Bool.eq_false_iff]
         intro hc2
         simp only [Array.contains_iff_mem,Array.mem_push] at hc2
         rcases hc2 with h5 | h5
         ·simp at h4; exact h4 h5
         ·exact h1 (hok.2 i' i m _ h3 hie h5)
        ·rintro ⟨m,h3,h4⟩
         have h5 : ¬ (m.born ∈ seen ∨ m.born = L[j].born) := by
          intro h6
          rw [← Array.mem_push,← Array.contains_iff_mem,h4] at h6
          cases h6
         refine ⟨fun h6 => h5 (.inr ?_),(hmem i').2 ⟨m,h3,by simp; exact fun h6 => h5 (.inl h6)⟩⟩
         subst h6
         rw [hie] at h3
         cases h3
         rfl,fun i' h' => by
        cases h'
        exact ⟨_,hie,by simp⟩⟩ (fun _ _ _ h => by cases h) (fun _ _ h => by cases h)
      refine ⟨.tuple #[.bool true,L[j].key,L[j].val],_,.tuple [.bool true,.any,.any],σ.set b (.iter (some (mb,n'')) (some i) (left.erase i)),?_,?_,p1,⟨p2.le,p2.os,p2.tape,p2.output,p2.size,p2.keep,p2.own,p2.imm,p2.len⟩,?_⟩
      ·rw [← h]
       exact List.mem_map.2 ⟨i,hil,rfl⟩
      ·have hcand : ((#[] ++ (L ++ #[]).map some : Array (Option MapEntry))) = L.map some := by simp
       simp only [Nat.zero_mul,Nat.add_zero,Instr.next,Sem.run_bind,hobj,hobj2,Result.andThen_ok,Sem.run_pure,hc,Bool.false_eq_true,if_false,hL,hold,hnew,hemp,hcand,Array.size_map,hch,Array.getElem?_map,hje,Option.map_some,hset]
      ·refine .tuple _ _ rfl fun i y u hy hu => ?_
       match i with
       | 0 => simp at hy hu; subst hy; subst hu; exact .bool _
       | 1 => simp at hy hu; subst hy; exact .any _
       | 2 => simp at hy hu; subst hy; exact .any _
       | i + 3 => simp at hy
    ·cases h
   ·cases h
  ·cases h
 ·cases h
theorem entry_sound {N : Base} {σ : St} {p r : PV} {vp : Value} (hi : Inv G N σ w) (rp : RelV G p vp) (h : vEntry p σ = some r) :
  ∃ v,(Instr.entry vp).run P w = .ok v w ∧ RelV G r v := by
 unfold vEntry at h
 split at h
 ·rename_i b
  cases rp with | ptr _ _ _ _ B O z n hm =>
  split at h
  ·rename_i mb n' i left hb
   split at h
   ·rename_i n'' es hmb
    split at h
    ·rename_i hnn
     subst hnn
     split at h
     ·rename_i e he
      simp only [Option.some.injEq] at h
      subst h
      obtain ⟨B',mr,since,seen,stepped,hm',hN,hh,MB,ents,clock,q1,q2,q3,q4⟩ := hi.blk b _ hb
      rw [hm] at hm'
      simp only [Option.some.injEq,Prod.mk.injEq] at hm'
      obtain ⟨rfl,rfl,rfl,rfl⟩ := hm'
      subst q2
      obtain ⟨MB',ents',clock',k1,k2,k3,k4,k5,k6,hok⟩ := hi.blk mb _ hmb
      simp only at q1 q3
      rw [q1] at k1
      simp only [Option.some.injEq,Prod.mk.injEq] at k1
      obtain ⟨rfl,_⟩ := k1
      rw [q3] at k6
      simp only [Option.some.injEq,Prod.mk.injEq] at k6
      obtain ⟨rfl,rfl⟩ := k6
      obtain ⟨rfl,rfl,hnd,hmem,hlast⟩ := q4
      obtain ⟨m,h1,h2⟩ := hlast i rfl
      have hobj : (getObj B).run P w = .ok (.mapIter (some MB) stepped seen stepped) w := by simp [getObj,Sem.run,hh]
      have hobj2 : (getObj MB).run P w = .ok (.map ents stepped) w := by simp [getObj,Sem.run,k3]
      have hfind : ents.find? (fun x => x.born == m.born) = some m := by
       cases hf : ents.find? (fun x => x.born == m.born) with
       | none =>
        have := Array.find?_eq_none.1 hf m (Array.mem_of_getElem? h1)
        simp at this
       | some m' =>
        have h3 := Array.find?_some hf
        have h4 := Array.mem_of_find?_eq_some hf
        obtain ⟨i',hi'⟩ := Array.getElem?_of_mem h4
        have h5 : i' = i := hok.2 i' i m' m hi' h1 (by simpa using h3)
        subst h5
        rw [h1] at hi'
        exact hi'.symm
      obtain ⟨r1,r2⟩ := k5 i e m he h1
      refine ⟨.tuple #[m.key,m.val],?_,?_⟩
      ·simp only [Nat.zero_mul,Nat.add_zero,Instr.entry,Sem.run_bind,hobj,hobj2,h2,Result.andThen_ok,Sem.run_pure,bne_self_eq_false,Bool.false_eq_true,if_false,hfind]
      ·refine .tuple _ _ rfl fun i y u hy hu => ?_
       match i with
       | 0 => simp at hy hu; subst hy; subst hu; exact r1
       | 1 => simp at hy hu; subst hy; subst hu; exact r2
       | i + 2 => simp at hy
     ·cases h
    ·cases h
   ·cases h
  ·cases h
 ·cases h
end
end Go.Abs
namespace Go.Abs
section
variable {P : Program} {G : Gh} (w : World)
theorem arrOf_under {t e : TypeId} {n : Nat} (h : arrOf? P t = some (n,e)) : P.underlying t = some (.array n e) := by
 unfold arrOf? at h
 split at h <;> simp_all
theorem arrAt_run {t e : TypeId} {n sz k : Nat} {i : PV} {vi : Value} {a : Addr} (ht : arrOf? P t = some (n,e)) (hs : szOf P e = some sz) (ri : RelV G i vi) (h : vArrOff sz n i = some k) :
  (Instr.indexAt t (.pointer (some a)) vi).run P w = .ok (.pointer (some (a.add k))) w := by
 have hu := arrOf_under ht
 cases ri with
 | int q m =>
  simp only [vArrOff] at h
  split at h
  ·rename_i hh
   simp only [Option.some.injEq] at h
   subst h
   simp [Instr.indexAt,asIntOf,Instr.sureAddr,run_underlying hu,hh,szOf_run hs]
  ·cases h
 | _ => simp [vArrOff] at h
theorem offset_rel {p r : PV} {vp : Value} {k : Nat} (rp : RelV G p vp) (h : vField k p = some r) : ∃ a,vp = .pointer (some a) ∧ RelV G r (.pointer (some (a.add k))) := by
 cases rp with
 | ptr b g i off B O z n hm =>
  simp only [vField,Option.some.injEq] at h
  subst h
  refine ⟨_,rfl,?_⟩
  rw [addr_add,Nat.add_assoc]
  exact .ptr b g i (off + k) B O z n hm
 | eptr e off B O ve re hc =>
  simp only [vField,Option.some.injEq] at h
  subst h
  refine ⟨_,rfl,?_⟩
  rw [addr_add,Nat.add_assoc]
  exact .eptr e (off + k) B O ve re hc
 | _ => simp [vField] at h
theorem rngM_some {f : Nat → Option PV} : ∀ {n : Nat} {xs : List PV},rngM f n = some xs → xs.length = n ∧ ∀ i x,xs[i]? = some x → f i = some x
 | 0,xs,h => by
  simp only [rngM,Option.some.injEq] at h
  subst h
  exact ⟨rfl,fun i x h => by simp at h⟩
 | n + 1,xs,h => by
  simp only [rngM] at h
  cases hl : rngM f n with
  | none => simp [hl] at h
  | some l =>
   simp only [hl] at h
   cases hx : f n with
   | none => simp [hx] at h
   | some x =>
    simp only [hx,Option.some.injEq] at h
    subst h
    obtain ⟨h1,h2⟩ := rngM_some hl
    refine ⟨by simp [h1],fun i y hy => ?_⟩
    rw [List.getElem?_append] at hy
    split at hy
    ·exact h2 i y hy
    ·rename_i hi
     have : i = n := by
      have := (List.getElem?_eq_some_iff.1 hy).1
      simp at this
      omega
     subst this
     rw [h1] at hy
     simp at hy
     rw [hx,hy]
theorem part_val {ag : Bool} {sz off : Nat} {e x : PV} {ve : Value} (r : RelV G e ve) (hag : ag = true ∨ sz = 1) (h : vPart ag sz e off = some x) :
  ∃ v,RelV G x v ∧ v.cells.size = sz ∧ ∀ j u,v.cells[j]? = some u → ve.cells[off + j]? = some u := by
 cases ag with
 | false =>
  have hsz : sz = 1 := by simpa using hag
  subst hsz
  simp only [vPart] at h
  cases hcs : e.cells? with
  | none => simp [hcs] at h
  | some cs =>
   simp only [hcs] at h
   obtain ⟨hl,hr,h1⟩ := r.cells hcs
   have hlt : off < cs.length := (List.getElem?_eq_some_iff.1 h).1
   have hv : ve.cells[off]? = some (ve.cells[off]'(by omega)) := by simp
   have hone := h1 _ _ hv
   refine ⟨_,hr _ _ _ h hv,by rw [oneCell_cells hone]; rfl,fun j u hu => ?_⟩
   rw [oneCell_cells hone] at hu
   cases j with
   | zero => simp at hu; rw [← hu]; exact hv
   | succ j => simp at hu
 | true =>
  simp only [vPart] at h
  split at h
  ·rename_i cs
   obtain ⟨hl,hr,h1⟩ := r.cells (x := .agg cs) rfl
   have key : off + sz ≤ cs.length → x = .agg ((cs.drop off).take sz) → ∃ v,RelV G x v ∧ v.cells.size = sz ∧ ∀ j u,v.cells[j]? = some u → ve.cells[off + j]? = some u := by
    intro hle hx
    subst hx
    refine ⟨.agg (ve.cells.extract off (off + sz)),.agg _ _ ?_ (fun i y v hy hv => ?_) (fun i v hv => ?_),?_,fun j u hu => ?_⟩
    ·simp; omega
    ·rw [List.getElem?_take] at hy
     split at hy
     ·rw [List.getElem?_drop] at hy
      rw [Array.getElem?_extract] at hv
      split at hv
      ·exact hr _ _ _ hy hv
      ·cases hv
     ·cases hy
    ·rw [Array.getElem?_extract] at hv
     split at hv
     ·exact h1 _ _ hv
     ·cases hv
    ·show (ve.cells.extract off (off + sz)).size = sz
     simp
     omega
    ·have hu : (ve.cells.extract off (off + sz))[j]? = some u := hu
     rw [Array.getElem?_extract] at hu
     split at hu
     ·exact hu
     ·cases hu
   split at h
   ·rename_i hh
    simp only [Option.some.injEq] at h
    exact key (by omega) (by rw [← h,hh.1]; simp [List.take_of_length_le (Nat.le_of_eq hh.2)])
   ·split at h
    ·rename_i hle
     simp only [Option.some.injEq] at h
     exact key hle h.symm
    ·cases h
  ·cases h
theorem subArr_sound {t e : TypeId} {n sz : Nat} {ag : Bool} {p r : PV} {vp : Value} (ht : arrOf? P t = some (n,e)) (hs : szOf P e = some sz) (hag : ag = true ∨ sz = 1) (rp : RelV G p vp) (h : vSubArr ag sz n p = some r) :
  ∃ v,(Instr.sliceAt t vp none none none).run P w = .ok v w ∧ RelV G r v := by
 have hu := arrOf_under ht
 cases rp with
 | eptr e' off B O ve re hc =>
  simp only [vSubArr] at h
  cases hx : rngM (fun i => vPart ag sz e' (off + i * sz)) n with
  | none => simp [hx] at h
  | some xs =>
   simp only [hx,Option.some.injEq] at h
   subst h
   obtain ⟨hl,hg⟩ := rngM_some hx
   have hrun : (Instr.sliceBounds false n n none none none).run P w = .ok (0,n,n) w := run_bounds w (.inl ⟨rfl,rfl⟩) (.inl ⟨rfl,rfl⟩) (Nat.zero_le _) (Nat.le_refl _)
   refine ⟨.slice (some ⟨B,O + off,none⟩) n n,?_,?_⟩
   ·simp [Instr.sliceAt,run_underlying hu,Instr.sureAddr,hrun,szOf_run hs,addr_add]
   ·have each : ∃ vs : Nat → Value,∀ i x,xs[i]? = some x → RelV G x (vs i) ∧ (vs i).cells.size = sz ∧ ∀ j u,(vs i).cells[j]? = some u → ve.cells[off + i * sz + j]? = some u := by
     classical
     refine ⟨fun i => if hh : ∃ v,∃ x,xs[i]? = some x ∧ RelV G x v ∧ v.cells.size = sz ∧ ∀ j u,v.cells[j]? = some u → ve.cells[off + i * sz + j]? = some u then hh.choose else .nilIface,fun i x hxi => ?_⟩
     obtain ⟨v,h1,h2,h3⟩ := part_val re hag (hg i x hxi)
     have hh : ∃ v,∃ x,xs[i]? = some x ∧ RelV G x v ∧ v.cells.size = sz ∧ ∀ j u,v.cells[j]? = some u → ve.cells[off + i * sz + j]? = some u := ⟨v,x,hxi,h1,h2,h3⟩
     simp only [hh,dif_pos]
     obtain ⟨y,hy,q⟩ := hh.choose_spec
     rw [hxi] at hy
     cases hy
     exact q
    obtain ⟨vs,hvs⟩ := each
    have := RelV.list (G := G) .part xs B (O + off) sz n vs (by simp) (fun h => by cases h) (by omega) (fun i x hxi => (hvs i x hxi).1) (fun i hi => by
     have hxi : xs[i]? = some xs[i] := by simp [hi]
     obtain ⟨_,h2,h3⟩ := hvs i _ hxi
     refine ⟨h2,fun j v hj => ?_⟩
     have := hc (off + i * sz + j) v (h3 j v hj)
     rw [show O + off + i * sz + j = O + (off + i * sz + j) by omega]
     exact this)
    rw [hl] at this
    exact this
 | _ => simp [vSubArr] at h
theorem isU8_under {e : TypeId} (h : isU8 P e = true) : P.underlying e = some (.int .u8) := by
 unfold isU8 at h
 split at h <;> simp_all
theorem bytesOf_map : ∀ {xs : List PV} {l : List UInt8},bytesOf? xs = some l → ∃ ns : List Int,xs = ns.map (PV.int .u8) ∧ l = ns.map fun n => UInt8.ofNat n.toNat
 | [],l,h => by simp [bytesOf?] at h; subst h; exact ⟨[],rfl,rfl⟩
 | x :: xs,l,h => by
  cases x with
  | int k n =>
   cases k with
   | u8 =>
    simp only [bytesOf?] at h
    cases hr : bytesOf? xs with
    | none => simp [hr] at h
    | some r =>
     simp only [hr,Option.some.injEq] at h
     subst h
     obtain ⟨ns,rfl,rfl⟩ := bytesOf_map hr
     exact ⟨n :: ns,rfl,rfl⟩
   | _ => simp [bytesOf?] at h
  | _ => simp [bytesOf?] at h
theorem foldl_push (l : List UInt8) (s : ByteArray) : (l.foldl (fun r b => r.push b) s).data.toList = s.data.toList ++ l := by
 induction l generalizing s with
 | nil => simp
 | cons b l ih =>
  show (l.foldl (fun r b => r.push b) (s.push b)).data.toList = _
  rw [ih]
  simp [ByteArray.push]
theorem foldl_ints (ns : List Int) (s : ByteArray) : (ns.foldl (fun r n => r.push (UInt8.ofNat n.toNat)) s) = ((ns.map fun n => UInt8.ofNat n.toNat).foldl (fun r b => r.push b) s) := by
 induction ns generalizing s with
 | nil => rfl
 | cons n ns ih => simp [ih]
theorem headSized_bytes (ns : List Int) : headSized 1 (ns.map (PV.int .u8)) = true := by cases ns <;> rfl
theorem row_bytes {cells : List Value} {ns : List Int} (hr : RowAt G cells.toArray 0 1 (ns.map (PV.int .u8))) (hl : cells.length = ns.length * 1) : cells = ns.map (Value.int .u8) := by
 obtain ⟨vs,h1,h2⟩ := hr
 apply List.ext_getElem?
 intro i
 by_cases hi : i < ns.length
 ·have hn : ns[i]? = some ns[i] := by simp [hi]
  have hx : (ns.map (PV.int .u8))[i]? = some (.int .u8 ns[i]) := by simp [hi]
  have r := h1 i _ hx
  obtain ⟨q1,q2⟩ := h2 i (by simpa using hi)
  generalize hv : vs i = v at r q1 q2
  cases r
  have h5 : cells[i]? = some (.int .u8 ns[i]) := by simpa using (q2 0 (.int .u8 ns[i]) rfl).2
  rw [h5,List.getElem?_map,hn]
  rfl
 ·have h3 : cells[i]? = none := List.getElem?_eq_none (by omega)
  have h4 : (ns.map (Value.int .u8))[i]? = none := List.getElem?_eq_none (by simp; omega)
  rw [h3,h4]
theorem toStr_sound {N : Base} {σ : St} {s d e : TypeId} {x r : PV} {vx : Value} (hi : Inv G N σ w) (hs : P.underlying s = some (.slice e)) (he : isU8 P e = true) (hd : P.underlying d = some .string)
  (rx : RelV G x vx) (h : vToStr x σ = some r) : ∃ v,(convert s d vx).run P w = .ok v w ∧ RelV G r v := by
 have hu := isU8_under he
 have key : ∀ {ys : List PV} {l : List UInt8} {a : Addr} {len cap : Nat},vx = .slice (some a) len cap → ys.length = len → vElems x σ = some ys → bytesOf? ys = some l → r = .str l → ∃ v,(convert s d vx).run P w = .ok v w ∧ RelV G r v := by
  intro ys l a len cap hvx hyl hy hb hr
  obtain ⟨ns,rfl,rfl⟩ := bytesOf_map hb
  have hz : headSized 1 (ns.map (PV.int .u8)) = true := headSized_bytes ns
  obtain ⟨_,cells,hf,hrow,hcl,_⟩ := elems_sound (P := P) (sz := 1) w hi rx hy (.inl hz)
  have hcells := row_bytes hrow (by simpa using hcl)
  subst hcells hvx hr
  have hld := hf w rfl
  simp only [Builtin.firstCells] at hld
  simp only [List.length_map] at hyl
  subst hyl
  refine ⟨.string (ns.foldl (fun r n => r.push (UInt8.ofNat n.toNat)) ByteArray.empty),?_,?_⟩
  ·rw [run_convert_bytes_string w s d e _ _ _ hs hu hd,run_bytesToString w a ns.length cap ns (by simpa using hld)]
  ·refine .of_str _ ?_
   rw [foldl_ints,foldl_push]
   simp
 unfold vToStr at h
 cases rx with
 | nillist =>
  simp only [vElems,bytesOf?,Option.some.injEq] at h
  subst h
  exact ⟨.string .empty,by rw [run_convert_bytes_string w s d e _ _ _ hs hu hd]; rfl,.of_str _ rfl⟩
 | emptyl a cap =>
  simp only [vElems,bytesOf?,Option.some.injEq] at h
  subst h
  exact key (ys := []) (l := []) rfl rfl rfl rfl rfl
 | list k xs B O z cap vs h1 h2 h3 hr hc =>
  simp only [vElems] at h
  cases hb : bytesOf? xs with
  | none => simp [hb] at h
  | some l =>
   simp only [hb,Option.some.injEq] at h
   exact key rfl rfl rfl hb h.symm
 | sref b g z off len B O n cap hm h1 h3 =>
  simp only at h
  cases hy : vElems (.sref b g z off len) σ with
  | none => simp [hy] at h
  | some ys =>
   simp only [hy] at h
   cases hb : bytesOf? ys with
   | none => simp [hb] at h
   | some l =>
    simp only [hb,Option.some.injEq] at h
    refine key rfl ?_ hy hb h.symm
    simp only [vElems] at hy
    split at hy
    ·split at hy
     ·rename_i hh
      simp only [Option.some.injEq] at hy
      rw [← hy]
      simp
      omega
     ·cases hy
    ·cases hy
 | str s => simp at h
 | _ => simp [vElems] at h
theorem inv_old {N : Base} {σ : St} {w' : World} (h : Inv G N σ w) (hsz : w.heap.size ≤ w'.heap.size) (hk : ∀ k,k < w.heap.size → w'.heap[k]? = w.heap[k]?) : Inv G N σ w' := by
 have hcell : ∀ B o v,w.cell? ⟨B,o,none⟩ = some v → w'.cell? ⟨B,o,none⟩ = some v := by
  intro B o v hv
  rw [cell_of_heap_eq (hk B ?_)]
  ·exact hv
  ·rcases Nat.lt_or_ge B w.heap.size with h1 | h1
   ·exact h1
   ·simp [World.cell?,Array.getElem?_eq_none h1] at hv
 exact ⟨fun B o v hv => hcell B o v (h.imm B o v hv),h.dom,fun c k hk' => (h.blk c k hk').step (.refl G) fun B hB => hk B (h.lt_of_own ⟨c,k,hk',hB⟩).1,h.inj,h.sep,Nat.le_trans h.big hsz,h.gen,h.domH,h.genH,fun k hk' => (hk k (Nat.lt_of_lt_of_le hk' h.big)).trans (h.old k hk'),h.bas⟩
theorem inv_fz {N : Base} {σ : St} {w w' : World} {B : Nat} {cs : Array Value} {el : TypeId} {fz fz' : Nat × Nat} (h : Inv G N σ w) (hB : N.n ≤ B) (hsz : w'.heap.size = w.heap.size) (hk : ∀ k,k ≠ B → w'.heap[k]? = w.heap[k]?)
  (h1 : w.heap[B]? = some (.cells cs el fz)) (h2 : w'.heap[B]? = some (.cells cs el fz')) (hf : FzOk fz' cs.size) : Inv G N σ w' := by
 have hcell : ∀ C o,w'.cell? ⟨C,o,none⟩ = w.cell? ⟨C,o,none⟩ := fun C o => by
  by_cases hC : C = B
  ·subst hC
   simp [World.cell?,h1,h2]
  ·exact cell_of_heap_eq (hk C hC) o
 refine ⟨fun C o v hv => by rw [hcell]; exact h.imm C o v hv,h.dom,fun c k hc => ?_,h.inj,h.sep,by rw [hsz]; exact h.big,h.gen,h.domH,h.genH,fun k hk' => by rw [hk k (by omega)]; exact h.old k hk',h.bas⟩
 have hb := h.blk c k hc
 by_cases hcB : baseOf G c k = some B
 ·cases k with
  | arr g z xs =>
   obtain ⟨B',O,n,cs',el',hm,hN,⟨fz0,hfz0,hh⟩,hn,hrest⟩ := hb
   have : B' = B := by simp [baseOf,hm] at hcB; exact hcB
   subst this
   rw [h1] at hh
   cases hh
   exact ⟨B',O,n,cs,el,hm,hN,⟨fz',hn ▸ hf,h2⟩,hn,hrest⟩
  | map v es =>
   obtain ⟨B',ents,clock,hm,hN,hh,_⟩ := hb
   have : B' = B := by simp [baseOf,hm] at hcB; exact hcB
   subst this
   rw [h1] at hh
   cases hh
  | iter m l q =>
   obtain ⟨B',mr,since,seen,stepped,hm,hN,hh,_⟩ := hb
   have : B' = B := by simp [baseOf,hm] at hcB; exact hcB
   subst this
   rw [h1] at hh
   cases hh
  | dead => trivial
 ·exact hb.step (.refl G) fun C hC => hk C fun he => hcB (he ▸ hC)
theorem toBytes_sound {N : Base} {σ σ' : St} {s d e : TypeId} {x r : PV} {vx : Value} {tg : Nat} (hi : Inv G N σ w) (hs : P.underlying s = some .string) (he : isU8 P e = true) (hd : P.underlying d = some (.slice e)) (htg : tg = 0 ∨ tg = 4 * e + 3 ∧ e < 1048576)
  (rx : RelV G x vx) (h : vToBytes tg x σ = some (r,σ')) : ∃ v w' G',(convert s d vx).run P w = .ok v w' ∧ Inv G' N σ' w' ∧ Ext G σ w G' σ' w' ∧ RelV G' r v := by
 have hu := isU8_under he
 cases rx with
 | str t =>
  simp only [vToBytes] at h
  split at h
  ·have hrun := Go.Lib.run_convert_string_bytes (P := P) w s d e t hs hd hu
   have hcap := grownCap_ge w t.size 0 e
   have hbs : (Go.Lib.bytesCells w e t).size = grownCap w t.size 0 e := by
    simp [Go.Lib.bytesCells]
    omega
   have hnew := Go.Lib.bytesWorld_at_new w e t
   have hsize := Go.Lib.bytesWorld_size w e t
   have hold := Go.Lib.bytesWorld_at_old w e t
   split at h
   ·rename_i hl
    simp only [Option.some.injEq,Prod.mk.injEq] at h
    obtain ⟨rfl,rfl⟩ := h
    have h0 : t.size = 0 := by
     have := congrArg List.length hl
     simpa using this
    refine ⟨_,_,G,hrun,inv_old w hi (by omega) hold,⟨.refl G,rfl,rfl,rfl,by omega,fun k hk _ _ => hold k hk,fun B hB => .inl hB,fun B o v hv => .inl hv,Nat.le_refl _⟩,?_⟩
    rw [h0]
    exact .emptyl _ _
   ·rename_i l hl
    simp only [Option.some.injEq,Prod.mk.injEq] at h
    obtain ⟨rfl,rfl⟩ := h
    have hdrew : Inv G N σ w.drew := hi.same rfl
    have hrow : RowAt G (Go.Lib.bytesCells w e t) 0 1 (t.data.toList.map fun b => PV.int .u8 b.toNat) := by
     refine ⟨fun i => .int .u8 ((t.data.toList.getD i 0).toNat : Nat),fun i x hx => ?_,fun i hil => ?_⟩
     ·rw [List.getElem?_map,Option.map_eq_some_iff] at hx
      obtain ⟨b,hb,rfl⟩ := hx
      have : t.data.toList.getD i 0 = b := by simp [List.getD,hb]
      show RelV G _ (.int .u8 ((t.data.toList.getD i 0).toNat : Nat))
      rw [this]
      exact .int _ _
     ·refine ⟨rfl,fun j v hj => ?_⟩
      cases j with
      | zero =>
       simp [Value.cells] at hj
       subst hj
       refine ⟨rfl,?_⟩
       have hil' : i < t.data.size := by simpa using hil
       simp only [Nat.zero_add,Nat.mul_one,Nat.add_zero,Go.Lib.bytesCells]
       rw [Array.getElem?_append_left (by simpa using hil')]
       have hg : t.data[i]? = some t.data[i] := by simp [hil']
       simp [List.getD,hg]
      | succ j => simp [Value.cells] at hj
    obtain ⟨p1,p2,p3⟩ := push_soundT hdrew 1 (t.data.toList.map fun b => PV.int .u8 b.toNat) (Go.Lib.bytesCells w e t) e tg (TyOk.ap htg) (by decide) (by rw [hbs]; simp; omega) hrow
    have hmore : (World.more w.drew (.cells (Go.Lib.bytesCells w e t) e)).heap[w.heap.size]? = some (.cells (Go.Lib.bytesCells w e t) e (0,0)) := by
     rw [more_heap]
     exact if_pos rfl
    have hml : ∀ k,k < w.heap.size → (World.more w.drew (.cells (Go.Lib.bytesCells w e t) e)).heap[k]? = w.heap[k]? := fun k hk => more_heap_lt _ _ _ hk
    have hms : (World.more w.drew (.cells (Go.Lib.bytesCells w e t) e)).heap.size = w.heap.size + 1 := more_size _ _
    have hk : ∀ k,k ≠ w.heap.size → (Go.Lib.bytesWorld w e t).heap[k]? = (World.more w.drew (.cells (Go.Lib.bytesCells w e t) e)).heap[k]? := fun k hne => by
     rcases Nat.lt_or_ge k w.heap.size with hlt | hge
     ·rw [hold k hlt,hml k hlt]
     ·rw [Array.getElem?_eq_none (by omega),Array.getElem?_eq_none (by omega)]
    refine ⟨_,_,_,hrun,inv_fz p1 (by have := hi.big; omega) (by omega) hk hmore hnew (.inr (Nat.le_refl _)),?_,?_⟩
    ·exact ⟨p2.le,rfl,rfl,rfl,by omega,fun k hk _ _ => hold k hk,p2.own,p2.imm,p2.len⟩
    ·have := RelV.sref (G := G.newAt σ.length tg (w.heap.size,0,1,(Go.Lib.bytesCells w e t).size)) σ.length tg 1 0 t.data.toList.length w.heap.size 0 (Go.Lib.bytesCells w e t).size (grownCap w t.size 0 e) (Gh.newAt_at _ _ _ _) (by simpa using hcap) (by rw [hbs]; omega)
     simpa using this
  ·cases h
 | _ => simp [vToBytes] at h
theorem heap_freeze (w : World) (B o n k : Nat) (hk : k ≠ B) : (w.freeze ⟨B,o,none⟩ n).heap[k]? = w.heap[k]? := by
 simp only [World.freeze]
 split
 ·rfl
 ·rw [Array.getElem?_modify,if_neg (fun h => hk h.symm)]
theorem heap_freeze_at (w : World) (B o n : Nat) {cs : Array Value} {el : TypeId} {fz : Nat × Nat} (h : w.heap[B]? = some (.cells cs el fz)) : ∃ fz',(w.freeze ⟨B,o,none⟩ n).heap[B]? = some (.cells cs el fz') := by
 simp only [World.freeze]
 split
 ·exact ⟨fz,h⟩
 ·obtain ⟨lo,hi⟩ := fz
  exact ⟨(if lo == hi then (o,o + n) else (min lo o,max hi (o + n))),by rw [Array.getElem?_modify,if_pos rfl,h]; rfl⟩
theorem size_freeze (w : World) (a : Addr) (n : Nat) : (w.freeze a n).heap.size = w.heap.size := by
 simp only [World.freeze]
 split <;> simp
theorem isZ_inv {x : PV} {v : Value} {u : Unit} (h : isZ x = some u) (r : RelV G x v) : ∃ k,v = .int k 0 := by
 unfold isZ at h
 split at h
 ·rename_i k n
  split at h
  ·rename_i hn
   subst hn
   exact ⟨k,r.int_inv⟩
  ·cases h
 ·cases h
theorem clip_sound {t e : TypeId} {sz : Nat} {x r : PV} {vx : Value} {k k' : IntKind} (he : elemOf? P t = some e) (hs : szOf P e = some sz) (rx : RelV G x vx) (h : vClip x = some r) :
  ∃ v,(Instr.sliceAt t vx none (some (.int k 0)) (some (.int k' 0))).run P w = .ok v w ∧ RelV G r v := by
 have hu : P.underlying t = some (.slice e) := by
  unfold elemOf? at he
  split at he <;> simp_all
 have key : ∀ (base : Option Addr) (len cap : Nat),(Instr.sliceAt t (.slice base len cap) none (some (.int k 0)) (some (.int k' 0))).run P w = .ok (.slice base 0 0) w := by
  intro base len cap
  simp [Instr.sliceAt,run_underlying hu,Instr.slice,Instr.sliceBounds,Instr.sliceBound,asIntOf,szOf_run hs]
 cases rx with
 | nillist =>
  simp only [vClip,Option.some.injEq] at h
  subst h
  exact ⟨_,key _ _ _,.nillist⟩
 | emptyl a cap =>
  simp only [vClip,Option.some.injEq] at h
  subst h
  exact ⟨_,key _ _ _,.emptyl _ _⟩
 | list q xs B O z cap vs h1 h2 h3 hr hc =>
  refine ⟨_,key _ _ _,?_⟩
  cases xs with
  | nil =>
   cases q with
   | nil => exact absurd rfl h1
   | full => simp only [vClip,Option.some.injEq] at h; subst h; exact .emptyl _ _
   | part => simp only [vClip,Option.some.injEq] at h; subst h; exact .emptyl _ _
  | cons y ys =>
   have h : some (PV.list .full []) = some r := by
    cases q with
    | nil => exact absurd rfl h1
    | full => exact h
    | part => exact h
   simp only [Option.some.injEq] at h
   subst h
   exact .list .full [] B O z 0 vs (fun h => by cases h) (fun _ => ⟨rfl,fun h => absurd rfl h⟩) (Nat.le_refl _) (fun i x hx => by simp at hx) (fun i hi => by simp at hi)
 | sref b g z off len B O n cap hm h1 h3 =>
  simp only [vClip,Option.some.injEq] at h
  subst h
  exact ⟨_,key _ _ _,.list .full [] B (O + off * z) z 0 (fun _ => undef) (fun h => by cases h) (fun _ => ⟨rfl,fun h => absurd rfl h⟩) (Nat.le_refl _) (fun i x hx => by simp at hx) (fun i hi => by simp at hi)⟩
 | _ => simp [vClip] at h
theorem mark_sound {N : Base} {σ : St} {s e : TypeId} {xs : List PV} {vx : Value} (hi : Inv G N σ w) (hs : P.underlying s = some (.slice e)) (he : isU8 P e = true) (hne : xs.isEmpty = false) (hh : headSized 1 xs = true)
  (rx : RelV G (.list .full xs) vx) : ∃ w',(convert s s vx).run P w = .ok vx w' ∧ Inv G N σ w' ∧ Ext G σ w G σ w' := by
 have hu := isU8_under he
 cases rx with
 | list k xs B O z cap vs h1 h2 h3 hr hc =>
  obtain ⟨hcap,hnew⟩ := h2 rfl
  have hnew := hnew (by rintro rfl; simp at hne)
  have hn0 : N.n ≤ B := by
   have q1 := hi.bas.n0
   have q2 := N.hn
   omega
  have hpos : 0 < xs.length := by
   cases xs with
   | nil => simp at hne
   | cons x xs => simp
  obtain ⟨cs0,c1,c2⟩ := head_get hh (xs[0]'hpos) (by simp)
  have hv1 : (vs 0).cells.size = 1 := by
   rw [← c2]
   exact ((hr 0 _ (List.getElem?_eq_getElem hpos)).cells c1).1.symm
  obtain ⟨q1,q2⟩ := hc 0 hpos
  have hv : (vs 0).cells[0]? = some ((vs 0).cells[0]'(by omega)) := by simp
  have hI := (q2 0 _ hv).2
  have hw := hi.imm _ _ _ hI
  have hno : ¬ ownB G σ B := fun ho => by
   have := hi.sep B (O + 0 * z + 0) ho
   rw [this] at hI
   cases hI
  obtain ⟨cs,el,fz,hB⟩ : ∃ cs el fz,w.heap[B]? = some (.cells cs el fz) := by
   simp only [World.cell?] at hw
   split at hw
   ·rename_i cs el fz hh
    exact ⟨cs,el,fz,hh⟩
   ·cases hw
  obtain ⟨fz',hB'⟩ := heap_freeze_at w B cs.size 1 hB
  have hk : ∀ k,k ≠ B → (w.freeze ⟨B,cs.size,none⟩ 1).heap[k]? = w.heap[k]? := fun k hk => heap_freeze w B cs.size 1 k hk
  have hsz := size_freeze w ⟨B,cs.size,none⟩ 1
  have hcell : ∀ C o,(w.freeze ⟨B,cs.size,none⟩ 1).cell? ⟨C,o,none⟩ = w.cell? ⟨C,o,none⟩ := fun C o => by
   by_cases hC : C = B
   ·subst hC
    simp [World.cell?,hB,hB']
   ·exact cell_of_heap_eq (hk C hC) o
  refine ⟨w.freeze ⟨B,cs.size,none⟩ 1,?_,?_,?_⟩
  ·have hshape : w.shape? B = some (el,cs.size) := by simp [World.shape?,hB]
   simp [convert,run_underlying hs,run_underlying hu,markStringish,hshape]
  ·exact ⟨fun C o v hv => by rw [hcell]; exact hi.imm C o v hv,hi.dom,fun c k hc => (hi.blk c k hc).step (.refl G) fun C hC => hk C fun he => hno ⟨c,k,hc,he ▸ hC⟩,hi.inj,hi.sep,by rw [hsz]; exact hi.big,hi.gen,hi.domH,hi.genH,fun k hk' => by rw [hk k (by omega)]; exact hi.old k hk',hi.bas⟩
  ·refine ⟨.refl G,rfl,rfl,rfl,by omega,fun k _ _ hk' => hk k fun he => ?_,fun B hB => .inl hB,fun B o v hv => .inl hv,Nat.le_refl _⟩
   subst he
   rw [hk'] at hI
   cases hI
end
end Go.Abs
