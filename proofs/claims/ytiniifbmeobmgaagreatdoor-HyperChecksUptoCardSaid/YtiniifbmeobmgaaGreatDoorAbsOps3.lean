/- Slice literals, elements, append, make. -/
import Derived.Test.YtiniifbmeobmgaaGreatDoorAbsOps2
set_option linter.unusedVariables false
set_option linter.unusedSimpArgs false
namespace Go.Abs

section
variable {P : Program} {G : Gh} (w : World)

theorem vBuildSl_sound {sz : Nat} : ∀ (ps : List (Nat × PV)) (pv : List (Nat × Value)) (xs xs' : List PV) (cells : Array Value),
    ps.length = pv.length → (∀ (i : Nat) (a : Nat × PV) (b : Nat × Value), ps[i]? = some a → pv[i]? = some b → a.1 = b.1 ∧ RelV G a.2 b.2) →
    RowAt G cells 0 sz xs → cells.size = xs.length * sz → vBuildSl sz xs ps = some xs' →
    ∃ cells', Instr.fill (fun i => some (i * sz, sz)) cells pv = some cells' ∧ RowAt G cells' 0 sz xs' ∧ cells'.size = xs'.length * sz ∧ xs'.length = xs.length
  | [], [], xs, xs', cells, _, _, hr, hs, h => by
    simp [vBuildSl] at h
    subst h
    exact ⟨cells, rfl, hr, hs, rfl⟩
  | [], b :: pv, _, _, _, hl, _, _, _, _ => by simp at hl
  | a :: ps, [], _, _, _, hl, _, _, _, _ => by simp at hl
  | (i, x) :: ps, (i', v) :: pv, xs, xs', cells, hl, hp, hr, hs, h => by
    obtain ⟨h1, h2⟩ := hp 0 _ _ rfl rfl
    simp only at h1 h2
    subst h1
    simp only [vBuildSl] at h
    cases hx : x.cells? with
    | none => simp [hx] at h
    | some ws =>
      simp only [hx] at h
      split at h
      · rename_i hh
        obtain ⟨c1, c2, c3⟩ := h2.cellsR hx
        have hvs : v.cells.size = sz := by simp at c1; omega
        have hmul : i * sz + sz ≤ cells.size := by
          have : (i + 1) * sz ≤ xs.length * sz := Nat.mul_le_mul_right _ hh.2
          rw [Nat.add_mul] at this
          omega
        have hsp := fold_splice' (i * sz) v.cells cells (by omega)
        generalize hcells1 : v.cells.zipIdx.foldl (fun (cs : Array Value) (x : Value × Nat) => cs.setIfInBounds (i * sz + x.2) x.1) cells = cells1 at hsp
        have hr1 : RowAt G cells1 0 sz (xs.set i x) := hr.set hh.2 h2 hvs c3 (by omega) (by simpa using hsp)
        have hs1 : cells1.size = (xs.set i x).length * sz := by
          have : cells1.toList.length = cells.toList.length := by rw [hsp, size_splice _ _ _ (by simp; omega)]
          simp at this ⊢
          omega
        obtain ⟨cells', e1, e2, e3, e4⟩ := vBuildSl_sound ps pv (xs.set i x) xs' cells1 (by simpa using hl) (fun j a b ha hb => hp (j + 1) a b (by simpa using ha) (by simpa using hb)) hr1 hs1 h
        refine ⟨cells', ?_, e2, e3, by simpa using e4⟩
        simp only [Instr.fill]
        have hb3 : (decide (v.cells.size ≠ sz) || decide (i * sz + v.cells.size > cells.size)) = false := by simp [hvs]; omega
        simp only [hb3, Bool.false_eq_true, if_false]
        rw [← hcells1] at e1
        exact e1
      · simp at h

/-- A row in a block that never changes is a list. -/
theorem RowAt.list {cs : Array Value} {O z B cap : Nat} {xs : List PV} {k : LK} (h : RowAt G cs O z xs) (hI : ∀ o v, cs[o]? = some v → G.I B o = some v) (h1 : k ≠ .nil) (h2 : k = .full → cap = xs.length) (h3 : xs.length ≤ cap) :
    RelV G (.list k xs) (.slice (some ⟨B, O, none⟩) xs.length cap) := by
  obtain ⟨vs, hr, hc⟩ := h
  exact .list k xs B O z cap vs h1 h2 h3 hr fun i hi => ⟨(hc i hi).1, fun j v hj => ⟨((hc i hi).2 j v hj).1, hI _ _ ((hc i hi).2 j v hj).2⟩⟩

theorem buildSl_sound {N : Base} {σ : St} {t e : TypeId} {n sz : Nat} {z z' : PV} {parts : Array (Nat × Operand)} {ρ : Operand → Value} {f : Operand → PV} {xs : List PV}
    (hi : Inv G N σ w) (he : elemOf? P t = some e) (hs : szOf P e = some sz) (hz : zeroOf P e = some z) (hsmall : n * sz ≤ 16777216) (hpos : 0 < sz) (hb : vBox sz z = some z')
    (hr : ∀ x, RelV G (f x) (ρ x)) (h : vBuildSl sz (List.replicate n z') (parts.toList.map fun (i, x) => (i, f x)) = some xs) :
    ∃ v cells, (Instr.buildSlice t n (parts.map fun (i, x) => (i, ρ x))).run P w = .ok v (World.more w (.cells cells e)) ∧ RelV (G.newImm w.heap.size cells) (.list .full xs) v := by
  have hu : P.underlying t = some (.slice e) := by
    unfold elemOf? at he
    split at he <;> simp_all
  unfold zeroOf at hz
  unfold szOf at hs
  cases hie : P.info? e with
  | none => simp [hie] at hz
  | some ie =>
    simp only [hie, Option.map_some, Option.some.injEq] at hz hs
    cases hzz : ie.zero with
    | none => simp [hzz] at hz
    | some zv =>
      simp only [hzz, Option.some.injEq] at hz
      have rz : RelV G z zv := hz ▸ rel_ofVal G zv
      unfold vBox at hb
      cases hc : z.cells? with
      | none => simp [hc] at hb
      | some zc =>
        simp only [hc] at hb
        split at hb
        · rename_i hzl
          simp only [Option.some.injEq] at hb
          subst hb
          have hzs : zv.cells.size = sz := by have := (rz.cells hc).1; omega
          have hrow := RowAt.zeros (n := n) hc rz hzs hpos
          obtain ⟨cells', e1, e2, e3, e4⟩ := vBuildSl_sound (G := G) (parts.toList.map fun (i, x) => (i, f x)) (parts.map fun (i, x) => (i, ρ x)).toList (List.replicate n z) xs _ (by simp) (fun i a b ha hb => by
            simp only [List.getElem?_map, Option.map_eq_some_iff, Array.toList_map] at ha hb
            obtain ⟨c, hc1, rfl⟩ := ha
            obtain ⟨c', hc2, rfl⟩ := hb
            rw [hc1] at hc2
            simp at hc2
            subst hc2
            exact ⟨rfl, hr _⟩) hrow (by simp) h
          have hxn : xs.length = n := by simpa using e4
          refine ⟨.slice (some ⟨w.heap.size, 0, none⟩) n n, cells', ?_, ?_⟩
          · by_cases hn : n = 0
            · subst hn
              have hcells : cells' = #[] := Array.eq_empty_of_size_eq_zero (by rw [e3, hxn]; simp)
              have hparts : parts.toList = [] := by
                cases hp : parts.toList with
                | nil => rfl
                | cons a l =>
                  rw [hp] at h
                  obtain ⟨i, x⟩ := a
                  simp only [List.map_cons, vBuildSl] at h
                  split at h
                  · simp at h
                  · simp at h
              have hparts' : parts = #[] := by simpa using hparts
              subst hparts' hcells
              simp [Instr.buildSlice, run_underlying hu, sizeOf, typeInfo, hie, Instr.fill, newRow, newObj, Sem.run, World.more]
              rw [show (Array.range 0) = #[] from rfl, Array.map_empty]
            · have hnz : ¬ n * ie.size = 0 := by rw [hs]; exact Nat.mul_ne_zero hn (by omega)
              rw [run_buildSlice w t e n _ cells' ie zv hu hie hzz (by rw [hs]; omega) hnz (by rw [hs]; exact e1)]
              rfl
          · have := (e2.mono (G' := G.newImm w.heap.size cells') (imm_sound hi cells' e).2.1.le).list (k := .full) (B := w.heap.size) (cap := n) (fun o v ho => by
              show (if w.heap.size = w.heap.size then cells'[o]? else _) = some v
              rw [if_pos rfl]
              exact ho) (fun h => by cases h) (fun _ => hxn.symm) (by omega)
            rw [hxn] at this
            exact this
        · simp at hb

theorem Inv.same {G : Gh} {N : Base} {σ : St} {w w' : World} (h : Inv G N σ w) (e : w'.heap = w.heap) : Inv G N σ w' := by
  obtain ⟨h1, h2, h3, h4, h5, h6, h7, h8, h9, h10⟩ := h
  refine ⟨fun B o v hv => by have := h1 B o v hv; simpa [World.cell?, e] using this, h2, fun b k hk => (h3 b k hk).step (.refl G) fun B _ => by rw [e], h4, h5, by rw [e]; exact h6, h7, h8, h9, by rw [e]; exact h10⟩

theorem Ext.of_same {G : Gh} {σ : St} {w w1 : World} {G' : Gh} {σ' : St} {w' : World} (h : Ext G σ w1 G' σ' w') (e : w1.heap = w.heap) (e1 : w1.os = w.os) (e2 : w1.tape = w.tape) (e3 : w1.output = w.output) : Ext G σ w G' σ' w' := by
  obtain ⟨h1, h2, h3, h4, h5, h6, h7, h8, h9⟩ := h
  exact ⟨h1, h2.trans e1, h3.trans e2, h4.trans e3, by rw [← e]; exact h5, fun k hk hn => by rw [h6 k (by rw [e]; exact hk) hn, e], fun B hB => by rw [← e]; exact h7 B hB, fun B o v hv => by rw [← e]; exact h8 B o v hv, h9⟩

/-! ### The elements of a slice or a string -/

/-- The cells of n values, one after the other. -/
def flat (vs : Nat → Value) (n : Nat) : List Value := (List.range n).flatMap fun i => (vs i).cells.toList

theorem flat_succ (vs : Nat → Value) (n : Nat) : flat vs (n + 1) = flat vs n ++ (vs n).cells.toList := by
  simp [flat, List.range_succ]

theorem flat_length {vs : Nat → Value} {z : Nat} : ∀ (n : Nat), (∀ i, i < n → (vs i).cells.size = z) → (flat vs n).length = n * z
  | 0, _ => by simp [flat]
  | n + 1, h => by
    rw [flat_succ, List.length_append, flat_length n fun i hi => h i (by omega)]
    simp [h n (by omega), Nat.add_mul]

theorem flat_get {vs : Nat → Value} {z : Nat} : ∀ (n : Nat), (∀ i, i < n → (vs i).cells.size = z) → ∀ i j, i < n → j < z → (flat vs n)[i * z + j]? = (vs i).cells[j]?
  | 0, _, i, j, hi, _ => by omega
  | n + 1, h, i, j, hi, hj => by
    have hl := flat_length n fun i hi => h i (by omega : i < n + 1)
    rw [flat_succ]
    by_cases hin : i < n
    · have : i * z + j < n * z := by
        have : (i + 1) * z ≤ n * z := Nat.mul_le_mul_right _ hin
        rw [Nat.add_mul] at this
        omega
      rw [List.getElem?_append_left (by omega)]
      exact flat_get n (fun i hi => h i (by omega)) i j hin hj
    · obtain rfl : i = n := by omega
      rw [List.getElem?_append_right (by omega), hl]
      simp

theorem flat_mem {vs : Nat → Value} {n : Nat} {u : Value} (h : u ∈ flat vs n) : ∃ i, i < n ∧ u ∈ (vs i).cells.toList := by
  simp only [flat, List.mem_flatMap, List.mem_range] at h
  exact h

/-- Any index below n * z is an element's. -/
theorem index_split {n z k : Nat} (h : k < n * z) : ∃ i j, i < n ∧ j < z ∧ k = i * z + j := by
  have hz : 0 < z := by
    rcases Nat.eq_zero_or_pos z with h0 | h0
    · subst h0; simp at h
    · exact h0
  refine ⟨k / z, k % z, (Nat.div_lt_iff_lt_mul hz).2 h, Nat.mod_lt _ hz, ?_⟩
  have := Nat.div_add_mod k z
  rw [Nat.mul_comm] at this
  omega

theorem row_of_flat {vs : Nat → Value} {z : Nat} {xs : List PV} (hr : ∀ i x, xs[i]? = some x → RelV G x (vs i)) (hz : ∀ i, i < xs.length → (vs i).cells.size = z) (h1 : ∀ i, i < xs.length → ∀ u ∈ (vs i).cells.toList, u.oneCell' = true) :
    RowAt G (flat vs xs.length).toArray 0 z xs := by
  refine ⟨vs, hr, fun i hi => ⟨hz i hi, fun j v hj => ⟨h1 i hi v (by simpa using Array.mem_of_getElem? hj), ?_⟩⟩⟩
  have hjz : j < z := by have := (Array.getElem?_eq_some_iff.1 hj).1; have := hz i hi; omega
  rw [List.getElem?_toArray, Nat.zero_add, flat_get _ hz i j hi hjz]
  exact hj

theorem head_get {sz : Nat} {xs : List PV} (h : headSized sz xs = true) (x : PV) (hx : xs[0]? = some x) : ∃ cs, x.cells? = some cs ∧ cs.length = sz := by
  cases xs with
  | nil => simp at hx
  | cons y l =>
    simp at hx
    subst hx
    simp only [headSized] at h
    cases hc : y.cells? with
    | none => simp [hc] at h
    | some cs => simp [hc] at h; exact ⟨cs, rfl, h⟩

theorem elems_sound {N : Base} {σ : St} {sz : Nat} {y : PV} {vy : Value} {ys : List PV} (hi : Inv G N σ w) (ry : RelV G y vy) (h : vElems y σ = some ys) (hs0 : headSized sz ys = true ∨ ∃ b g off len, y = .sref b g sz off len) :
    (Builtin.lenOf vy).run P w = .ok ys.length w ∧ ∃ cells : List Value, (∀ w' : World, w'.heap = w.heap → (Builtin.firstCells sz ys.length vy).run P w' = .ok cells.toArray w') ∧ RowAt G cells.toArray 0 sz ys ∧ cells.length = ys.length * sz ∧ ∀ u ∈ cells, u.oneCell' = true := by
  cases ry with
  | nillist =>
    simp [vElems] at h
    subst h
    exact ⟨rfl, [], fun _ _ => by simp [Builtin.firstCells], ⟨fun _ => undef, by simp, by simp⟩, by simp, by simp⟩
  | emptyl a c =>
    simp [vElems] at h
    subst h
    exact ⟨rfl, [], fun w' _ => by simpa [Builtin.firstCells] using run_loadCells_list (P := P) w' a [] (fun k v hk => by simp at hk), ⟨fun _ => undef, by simp, by simp⟩, by simp, by simp⟩
  | list k xs B O z cap vs h1 h2 h3 hr hc =>
    simp [vElems] at h
    subst h
    have hs : headSized sz xs = true := by
      rcases hs0 with h | ⟨_, _, _, _, h⟩
      · exact h
      · cases h
    have hz : ∀ i, i < xs.length → (vs i).cells.size = sz := by
      intro i hil
      obtain ⟨cs, c1, c2⟩ := head_get hs (xs[0]'(by omega)) (by simp)
      rw [(hc i hil).1, ← (hc 0 (by omega)).1, ← c2]
      exact ((hr 0 _ (List.getElem?_eq_getElem (by omega))).cells c1).1.symm
    have h1c : ∀ i, i < xs.length → ∀ u ∈ (vs i).cells.toList, u.oneCell' = true := by
      intro i hil u hu
      obtain ⟨j, hj⟩ := List.getElem?_of_mem hu
      exact ((hc i hil).2 j u (by simpa using hj)).1
    refine ⟨rfl, flat vs xs.length, fun w' hw => ?_, row_of_flat hr hz h1c, flat_length _ hz, fun u hu => ?_⟩
    · have hl := flat_length xs.length hz
      have := run_loadCells_list (P := P) w' ⟨B, O, none⟩ (flat vs xs.length) (fun k v hk => by
        have hklt : k < xs.length * sz := by rw [← hl]; exact (List.getElem?_eq_some_iff.1 hk).1
        obtain ⟨i, j, hi', hj', rfl⟩ := index_split hklt
        rw [flat_get _ hz i j hi' hj'] at hk
        rw [addr_add]
        have hzz : z = sz := by rw [← (hc i hi').1]; exact hz i hi'
        have := (hi.same hw).imm B (O + i * z + j) v ((hc i hi').2 j v hk).2
        rw [hzz] at this
        rw [← Nat.add_assoc]
        exact this)
      rw [hl] at this
      simp [Builtin.firstCells, this]
    · obtain ⟨i, hi', hu'⟩ := flat_mem hu
      exact h1c i hi' u hu'
  | str s =>
    simp [vElems] at h
    subst h
    have hs : headSized sz (s.data.toList.map fun b => PV.int .u8 b.toNat) = true := by
      rcases hs0 with h | ⟨_, _, _, _, h⟩
      · exact h
      · cases h
    have hlen : (s.data.toList.map fun b => PV.int .u8 b.toNat).length = s.size := by simp
    have hcells : ∀ ys : List PV, ys = s.data.toList.map (fun b => PV.int .u8 b.toNat) → headSized sz ys = true → ys.length = 0 ∨ sz = 1 := by
      intro ys hys hss
      cases hy : ys with
      | nil => exact .inl rfl
      | cons y l =>
        right
        obtain ⟨cs, c1, c2⟩ := head_get hss y (by simp [hy])
        have : y = .int .u8 (s.data.toList[0]?.getD 0).toNat := by
          have h0 : ys[0]? = some y := by simp [hy]
          rw [hys] at h0
          simp only [List.getElem?_map, Option.map_eq_some_iff] at h0
          obtain ⟨b, hb, rfl⟩ := h0
          simp [hb]
        subst this
        simp [PV.cells?] at c1
        subst c1
        simpa using c2.symm
    refine ⟨by rw [hlen]; rfl, s.data.toList.map fun b => .int .u8 b.toNat, fun w' hw => ?_, ?_, ?_, ?_⟩
    · rw [hlen]
      have : s.extract 0 s.size = s := by simp
      simp only [Builtin.firstCells, this, Sem.run_pure]
      congr 1
      apply Array.ext'
      simp
    · rcases hcells _ rfl hs with h0 | rfl
      · have : s.data.toList = [] := List.length_eq_zero_iff.1 (by rw [List.length_map] at h0; exact h0)
        rw [this]
        exact ⟨fun _ => undef, by simp, by simp⟩
      · refine ⟨fun i => .int .u8 (s.data.toList[i]?.getD 0).toNat, fun i x hx => ?_, fun i hil => ⟨rfl, fun j v hj => ?_⟩⟩
        · simp only [List.getElem?_map, Option.map_eq_some_iff] at hx
          obtain ⟨b, hb, rfl⟩ := hx
          show RelV G _ (Value.int .u8 (s.data.toList[i]?.getD 0).toNat)
          rw [hb]
          exact .int _ _
        · simp only [List.length_map] at hil
          cases j with
          | zero =>
            simp [Value.cells] at hj
            subst hj
            refine ⟨rfl, ?_⟩
            simp only [Nat.zero_add, Nat.mul_one, Nat.add_zero, List.getElem?_toArray, List.getElem?_map]
            rw [List.getElem?_eq_getElem hil]
            have h9 : s.data[i]?.getD 0 = s.data.toList[i] := by rw [Array.getElem?_eq_getElem (by simpa using hil)]; simp
            rw [h9]
            rfl
          | succ j => simp [Value.cells] at hj
    · rcases hcells _ rfl hs with h0 | rfl
      · have : s.data.toList = [] := List.length_eq_zero_iff.1 (by rw [List.length_map] at h0; exact h0)
        simp [this]
      · simp
    · intro u hu
      simp only [List.mem_map] at hu
      obtain ⟨b, _, rfl⟩ := hu
      rfl
  | sref b g z off len B O n cap hm h1 h2 =>
    simp only [vElems] at h
    cases hb : σ[b]? with
    | none => simp [hb] at h
    | some blk =>
      cases blk with
      | arr g' z' xs =>
        simp only [hb] at h
        split at h
        · rename_i hh
          obtain ⟨rfl, hle⟩ := hh
          simp only [Option.some.injEq] at h
          subst h
          obtain ⟨B', O', n', cs, el, hm', hN, hheap, hn, hsz, hpos, vs, hr, hc⟩ := hi.blk b _ hb
          rw [hm] at hm'
          simp only [Option.some.injEq, Prod.mk.injEq] at hm'
          obtain ⟨rfl, rfl, rfl, rfl⟩ := hm'
          have hlen : ((xs.drop off).take len).length = len := by simp; omega
          have hget : ∀ (i : Nat) (x : PV), ((xs.drop off).take len)[i]? = some x → i < len ∧ xs[off + i]? = some x := by
            intro i x hx
            rw [List.getElem?_take] at hx
            split at hx
            · rw [List.getElem?_drop] at hx; exact ⟨by assumption, hx⟩
            · simp at hx
          have hr' : ∀ (i : Nat) (x : PV), ((xs.drop off).take len)[i]? = some x → RelV G x (vs (off + i)) := fun i x hx => hr _ _ (hget i x hx).2
          have hz : ∀ i, i < ((xs.drop off).take len).length → (vs (off + i)).cells.size = sz := by
            intro i hil
            rcases hs0 with hs | ⟨_, _, _, _, heq⟩
            · have h0 : 0 < ((xs.drop off).take len).length := by omega
              obtain ⟨c, c1, c2⟩ := head_get hs _ (List.getElem?_eq_getElem h0)
              rw [(hc (off + i) (by omega)).1, ← (hc (off + 0) (by omega)).1, ← c2]
              exact ((hr' 0 _ (List.getElem?_eq_getElem h0)).cells c1).1.symm
            · cases heq
              exact (hc (off + i) (by omega)).1
          have h1c : ∀ i, i < ((xs.drop off).take len).length → ∀ u ∈ (vs (off + i)).cells.toList, u.oneCell' = true := by
            intro i hil u hu
            obtain ⟨j, hj⟩ := List.getElem?_of_mem hu
            exact ((hc (off + i) (by omega)).2 j u (by simpa using hj)).1
          have hfl := flat_length (vs := fun i => vs (off + i)) _ hz
          refine ⟨by rw [hlen]; rfl, flat (fun i => vs (off + i)) ((xs.drop off).take len).length, fun w' hw => ?_, row_of_flat hr' hz h1c, hfl, fun u hu => ?_⟩
          · have := run_loadCells_list (P := P) w' ⟨B, O + off * z, none⟩ (flat (fun i => vs (off + i)) ((xs.drop off).take len).length) (fun k v hk => by
              have hklt : k < ((xs.drop off).take len).length * sz := by rw [← hfl]; exact (List.getElem?_eq_some_iff.1 hk).1
              obtain ⟨i, j, hi', hj', rfl⟩ := index_split hklt
              rw [flat_get _ hz i j hi' hj'] at hk
              rw [addr_add]
              have hzz : z = sz := by rw [← (hc (off + i) (by omega)).1]; exact hz i hi'
              have := ((hc (off + i) (by omega)).2 j v hk).2
              rw [hzz] at this ⊢
              have he : O + off * sz + (i * sz + j) = O + (off + i) * sz + j := by rw [Nat.add_mul]; omega
              rw [he]
              simp [World.cell?, hw, hheap, this])
            rw [hfl] at this
            simp only [Builtin.firstCells]
            exact this
          · obtain ⟨i, hi', hu'⟩ := flat_mem hu
            exact h1c i hi' u hu'
        · simp at h
      | _ => simp [hb] at h
  | _ => simp [vElems] at h

/-! ### Append -/

theorem growBy_le (n : Nat) : ∀ (r c : Nat), c ≤ n + n / 4 + 192 → Builtin.growBy n r c ≤ n + n / 4 + 192
  | 0, c, h => by simpa [Builtin.growBy] using h
  | r + 1, c, h => by
    simp only [Builtin.growBy]
    split
    · exact h
    · exact growBy_le n r _ (by omega)

theorem nextcap_le {need cap : Nat} (h : cap < need) : Builtin.nextslicecap need cap ≤ need + need / 4 + 192 ∨ Builtin.nextslicecap need cap ≤ 512 := by
  unfold Builtin.nextslicecap
  split
  · left; omega
  · split
    · right; omega
    · left; exact growBy_le need 4 cap (by omega)

theorem cap_small {need cap by_ : Nat} (h : cap < need) (hr : roomy need by_ = true) (hb : by_ ≤ 1048576) : ¬ Builtin.nextslicecap need cap * by_ > 2 ^ 48 := by
  simp only [roomy, decide_eq_true_eq] at hr
  have e : (2 : Nat) ^ 48 = 281474976710656 := by decide
  rw [e]
  rcases nextcap_le h with h1 | h1
  · have h2 : Builtin.nextslicecap need cap * by_ ≤ (need + need / 4 + 192) * by_ := Nat.mul_le_mul_right _ h1
    have h3 : need / 4 * by_ ≤ need * by_ / 4 := by
      rw [Nat.le_div_iff_mul_le (by omega)]
      have : need / 4 * 4 ≤ need := Nat.div_mul_le_self _ _
      calc need / 4 * by_ * 4 = need / 4 * 4 * by_ := by rw [Nat.mul_right_comm]
        _ ≤ need * by_ := Nat.mul_le_mul_right _ this
    rw [Nat.add_mul, Nat.add_mul] at h2
    omega
  · have h2 : Builtin.nextslicecap need cap * by_ ≤ 512 * by_ := Nat.mul_le_mul_right _ h1
    omega

theorem appTy_run {t : TypeId} (h : appTy P t = true) : (∃ e, P.underlying t = some (.slice e)) ∨ P.underlying t = some .string := by
  unfold appTy at h
  split at h
  · rename_i e hu; exact .inl ⟨_, hu⟩
  · rename_i hu; exact .inr hu
  · simp at h

/-- An append that makes a new block. -/
theorem run_append_grow {t t2 e ty : TypeId} {sz by_ : Nat} {zv : Value} {it : TypeInfo} {base : Option Addr} {sLen sCap n : Nat} {vy : Value} {old new : List Value}
    (hu : P.underlying t = some (.slice e)) (h2 : appTy P t2 = true) (hi : P.info? e = some it) (hs : it.size = sz) (hb : it.bytes = by_) (hz : it.zero = some zv) (hb0 : 0 < by_)
    (hl : (Builtin.lenOf vy).run P w = .ok n w) (hcap : sCap < sLen + n) (hr : roomy (sLen + n) by_ = true) (hbm : by_ ≤ 1048576)
    (ho : ∀ w' : World, w'.heap = w.heap → (Builtin.firstCells sz sLen (.slice base sLen sCap)).run P w' = .ok old.toArray w')
    (hn : ∀ w' : World, w'.heap = w.heap → (Builtin.firstCells sz n vy).run P w' = .ok new.toArray w') :
    ∃ (cap : Nat) (rest : Array Value), sLen + n ≤ cap ∧ rest.size = (cap - (sLen + n)) * zv.cells.size ∧
      (Builtin.append_ #[t, t2] ty #[.slice base sLen sCap, vy]).run P w = .ok (.slice (some ⟨w.heap.size, 0, none⟩) (sLen + n) cap) (World.more w.drew (.cells (old.toArray ++ (new.toArray ++ rest)) e)) := by
  have hsize : ∀ w' : World, (sizeOf e).run P w' = .ok sz w' := fun w' => by simp [sizeOf, typeInfo, hi, hs]
  have hinfo : ∀ w' : World, (typeInfo e).run P w' = .ok it w' := fun w' => by simp [typeInfo, hi]
  have hzero : ∀ w' : World, (zeroValue e).run P w' = .ok zv w' := fun w' => by simp [zeroValue, typeInfo, hi, hz]
  have hneed : ¬ sLen + n ≤ sCap := by omega
  have hroom := hr
  simp only [roomy, decide_eq_true_eq] at hroom
  have hbz : ¬ it.bytes = 0 := by omega
  have hsm := cap_small hcap hr hbm
  generalize hq : Question.cut (.appendCap (sLen + n) sCap e) (w.tape w.drawn (.appendCap (sLen + n) sCap e)) = cap
  have hcap' : sLen + n ≤ cap := by rw [← hq]; simp [Question.cut]
  refine ⟨cap, Builtin.zeroCells zv.cells (cap - (sLen + n)), hcap', by simp [Builtin.zeroCells], ?_⟩
  have hask : ∀ (b : Nat) (w' : World), (askRoom b).run P w' = .ok () w' := by
    intro b w'
    unfold askRoom
    split <;> rfl
  have hch : (choose (.appendCap (sLen + n) sCap e)).run P w = .ok cap w.drew := by
    simp only [choose, Sem.run, Question.forced, Bool.false_eq_true, if_false, hq]
    rfl
  have hsm' : ¬ Builtin.nextslicecap (sLen + n) sCap * it.bytes > 2 ^ 48 := by rw [hb]; exact hsm
  have ho' := ho w.drew rfl
  have hn' := hn w.drew rfl
  have hsm2 : ¬ 281474976710656 < Builtin.nextslicecap (sLen + n) sCap * it.bytes := by simpa using hsm'
  have hsz2 : it.size = sz := hs
  rcases appTy_run h2 with ⟨e', hu2⟩ | hu2
  · simp [Builtin.append_, run_underlying hu, run_underlying hu2, sizeOf, typeInfo, zeroValue, hi, hz, hl, hneed, hbz, hsm2, hask, hsz2, ho', hn', newRow, newObj, Sem.run, Question.forced, hq]
    rfl
  · simp [Builtin.append_, run_underlying hu, run_underlying hu2, sizeOf, typeInfo, zeroValue, hi, hz, hl, hneed, hbz, hsm2, hask, hsz2, ho', hn', newRow, newObj, Sem.run, Question.forced, hq]
    rfl

theorem run_append_zero {t t2 e ty : TypeId} {it : TypeInfo} {base : Option Addr} {sLen sCap : Nat} {vy : Value} (hu : P.underlying t = some (.slice e)) (h2 : appTy P t2 = true) (hi : P.info? e = some it)
    (hl : (Builtin.lenOf vy).run P w = .ok 0 w) (hcap : sLen ≤ sCap) (hn : (Builtin.firstCells it.size 0 vy).run P w = .ok #[] w) :
    (Builtin.append_ #[t, t2] ty #[.slice base sLen sCap, vy]).run P w = .ok (.slice base sLen sCap) w := by
  rcases appTy_run h2 with ⟨e', hu2⟩ | hu2 <;> cases base <;>
    simp [Builtin.append_, run_underlying hu, run_underlying hu2, sizeOf, typeInfo, hi, hl, hcap, hn, storeCells]

theorem run_append_in {t t2 e ty : TypeId} {it : TypeInfo} {B p sLen sCap n : Nat} {vy : Value} {new : List Value} {cs : Array Value} {el : TypeId}
    (hu : P.underlying t = some (.slice e)) (h2 : appTy P t2 = true) (hi : P.info? e = some it)
    (hl : (Builtin.lenOf vy).run P w = .ok n w) (hcap : sLen + n ≤ sCap) (hn : (Builtin.firstCells it.size n vy).run P w = .ok new.toArray w)
    (hh : w.heap[B]? = some (.cells cs el (0, 0))) (h1 : ∀ u ∈ new, u.oneCell' = true) (hfit : p + sLen * it.size + new.length ≤ cs.size) :
    (Builtin.append_ #[t, t2] ty #[.slice (some ⟨B, p, none⟩) sLen sCap, vy]).run P w =
      .ok (.slice (some ⟨B, p, none⟩) (sLen + n) sCap) (w.setRow B (cs.toList.take (p + sLen * it.size) ++ new ++ cs.toList.drop (p + sLen * it.size + new.length)).toArray) := by
  have hst := run_storeCells_at P B (p + sLen * it.size) el new 0 cs w hh (by simpa using hfit) h1
  simp only [Nat.add_zero] at hst
  rcases appTy_run h2 with ⟨e', hu2⟩ | hu2 <;>
    simp [Builtin.append_, run_underlying hu, run_underlying hu2, sizeOf, typeInfo, hi, hl, hcap, hn, addr_add, hst]

theorem RowAt.append {c1 c2 rest cs : Array Value} {z : Nat} {xs ys : List PV} (h1 : RowAt G c1 0 z xs) (hs : c1.size = xs.length * z) (h2 : RowAt G c2 0 z ys) (hs2 : c2.size = ys.length * z) (hcs : cs = c1 ++ (c2 ++ rest)) : RowAt G cs 0 z (xs ++ ys) := by
  subst hcs
  obtain ⟨vs, r1, k1⟩ := h1
  obtain ⟨us, r2, k2⟩ := h2
  refine ⟨fun i => if i < xs.length then vs i else us (i - xs.length), fun i x hx => ?_, fun i hi => ?_⟩
  · rw [List.getElem?_append] at hx
    show RelV G x (if i < xs.length then vs i else us (i - xs.length))
    split at hx
    · rename_i hlt; rw [if_pos hlt]; exact r1 i x hx
    · rename_i hlt; rw [if_neg hlt]; exact r2 _ x hx
  · rw [List.length_append] at hi
    by_cases hlt : i < xs.length
    · simp only [hlt, if_true]
      obtain ⟨q1, q2⟩ := k1 i hlt
      refine ⟨q1, fun j v hj => ⟨(q2 j v hj).1, ?_⟩⟩
      have h9 := (q2 j v hj).2
      have hlt2 := (Array.getElem?_eq_some_iff.1 h9).1
      rw [Array.getElem?_append_left hlt2]
      exact h9
    · simp only [hlt, if_false]
      obtain ⟨q1, q2⟩ := k2 (i - xs.length) (by omega)
      refine ⟨q1, fun j v hj => ⟨(q2 j v hj).1, ?_⟩⟩
      have h9 := (q2 j v hj).2
      have hlt2 := (Array.getElem?_eq_some_iff.1 h9).1
      have hmul : i * z = xs.length * z + (i - xs.length) * z := by rw [← Nat.add_mul]; congr 1; omega
      rw [Array.getElem?_append_right (by omega), Array.getElem?_append_left (by omega), ← h9]
      congr 1
      omega

/-- The extent of a grown block. -/
theorem grow_size {z cap n1 n2 : Nat} {c1 c2 rest : Array Value} (h1 : c1.size = n1 * z) (h2 : c2.size = n2 * z) (h3 : rest.size = (cap - (n1 + n2)) * z) (h : n1 + n2 ≤ cap) : (c1 ++ (c2 ++ rest)).size = cap * z := by
  simp only [Array.size_append, h1, h2, h3]
  rw [← Nat.add_mul, ← Nat.add_mul]
  congr 1
  omega

set_option maxHeartbeats 400000 in
theorem append_sound {N : Base} {σ σ' : St} {t t2 e ty : TypeId} {sz by_ : Nat} {z z' s y r : PV} {vs vy : Value}
    (hi : Inv G N σ w) (he : elemOf? P t = some e) (h2 : appTy P t2 = true) (hs : szOf P e = some sz) (hb : bytesOf P e = some by_) (hz : zeroOf P e = some z) (hzb : vBox sz z = some z')
    (hsz : 0 < sz) (hb0 : 0 < by_) (hbm : by_ ≤ 1048576) (rs : RelV G s vs) (ry : RelV G y vy) (h : vAppend sz by_ s y σ = some (r, σ')) :
    ∃ v w' G', (Builtin.append_ #[t, t2] ty #[vs, vy]).run P w = .ok v w' ∧ Inv G' N σ' w' ∧ Ext G σ w G' σ' w' ∧ RelV G' r v := by
  have hu : P.underlying t = some (.slice e) := by
    unfold elemOf? at he
    split at he <;> simp_all
  unfold zeroOf at hz
  unfold szOf at hs
  unfold bytesOf at hb
  cases hie : P.info? e with
  | none => simp [hie] at hz
  | some it =>
  simp only [hie, Option.map_some, Option.some.injEq] at hz hs hb
  cases hzz : it.zero with
  | none => simp [hzz] at hz
  | some zv =>
  simp only [hzz, Option.some.injEq] at hz
  have rz : RelV G z zv := hz ▸ rel_ofVal G zv
  have hzs : zv.cells.size = sz := by
    unfold vBox at hzb
    cases hc : z.cells? with
    | none => simp [hc] at hzb
    | some zc =>
      simp only [hc] at hzb
      split at hzb
      · have := (rz.cells hc).1; omega
      · simp at hzb
  unfold vAppend at h
  cases hys : vElems y σ with
  | none => simp [hys] at h
  | some ys =>
  simp only [hys] at h
  -- nothing is appended
  have none_case : ∀ {base : Option Addr} {sLen sCap : Nat}, vs = .slice base sLen sCap → sLen ≤ sCap → ys = [] → r = s → σ' = σ →
      ∃ v w' G', (Builtin.append_ #[t, t2] ty #[vs, vy]).run P w = .ok v w' ∧ Inv G' N σ' w' ∧ Ext G σ w G' σ' w' ∧ RelV G' r v := by
    intro base sLen sCap hvs hle hy0 hr hσ
    subst hy0 hr hσ
    obtain ⟨hl, cells, hf, _, hcl, _⟩ := elems_sound (P := P) (sz := it.size) w hi ry hys (.inl (by simp [headSized]))
    have : cells = [] := by simpa using hcl
    subst this
    refine ⟨vs, w, G, ?_, hi, .refl _ _ _, rs⟩
    rw [hvs]
    exact run_append_zero w hu h2 hie (by simpa using hl) hle (by simpa using hf w rfl)
  -- a new block
  have grow_case : ∀ {base : Option Addr} {sLen sCap : Nat} {xs : List PV} {old : List Value}, vs = .slice base sLen sCap → xs.length = sLen → sCap < sLen + ys.length → roomy (sLen + ys.length) by_ = true → headSized sz ys = true →
      (∀ w' : World, w'.heap = w.heap → (Builtin.firstCells sz sLen (.slice base sLen sCap)).run P w' = .ok old.toArray w') → RowAt G old.toArray 0 sz xs → old.length = xs.length * sz →
      ∃ (cap : Nat) (cells : Array Value), (Builtin.append_ #[t, t2] ty #[vs, vy]).run P w = .ok (.slice (some ⟨w.heap.size, 0, none⟩) (xs.length + ys.length) cap) (World.more w.drew (.cells cells e)) ∧
        RowAt G cells 0 sz (xs ++ ys) ∧ cells.size = cap * sz ∧ xs.length + ys.length ≤ cap := by
    intro base sLen sCap xs old hvs hxl hcap hroom hsized hold hrow hol
    obtain ⟨hl, cells, hf, hcr, hcl, hc1⟩ := elems_sound (P := P) w hi ry hys (.inl hsized)
    obtain ⟨cap, rest, h3, h4, h5⟩ := run_append_grow (P := P) w (ty := ty) (vy := vy) (base := base) (old := old) (new := cells) hu h2 hie hs hb hzz hb0 hl hcap hroom hbm hold hf
    refine ⟨cap, _, by rw [hvs, hxl]; exact h5, hrow.append (by simpa using hol) hcr (by simpa using hcl) rfl, grow_size (by simpa using hol) (by simpa using hcl) (by rw [h4, hzs, hxl]) (by omega), by omega⟩
  -- a list grows
  have list_grow : ∀ {base : Option Addr} {sCap : Nat} {xs : List PV} {old : List Value}, vs = .slice base xs.length sCap → sCap < xs.length + ys.length → roomy (xs.length + ys.length) by_ = true → headSized sz ys = true →
      (∀ w' : World, w'.heap = w.heap → (Builtin.firstCells sz xs.length (.slice base xs.length sCap)).run P w' = .ok old.toArray w') → RowAt G old.toArray 0 sz xs → old.length = xs.length * sz →
      r = .sref σ.length 0 sz 0 (xs.length + ys.length) → σ' = σ ++ [.arr 0 sz (xs ++ ys)] →
      ∃ v w' G', (Builtin.append_ #[t, t2] ty #[vs, vy]).run P w = .ok v w' ∧ Inv G' N σ' w' ∧ Ext G σ w G' σ' w' ∧ RelV G' r v := by
    intro base sCap xs old hvs hcap hroom hsized hold hrow hol hr hσ
    obtain ⟨cap, cells, h3, h4, h5, h6⟩ := grow_case hvs rfl hcap hroom hsized hold hrow hol
    have hdrew : Inv G N σ w.drew := hi.same rfl
    obtain ⟨p1, p2, p3⟩ := push_sound hdrew sz (xs ++ ys) cells e hsz (by rw [List.length_append, h5]; exact Nat.mul_le_mul_right _ h6) h4
    refine ⟨_, _, _, h3, hσ ▸ p1, hσ ▸ (p2.of_same rfl rfl rfl rfl), ?_⟩
    subst hr
    have := RelV.sref (G := G.newAt σ.length 0 (w.heap.size, 0, sz, cells.size)) σ.length 0 sz 0 (xs.length + ys.length) w.heap.size 0 cells.size cap (Gh.newAt_at _ _ _ _) h6 (by rw [h5, Nat.zero_add, Nat.zero_add]; exact Nat.le_refl _)
    simpa using this
  cases rs with
  | nillist =>
    simp only [List.isEmpty_iff] at h
    split at h
    · rename_i hy0
      simp only [Option.some.injEq, Prod.mk.injEq] at h
      exact none_case rfl (Nat.le_refl 0) hy0 h.1.symm h.2.symm
    · rename_i hy0
      split at h
      · rename_i hh
        simp only [Option.some.injEq, Prod.mk.injEq] at h
        have hyl : 0 < ys.length := List.length_pos_iff.2 hy0
        exact list_grow (xs := []) (old := []) rfl (by simpa using hyl) hh.2.1 hh.2.2.2 (fun w' _ => by simp [Builtin.firstCells]) ⟨fun _ => undef, by simp, by simp⟩ (by simp) h.1.symm h.2.symm
      · simp at h
  | emptyl a c =>
    simp only [List.isEmpty_iff] at h
    split at h
    · rename_i hy0
      simp only [Option.some.injEq, Prod.mk.injEq] at h
      exact none_case rfl (Nat.zero_le _) hy0 h.1.symm h.2.symm
    · simp at h
  | list k xs B O z cap vs' h1 h2' h3 hr hc =>
    simp only [List.isEmpty_iff] at h
    split at h
    · rename_i hy0
      simp only [Option.some.injEq, Prod.mk.injEq] at h
      exact none_case rfl h3 hy0 h.1.symm h.2.symm
    · rename_i hy0
      split at h
      · rename_i hh
        simp only [Option.some.injEq, Prod.mk.injEq] at h
        have hyl : 0 < ys.length := List.length_pos_iff.2 hy0
        have hfull : k = .full := by
          cases k with
          | nil => exact absurd rfl h1
          | full => rfl
          | part => exact absurd rfl hh.1
        have hcapx := h2' hfull
        obtain ⟨_, old, ho, hor, hol, _⟩ := elems_sound (P := P) (y := .list k xs) w hi (.list k xs B O z cap vs' h1 h2' h3 hr hc) rfl (.inl hh.2.2.1)
        exact list_grow (xs := xs) (old := old) rfl (by omega) hh.2.1 hh.2.2.2 ho hor hol h.1.symm h.2.symm
      · simp at h
  | sref b g z off len B O n cap hm h1 h3 =>
    simp only [List.isEmpty_iff] at h
    split at h
    · rename_i hy0
      simp only [Option.some.injEq, Prod.mk.injEq] at h
      exact none_case rfl h1 hy0 h.1.symm h.2.symm
    · rename_i hy0
      have hyl : 0 < ys.length := List.length_pos_iff.2 hy0
      cases hbl : σ[b]? with
      | none => simp [hbl] at h
      | some blk =>
      cases blk with
      | arr g' z'' xs =>
        simp only [hbl] at h
        split at h
        · rename_i hh
          obtain ⟨rfl, rfl, hle, hroom, hsized⟩ := hh
          simp only [Option.some.injEq, Prod.mk.injEq] at h
          obtain ⟨hr, hσ⟩ := h
          have hblk := hi.blk b _ hbl
          have hbb := hblk
          obtain ⟨B', O', n', cs, el, hm', hN, hheap, hn, hxsz, hpos, vs', hrel, hcell⟩ := hblk
          rw [hm] at hm'
          simp only [Option.some.injEq, Prod.mk.injEq] at hm'
          obtain ⟨rfl, rfl, rfl, rfl⟩ := hm'
          have hbase : baseOf G b (.arr g z xs) = some B := by simp [baseOf, hm]
          have hlen : ((xs.drop off).take len).length = len := by simp; omega
          have hnone : G.μ b (g + 1) = none := hi.gen b g z xs hbl (g + 1) (by omega)
          have hgenN : ∀ (y : Nat × Nat × Nat × Nat) (h' : Nat), g + 1 < h' → (G.newAt b (g + 1) y).μ b h' = none := by
            intro y h' hlt
            simp only [Gh.newAt]
            rw [if_neg (by omega)]
            exact hi.gen b g z xs hbl h' (by omega)
          have hothN : ∀ (y : Nat × Nat × Nat × Nat) (c h' : Nat), c ≠ b → (G.newAt b (g + 1) y).μ c h' = G.μ c h' := by
            intro y c h' hc
            simp only [Gh.newAt]
            rw [if_neg (by omega)]
          have hsub : RowAt G cs (O + off * z) z ((xs.drop off).take len) := by
            refine ⟨fun i => vs' (off + i), fun i x hx => ?_, fun i hil => ?_⟩
            · rw [List.getElem?_take] at hx
              split at hx
              · rw [List.getElem?_drop] at hx; exact hrel _ _ hx
              · simp at hx
            · obtain ⟨q1, q2⟩ := hcell (off + i) (by omega)
              refine ⟨q1, fun j v hj => ⟨(q2 j v hj).1, ?_⟩⟩
              rw [show O + off * z + i * z + j = O + (off + i) * z + j by rw [Nat.add_mul]; omega]
              exact (q2 j v hj).2
          have hlew : (off + len) * z ≤ xs.length * z := Nat.mul_le_mul_right _ hle
          rw [Nat.add_mul] at hlew
          by_cases hroom2 : len + ys.length ≤ cap
          · -- in place
            obtain ⟨hl, new, hf, hnr, hnl, hn1⟩ := elems_sound (P := P) w hi ry hys (.inl hsized)
            have hcapw : (len + ys.length) * z ≤ cap * z := Nat.mul_le_mul_right _ hroom2
            rw [Nat.add_mul] at hcapw
            have h3' := h3
            rw [Nat.add_mul] at h3'
            have hfit : O + off * z + len * z + new.length ≤ cs.size := by omega
            have hrun := run_append_in (P := P) w (ty := ty) (sLen := len) (sCap := cap) (p := O + off * z) hu h2 hie hl hroom2 (by rw [hs]; exact hf w rfl) hheap hn1 (by rw [hs]; exact hfit)
            rw [hs] at hrun
            generalize hcs' : (cs.toList.take (O + off * z + len * z) ++ new ++ cs.toList.drop (O + off * z + len * z + new.length)).toArray = cs' at hrun
            have hget : ∀ j : Nat, cs'[j]? = if O + off * z + len * z ≤ j ∧ j < O + off * z + len * z + new.length then new[j - (O + off * z + len * z)]? else cs[j]? := by
              intro j
              rw [← hcs', List.getElem?_toArray, getElem?_splice _ _ _ (by simpa using hfit)]
              simp
            have hcsz : cs'.size = cs.size := by rw [← hcs', List.size_toArray, size_splice _ _ _ (by simpa using hfit)]; simp
            have le := Gh.newAt_le (y := (B, O + off * z, z, cs.size)) hnone
            have hrow2 : RowAt G cs' (O + off * z) z ((xs.drop off).take len ++ ys) := by
              obtain ⟨us, r1, k1⟩ := hsub
              obtain ⟨ws, r2, k2⟩ := hnr
              refine ⟨fun i => if i < len then us i else ws (i - len), fun i x hx => ?_, fun i hil => ?_⟩
              · rw [List.getElem?_append, hlen] at hx
                show RelV G x (if i < len then us i else ws (i - len))
                split at hx
                · rename_i hlt; rw [if_pos hlt]; exact r1 i x hx
                · rename_i hlt; rw [if_neg hlt]; exact r2 _ x hx
              · rw [List.length_append, hlen] at hil
                by_cases hlt : i < len
                · simp only [hlt, if_true]
                  obtain ⟨q1, q2⟩ := k1 i (by omega)
                  refine ⟨q1, fun j v hj => ⟨(q2 j v hj).1, ?_⟩⟩
                  have hjz : j < z := by have := (Array.getElem?_eq_some_iff.1 hj).1; omega
                  have : (i + 1) * z ≤ len * z := Nat.mul_le_mul_right _ hlt
                  rw [Nat.add_mul] at this
                  rw [hget, if_neg (by omega)]
                  exact (q2 j v hj).2
                · simp only [hlt, if_false]
                  obtain ⟨q1, q2⟩ := k2 (i - len) (by omega)
                  refine ⟨q1, fun j v hj => ⟨(q2 j v hj).1, ?_⟩⟩
                  have hjz : j < z := by have := (Array.getElem?_eq_some_iff.1 hj).1; omega
                  have h9 := (q2 j v hj).2
                  simp only [List.getElem?_toArray] at h9
                  have hmul : i * z = len * z + (i - len) * z := by rw [← Nat.add_mul]; congr 1; omega
                  have hlt2 := (List.getElem?_eq_some_iff.1 h9).1
                  rw [hget, if_pos (by omega), ← h9]
                  congr 1
                  omega
            obtain ⟨p1, p2⟩ := repl_sound (G' := G.newAt b (g + 1) (B, O + off * z, z, cs.size)) (w' := w.setRow B cs') (g' := g + 1) (z' := z) (ys := (xs.drop off).take len ++ ys) hi hbl hbase le rfl rfl (hothN _) (Gh.newAt_at _ _ _ _) (hgenN _) (.inl rfl)
              (fun k _ hk => setRow_ext_heap w B cs' k hk) rfl rfl rfl (by rw [setRow_size]; exact Nat.le_refl _)
              ⟨B, O + off * z, cs.size, cs', el, Gh.newAt_at _ _ _ _, hN, setRow_heap w B cs cs' el (0, 0) hheap, hcsz, by rw [List.length_append, hlen, Nat.add_mul]; omega, hpos, hrow2.mono le⟩
            refine ⟨_, _, _, hrun, hσ ▸ p1, hσ ▸ p2, ?_⟩
            subst hr
            have := RelV.sref (G := G.newAt b (g + 1) (B, O + off * z, z, cs.size)) b (g + 1) z 0 (len + ys.length) B (O + off * z) cs.size cap (Gh.newAt_at _ _ _ _) hroom2 (by rw [Nat.zero_add]; omega)
            simpa using this
          · -- elsewhere
            obtain ⟨_, old, ho, hor, hol, _⟩ := elems_sound (P := P) (sz := z) (y := .sref b g z off len) (ys := (xs.drop off).take len) w hi (.sref b g z off len B O n cap hm h1 h3) (by simp [vElems, hbl, hle]) (.inr ⟨_, _, _, _, rfl⟩)
            rw [hlen] at ho hol
            obtain ⟨cap', cells, h4, h5, h6, h7⟩ := grow_case (xs := (xs.drop off).take len) rfl hlen (by omega) hroom hsized ho hor (by rw [hlen]; exact hol)
            rw [hlen] at h4 h7
            have le := Gh.newAt_le (y := (w.heap.size, 0, z, cells.size)) hnone
            have hiD : Inv G N σ w.drew := hi.same rfl
            obtain ⟨p1, p2⟩ := repl_sound (G' := G.newAt b (g + 1) (w.heap.size, 0, z, cells.size)) (w' := World.more w.drew (.cells cells e)) (g' := g + 1) (z' := z) (ys := (xs.drop off).take len ++ ys) hiD hbl hbase le rfl rfl (hothN _) (Gh.newAt_at _ _ _ _) (hgenN _) (.inr (Nat.le_refl _))
              (fun k hk _ => more_heap_lt _ _ _ hk) rfl rfl rfl (by rw [more_size]; omega)
              ⟨w.heap.size, 0, cells.size, cells, e, Gh.newAt_at _ _ _ _, hi.big, by rw [more_heap]; exact if_pos rfl, rfl, by rw [List.length_append, hlen, h6]; have := Nat.mul_le_mul_right z h7; omega, hpos, h5.mono le⟩
            refine ⟨_, _, _, h4, hσ ▸ p1, hσ ▸ (p2.of_same rfl rfl rfl rfl), ?_⟩
            subst hr
            have := RelV.sref (G := G.newAt b (g + 1) (w.heap.size, 0, z, cells.size)) b (g + 1) z 0 (len + ys.length) w.heap.size 0 cells.size cap' (Gh.newAt_at _ _ _ _) h7 (by rw [h6, Nat.zero_add, Nat.zero_add]; exact Nat.le_refl _)
            simpa using this
        · simp at h
      | _ => simp [hbl] at h
  | _ => simp at h

end
end Go.Abs
