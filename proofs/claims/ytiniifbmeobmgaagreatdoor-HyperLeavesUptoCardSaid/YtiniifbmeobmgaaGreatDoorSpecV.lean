/- The package's search for bindings. -/
import Derived.Test.YtiniifbmeobmgaaGreatDoorSpecU
set_option linter.unusedVariables false
set_option linter.unusedSimpArgs false
namespace Go.Proofs.YtiniifbmeobmgaaGreatDoor
open Go Go.Abs

def pvE (E : Binds) : List (PV × PV) := E.map fun b => (.str b.1, .str b.2)

theorem find_E (s : Str) : ∀ (E : Binds) (i : Nat), ∃ o, vFind .str (.str s) (pvE E) i = some o ∧ (match o with
    | some (j, v) => ∃ x, v = .str x ∧ valueOf E s = some x ∧ i ≤ j ∧ E[j - i]? = some (s, x)
    | none => valueOf E s = none)
  | [], i => ⟨none, rfl, rfl⟩
  | a :: E, i => by
    obtain ⟨o, h1, h2⟩ := find_E s E (i + 1)
    by_cases h : s = a.1
    · subst h
      refine ⟨some (i, .str a.2), by simp [pvE, vFind, vEqS], a.2, rfl, by simp [valueOf], Nat.le_refl _, by simp⟩
    · have hb : (s == a.1) = false := by simpa using h
      have hb2 : (a.1 == s) = false := by simpa using Ne.symm h
      have hv : valueOf (a :: E) s = valueOf E s := by simp [valueOf, List.find?_cons, hb2]
      refine ⟨o, ?_, ?_⟩
      · simp only [pvE, List.map_cons, vFind, vEqS, hb]
        exact h1
      · cases o with
        | none => rw [hv]; exact h2
        | some q =>
          obtain ⟨j, v⟩ := q
          obtain ⟨x, q1, q2, q3, q4⟩ := h2
          refine ⟨x, q1, by rw [hv]; exact q2, by omega, ?_⟩
          rw [show j - i = (j - (i + 1)) + 1 by omega, List.getElem?_cons_succ]
          exact q4

theorem lookup_E {σ : St} {b v : Nat} {E : Binds} (h : σ[b]? = some (.map v (pvE E))) (s : Str) : vLookup .str (.str []) true (.mref b) (.str s) σ = some (match valueOf E s with
    | some x => .tuple [.str x, .bool true]
    | none => .tuple [.str [], .bool false]) := by
  obtain ⟨o, h1, h2⟩ := find_E s E 0
  simp only [vLookup, h, isKey, if_true, h1]
  cases o with
  | none => rw [show valueOf E s = none from h2]
  | some q =>
    obtain ⟨j, w⟩ := q
    obtain ⟨x, rfl, q2, _⟩ := h2
    rw [q2]

theorem set_E {σ : St} {b v : Nat} {E : Binds} (h : σ[b]? = some (.map v (pvE E))) {s x : Str} (hs : valueOf E s = none) : vMapSet .str (.mref b) (.str s) (.str x) σ = some (σ.set b (.map (v + 1) (pvE (E ++ [(s, x)])))) := by
  obtain ⟨o, h1, h2⟩ := find_E s E 0
  cases o with
  | some q =>
    obtain ⟨j, w⟩ := q
    obtain ⟨y, _, q2, _⟩ := h2
    rw [hs] at q2
    cases q2
  | none => simp only [vMapSet, h, isKey, if_true, h1]; simp [pvE]

theorem once_app {E : Binds} {s x : Str} (h : Once E) (hs : valueOf E s = none) : Once (E ++ [(s, x)]) := by
  refine List.pairwise_append.2 ⟨h, by simp, fun a ha b hb => ?_⟩
  simp at hb
  subst hb
  exact valueOf_none.1 hs a ha

theorem del_E {σ : St} {b v : Nat} {E : Binds} {s x : Str} (h : σ[b]? = some (.map v (pvE (E ++ [(s, x)])))) (ho : Once E) (hs : valueOf E s = none) : vMapDel .str (.mref b) (.str s) σ = some (σ.set b (.map (v + 1) (pvE E))) := by
  obtain ⟨o, h1, h2⟩ := find_E s (E ++ [(s, x)]) 0
  cases o with
  | none =>
    have := valueOf_none.1 h2 (s, x) (by simp)
    exact absurd rfl this
  | some q =>
    obtain ⟨j, w⟩ := q
    obtain ⟨y, _, q2, _, q4⟩ := h2
    have hj : j = E.length := by
      by_cases hjl : j < E.length
      · rw [Nat.sub_zero, List.getElem?_append_left hjl] at q4
        exact absurd rfl (valueOf_none.1 hs _ (List.mem_of_getElem? q4))
      · have := (List.getElem?_eq_some_iff.1 q4).1
        simp at this
        omega
    subst hj
    simp only [vMapDel, h, isKey, if_true, h1]
    congr 3
    simp [pvE, List.eraseIdx_append_of_length_le]

/-! ### The matcher -/

section
variable (S0 : St) (P t Y mb A ixb : Nat) (yb bm : Nat → Nat) (bc : Nat → Nat → Nat) (g : Gram) (ws : List Str) (wk : LK) (T : Tab) (l : List Part) (lk : LK) (most : Nat)

/-- What does not change while the matcher looks. -/
structure Stat (σ : St) : Prop where
  ht : HT σ t A ixb bm bc g ws wk T
  top : σ[Y]? = some (.arr 0 1 ((List.range (l.length + 1)).map fun k => .sref (yb k) 0 1 0 (ws.length + 1)))
  row : ∀ k ≤ l.length, σ[yb k]? = some (.arr 0 1 (bl (ws.length + 1) fun a => mayB ws (fpart g ws T) (l.drop k) a))

structure MS (σ : St) (E : Binds) (out : List Binds) (ov : PV) (es : List PV) : Prop where
  agree : ∀ c < S0.length, c ≠ P → c ≠ mb → σ[c]? = S0[c]?
  len : S0.length ≤ σ.length
  cell : σ[P]? = some (.arr 0 6 [.agg [.ptr t 0 0 0, .list lk (l.map pvPart), .sref Y 0 1 0 (l.length + 1), .mref mb, ov, .int .i64 (most : Nat)]])
  map : ∃ v, σ[mb]? = some (.map v (pvE E))
  out : OutAt S0.length σ ov out es
end

section
variable {S0 : St} {P t Y mb A ixb : Nat} {yb bm : Nat → Nat} {bc : Nat → Nat → Nat} {g : Gram} {ws : List Str} {wk : LK} {T : Tab} {l : List Part} {lk : LK} {most : Nat}

theorem Stat.keep (h : Stat t Y A ixb yb bm bc g ws wk T l S0) {oP : List PV} (hP : S0[P]? = some (.arr 0 6 oP)) {vm : Nat} {em : List (PV × PV)} (hm : S0[mb]? = some (.map vm em)) (hne : ixb ≠ mb) {σ : St} (ha : ∀ c < S0.length, c ≠ P → c ≠ mb → σ[c]? = S0[c]?) :
    Stat t Y A ixb yb bm bc g ws wk T l σ := by
  have harr : ∀ {c gg : Nat} {ys : List PV}, S0[c]? = some (.arr gg 1 ys) → σ[c]? = some (.arr gg 1 ys) := fun {c gg ys} hc => by
    rw [ha c (List.getElem?_eq_some_iff.1 hc).1 (fun he => by rw [he, hP] at hc; cases hc) (fun he => by rw [he, hm] at hc; cases hc)]
    exact hc
  refine ⟨⟨?_, ?_, ⟨harr h.ht.tab.top, fun m hm' => harr (h.ht.tab.mid m hm'), fun m hm' a ha' => harr (h.ht.tab.bot m hm' a ha'), h.ht.tab.inj, h.ht.tab.neA, h.ht.tab.neM⟩⟩, harr h.top, fun k hk => harr (h.row k hk)⟩
  · have hc := h.ht.cell
    rw [ha t (List.getElem?_eq_some_iff.1 hc).1 (fun he => by rw [he, hP] at hc; cases hc) (fun he => by rw [he, hm] at hc; cases hc)]
    exact hc
  · obtain ⟨v, hv⟩ := h.ht.map
    refine ⟨v, ?_⟩
    rw [ha ixb (List.getElem?_eq_some_iff.1 hv).1 (fun he => by rw [he, hP] at hv; cases hv) hne]
    exact hv

theorem MS.setmap {σ : St} {E E' : Binds} {out : List Binds} {ov : PV} {es : List PV} (h : MS S0 P t Y mb l lk most σ E out ov es) (v : Nat) : MS S0 P t Y mb l lk most (σ.set mb (.map v (pvE E'))) E' out ov es := by
  obtain ⟨v0, hv0⟩ := h.map
  have hl := (List.getElem?_eq_some_iff.1 hv0).1
  have hPm : P ≠ mb := fun he => by have := h.cell; rw [he, hv0] at this; cases this
  have harr : ∀ {c gg z : Nat} {ys : List PV}, σ[c]? = some (.arr gg z ys) → (σ.set mb (.map v (pvE E')))[c]? = some (.arr gg z ys) := fun {c gg z ys} hc => by
    rw [List.getElem?_set_ne (fun he => by rw [← he, hv0] at hc; cases hc)]
    exact hc
  refine ⟨fun c hc h1 h2 => ?_, by simpa using h.len, harr h.cell, ⟨v, List.getElem?_set_self hl⟩, ⟨?_, h.out.len, fun i e B h1 h2 => ?_⟩⟩
  · rw [List.getElem?_set_ne (Ne.symm h2)]; exact h.agree c hc h1 h2
  · rcases h.out.grow with hh | ⟨b, g, h1, h2, h3, h4⟩
    · exact .inl hh
    · exact .inr ⟨b, g, h1, h2, harr h3, h4⟩
  · rcases h.out.mem i e B h1 h2 with hh | ⟨b, g, h3, h4⟩
    · exact .inl hh
    · exact .inr ⟨b, g, h3, harr h4⟩

theorem MS.ld (h : ∀ k, k < 6 → True) {σ : St} {E : Binds} {out : List Binds} {ov : PV} {es : List PV} (hM : MS S0 P t Y mb l lk most σ E out ov es) :
    vLoad false 1 (.ptr P 0 0 0) σ = some (.ptr t 0 0 0) ∧ vLoad false 1 (.ptr P 0 0 1) σ = some (.list lk (l.map pvPart)) ∧ vLoad false 1 (.ptr P 0 0 2) σ = some (.sref Y 0 1 0 (l.length + 1)) ∧ vLoad false 1 (.ptr P 0 0 3) σ = some (.mref mb) ∧ vLoad false 1 (.ptr P 0 0 4) σ = some ov ∧ vLoad false 1 (.ptr P 0 0 5) σ = some (.int .i64 (most : Nat)) := by
  have hc := hM.cell
  refine ⟨?_, ?_, ?_, ?_, ?_, ?_⟩ <;> simp [vLoad, hc]

theorem gb_list (ys : Binds) : ys.map pvBind = gb ys.length fun k => ys[k]?.getD ([], []) := by
  refine List.ext_getElem? fun k => ?_
  by_cases h : k < ys.length
  · rw [gb_get h]
    simp [h]
  · simp [gb, h]

theorem list_gb (n : Nat) (f : Nat → Bind) : gb n f = ((List.range n).map f).map pvBind := by
  simp [gb]

theorem mem_rng {n : Nat} {f : Nat → Bind} {x : Bind} : x ∈ (List.range n).map f ↔ ∃ k < n, f k = x := by
  simp

/-- The binds that lie in the map, sorted and put to what has been found. -/
theorem gather {n σ : St} {E B : Binds} {out : List Binds} {ov : PV} {es : List PV} (hM : MS S0 P t Y mb l lk most σ E out ov es) (hPl : P < S0.length) (hml : mb < S0.length) (hPm : P ≠ mb) (hE : Once E) (hB : SortB B) (hEB : ∀ x, x ∈ E ↔ x ∈ B) (hEl : E.length < 9) (hol : out.length ≤ most) (hmost : most ≤ 900) {R : Res → St → Prop}
    (hR : ∀ σ' ov' es', MS S0 P t Y mb l lk most σ' E (out ++ [B]) ov' es' → R (.ret (.bool (decide (out.length + 1 ≤ most)))) σ') :
    bindO False (vNil (.ptr P 0 0 0)) fun v13 =>
    bindO False (vField 3 v13) fun v14 =>
    bindO False (vLoad false 1 v14 σ) fun v15 =>
    bindS (vRange v15 σ) fun v16 σ17 =>
    Lfp n (fun Φ18 x19 σ20 =>
    bindO False (vNexts (x19 38) σ20) fun l21 => allW l21 fun v22 σ23 =>
    bindO False (vExtract v22 0) fun v24 =>
    condW v24 (
    bindO False (vEntry (x19 38) σ23) fun v25 =>
    bindO False (vExtract v25 0) fun v26 =>
    bindO False (vExtract v25 1) fun v27 =>
    bindO False (vBuild [(.str []), (.str [])] [(0, 1, v26), (1, 1, v27)]) fun v28 =>
    bindO False (vBuildSl 2 (List.replicate 1 (.agg [(.str []), (.str [])])) [(0, (.agg v28))]) fun v29 =>
    bindS (vAppend 2 32 (x19 7) (.list .full v29) σ23) fun v30 σ31 =>
    Φ18 (lookP [(0, (x19 0)), (7, v30), (38, (x19 38))]) σ31) (
    callB W 144 [(x19 7), (.func 145 [])] σ23 (fun v32 σ33 =>
    bindO False (vNil (x19 0)) fun v34 =>
    bindO False (vField 4 v34) fun v35 =>
    bindO False (vLoad false 1 v35 σ33) fun v36 =>
    bindO False (vBuildSl 1 (List.replicate 1 (.list .nil [])) [(0, (x19 7))]) fun v37 =>
    bindS (vAppend 1 24 v36 (.list .full v37) σ33) fun v38 σ39 =>
    bindO False (vNil (x19 0)) fun v40 =>
    bindO False (vField 4 v40) fun v41 =>
    bindO False (vStore 1 v41 v38 σ39) fun σ42 =>
    bindO False (vNil (x19 0)) fun v43 =>
    bindO False (vField 4 v43) fun v44 =>
    bindO False (vLoad false 1 v44 σ42) fun v45 =>
    bindO False (vLen .sl v45 σ42) fun v46 =>
    bindO False (vNil (x19 0)) fun v47 =>
    bindO False (vField 5 v47) fun v48 =>
    bindO False (vLoad false 1 v48 σ42) fun v49 =>
    bindO False (vBin none .leq v46 v49) fun v50 =>
    weakW σ v50 σ42 fun v σ => R (.ret v) σ) (fun e51 σ52 => R (.pan e51) σ52))) (lookP [(0, (.ptr P 0 0 0)), (7, (.list .nil [])), (38, v16)]) σ17 := by
  obtain ⟨l0, l1, l2, l3, l4, l5⟩ := hM.ld (fun _ _ => trivial)
  obtain ⟨v, hv⟩ := hM.map
  have hlen := hM.len
  have hel : (pvE E).length = E.length := by simp [pvE]
  have hrange : vRange (.mref mb) σ = some (.ptr σ.length 0 0 0, σ ++ [.iter (some (mb, v)) none (List.range E.length)]) := by
    simp only [vRange, hv, hel]
  simp only [vNil_ptr, l3, hrange, zz, Nat.reduceEqDiff]
  refine Lfp_up E.length (fun u x σ' => ∃ (left : List Nat) (last : Option Nat) (ys : Binds) (vb : PV), x = lookP [(0, .ptr P 0 0 0), (7, vb), (38, .ptr σ.length 0 0 0)] ∧ σ'[σ.length]? = some (.iter (some (mb, v)) last left) ∧ Grow σ.length 2 σ' vb (ys.map pvBind) ∧ σ <+: σ' ∧
      left.length + u = E.length ∧ left.Nodup ∧ (∀ i ∈ left, i < E.length) ∧ (∀ x, x ∈ ys ↔ ∃ i, i < E.length ∧ i ∉ left ∧ E[i]? = some x) ∧ Once ys ∧ ys.length = u) ?_
    ⟨List.range E.length, none, [], _, rfl, new_get _ _, .nil _ _ _, ⟨_, rfl⟩, by simp, List.nodup_range, fun i hi => List.mem_range.1 hi, fun x => by simp; omega, List.Pairwise.nil, rfl⟩
  rintro Φ u x σ' hu ⟨left, last, ys, vb, rfl, hit, hgr, hp, hll, hnd, hlt, hys, hon, hyl⟩ next
  have hv' : σ'[mb]? = some (.map v (pvE E)) := get_pre hp hv
  have hitl := (List.getElem?_eq_some_iff.1 hit).1
  simp only [zz, Nat.reduceEqDiff]
  cases left with
  | nil =>
    have hu' : u = E.length := by simpa using hll
    have hn : vNexts (.ptr σ.length 0 0 0) σ' = some [(.tuple [.bool false], σ')] := by simp [vNexts, hit, hv']
    simp only [hn, zz, Nat.reduceEqDiff]
    intro p hpm
    simp only [List.mem_singleton] at hpm
    subst hpm
    simp only [zz, Nat.reduceEqDiff]
    -- what lies in the block is what lies in the map
    have hmem : ∀ x, x ∈ ys ↔ x ∈ E := fun x => by
      rw [hys]
      constructor
      · rintro ⟨i, _, _, h⟩; exact List.mem_of_getElem? h
      · intro h
        obtain ⟨i, hi⟩ := List.getElem?_of_mem h
        exact ⟨i, (List.getElem?_eq_some_iff.1 hi).1, by simp, hi⟩
    have fin : ∀ σ2, (∀ c < σ.length, σ2[c]? = σ[c]?) → σ.length ≤ σ2.length → BAt σ2 vb B → bindO False (vNil (.ptr P 0 0 0)) (fun v34 =>
        bindO False (vField 4 v34) fun v35 =>
        bindO False (vLoad false 1 v35 σ2) fun v36 =>
        bindO False (vBuildSl 1 (List.replicate 1 (.list .nil [])) [(0, vb)]) fun v37 =>
        bindS (vAppend 1 24 v36 (.list .full v37) σ2) fun v38 σ39 =>
        bindO False (vNil (.ptr P 0 0 0)) fun v40 =>
        bindO False (vField 4 v40) fun v41 =>
        bindO False (vStore 1 v41 v38 σ39) fun σ42 =>
        bindO False (vNil (.ptr P 0 0 0)) fun v43 =>
        bindO False (vField 4 v43) fun v44 =>
        bindO False (vLoad false 1 v44 σ42) fun v45 =>
        bindO False (vLen .sl v45 σ42) fun v46 =>
        bindO False (vNil (.ptr P 0 0 0)) fun v47 =>
        bindO False (vField 5 v47) fun v48 =>
        bindO False (vLoad false 1 v48 σ42) fun v49 =>
        bindO False (vBin none .leq v46 v49) fun v50 =>
        weakW σ v50 σ42 fun v σ => R (.ret v) σ) := by
      intro σ2 hag hle hBe
      have hget : ∀ {c : Nat} {k : Blk}, σ[c]? = some k → σ2[c]? = some k := fun {c k} hk => by rw [hag c (List.getElem?_eq_some_iff.1 hk).1]; exact hk
      have hcell2 := hget hM.cell
      have hO2 := hM.out.keep hag
      have hsz : Sized 1 vb := by
        rcases hBe with ⟨k, rfl⟩ | ⟨b, g, rfl, _⟩
        · exact ⟨_, rfl, rfl⟩
        · exact ⟨_, rfl, rfl⟩
      obtain ⟨ov', σ3, e1, e2, e3⟩ := hO2.app (σ0 := σ2.take S0.length) (by simp; omega) (List.take_prefix _ _) hBe (by omega)
      have hag3 : ∀ c < S0.length, σ3[c]? = σ2[c]? := fun c hc => by
        obtain ⟨e, rfl⟩ := e3
        rw [List.getElem?_append_left (by simp; omega), List.getElem?_take, if_pos hc]
      have hlen3 : S0.length ≤ σ3.length := by
        have := e3.length_le
        simp at this
        omega
      have hcell3 : σ3[P]? = some (.arr 0 6 [.agg [.ptr t 0 0 0, .list lk (l.map pvPart), .sref Y 0 1 0 (l.length + 1), .mref mb, ov, .int .i64 (most : Nat)]]) := by rw [hag3 P hPl]; exact hcell2
      have hld : vLoad false 1 (.ptr P 0 0 4) σ2 = some ov := by simp [vLoad, hcell2]
      have hovc : ov'.cells? = some [ov'] := grow_cell e2.grow
      have hput : vPut 1 (.agg [.ptr t 0 0 0, .list lk (l.map pvPart), .sref Y 0 1 0 (l.length + 1), .mref mb, ov, .int .i64 (most : Nat)]) 4 ov' = some (.agg [.ptr t 0 0 0, .list lk (l.map pvPart), .sref Y 0 1 0 (l.length + 1), .mref mb, ov', .int .i64 (most : Nat)]) := by
        unfold vPut
        rw [hovc]
        rfl
      have hst : vStore 1 (.ptr P 0 0 4) ov' σ3 = some (σ3.set P (.arr 0 6 [.agg [.ptr t 0 0 0, .list lk (l.map pvPart), .sref Y 0 1 0 (l.length + 1), .mref mb, ov', .int .i64 (most : Nat)]])) := by
        simp only [vStore, hcell3, List.getElem?_cons_zero, hput, if_true]
        rfl
      have hcell4 : (σ3.set P (.arr 0 6 [.agg [.ptr t 0 0 0, .list lk (l.map pvPart), .sref Y 0 1 0 (l.length + 1), .mref mb, ov', .int .i64 (most : Nat)]]))[P]? = some (.arr 0 6 [.agg [.ptr t 0 0 0, .list lk (l.map pvPart), .sref Y 0 1 0 (l.length + 1), .mref mb, ov', .int .i64 (most : Nat)]]) := List.getElem?_set_self (by omega)
      have hO4 : OutAt S0.length (σ3.set P (.arr 0 6 [.agg [.ptr t 0 0 0, .list lk (l.map pvPart), .sref Y 0 1 0 (l.length + 1), .mref mb, ov', .int .i64 (most : Nat)]])) ov' (out ++ [B]) (es ++ [vb]) := by
        refine ⟨?_, e2.len, fun i e B' h1 h2 => ?_⟩
        · rcases e2.grow with hh | ⟨b, gg, h1, h2, h3, h4⟩
          · exact .inl hh
          · exact .inr ⟨b, gg, h1, h2, by rw [List.getElem?_set_ne (by omega)]; exact h3, h4⟩
        · rcases e2.mem i e B' h1 h2 with hh | ⟨b, gg, h3, h4⟩
          · exact .inl hh
          · exact .inr ⟨b, gg, h3, by rw [List.getElem?_set_ne (fun he => by rw [← he, hcell3] at h4; cases h4)]; exact h4⟩
      have hM4 : MS S0 P t Y mb l lk most (σ3.set P (.arr 0 6 [.agg [.ptr t 0 0 0, .list lk (l.map pvPart), .sref Y 0 1 0 (l.length + 1), .mref mb, ov', .int .i64 (most : Nat)]])) E (out ++ [B]) ov' (es ++ [vb]) := by
        refine ⟨fun c hc h1 h2 => ?_, by simpa using hlen3, hcell4, ⟨v, ?_⟩, hO4⟩
        · rw [List.getElem?_set_ne (Ne.symm h1), hag3 c hc, hag c (by omega)]
          exact hM.agree c hc h1 h2
        · rw [List.getElem?_set_ne hPm, hag3 mb hml]
          exact hget hv
      obtain ⟨m0, m1, m2, m3, m4, m5⟩ := hM4.ld (fun _ _ => trivial)
      have hlo : ∀ σ'', vLen .sl ov' σ'' = some (.int .i64 ((out.length + 1 : Nat) : Int)) := fun σ'' => by
        rw [hO4.grow.elems.len, hO4.len]
        simp
      simp only [vNil_ptr, hld, vBuildSl_one hsz, e1, hst, m4, hlo, m5, Int.ofNat_le, zz, Nat.reduceEqDiff]
      exact weakW_keep (hR _ ov' (es ++ [vb]) hM4)
    by_cases hy0 : ys = []
    · have hvb : vb = .list .nil [] := by
        rcases hgr with ⟨h, _⟩ | ⟨b, gg, _, _, _, h⟩
        · exact h
        · exact absurd (by simpa using h) (by simp [hy0])
      have hB0 : B = [] := by
        cases B with
        | nil => rfl
        | cons b B' =>
          have := (hmem b).2 ((hEB b).2 (by simp))
          rw [hy0] at this
          cases this
      subst hvb
      refine c144_nil.callB ?_
      refine fin σ' (fun c hc => ?_) hp.length_le (.inl ⟨.nil, by rw [hB0]; rfl⟩)
      obtain ⟨e, rfl⟩ := hp
      exact List.getElem?_append_left hc
    · rcases hgr with ⟨_, h⟩ | ⟨b, gg, hb1, rfl, hb3, hb4⟩
      · exact absurd (by simpa using h) hy0
      rw [gb_list] at hb3
      simp only [List.length_map] at fin ⊢
      have hget : ∀ p < ys.length, ys[p]? = some (ys[p]?.getD ([], [])) := fun p hp => by simp [hp]
      have hdf : Diff ys.length (fun k => ys[k]?.getD ([], [])) := by
        intro p q hp hq hpq
        have hpw := List.pairwise_iff_getElem.1 hon
        simp only [List.getElem?_eq_getElem hp, List.getElem?_eq_getElem hq, Option.getD_some]
        rcases Nat.lt_or_gt_of_ne hpq with h | h
        · exact hpw p q hp hq h
        · exact fun he => hpw q p hq hp h he.symm
      refine c144 hb3 (by omega) hdf fun σ2 f' h1 h2 h3 hs => ?_
      have hBf : (List.range ys.length).map f' = B := by
        refine sort_eq ?_ hB fun x => ?_
        · refine List.pairwise_iff_getElem.2 fun i j hi hj hij => ?_
          simp only [List.length_map, List.length_range] at hi hj
          simp only [List.getElem_map, List.getElem_range]
          exact hs.ord i j hij hj
        · rw [← hEB, ← hmem, mem_rng]
          constructor
          · rintro ⟨k, hk, rfl⟩
            obtain ⟨k', hk', he⟩ := hs.mem k hk
            rw [he]
            exact List.mem_of_getElem? (hget k' hk')
          · intro hx
            obtain ⟨k, hk⟩ := List.getElem?_of_mem hx
            have hkl := (List.getElem?_eq_some_iff.1 hk).1
            obtain ⟨k', hk', he⟩ := hs.mem' k hkl
            exact ⟨k', hk', by rw [← he, hk]; rfl⟩
      have hBl : B.length = ys.length := by rw [← hBf]; simp
      refine fin σ2 (fun c hc => ?_) (by rw [h3]; exact hp.length_le) (.inr ⟨b, gg, by rw [hBl], by rw [h1, list_gb, hBf]⟩)
      rw [h2 c (by omega)]
      obtain ⟨e, rfl⟩ := hp
      exact List.getElem?_append_left hc
  | cons i0 rest =>
    have hn : vNexts (.ptr σ.length 0 0 0) σ' = some ((i0 :: rest).map fun i => (.tuple [.bool true, .any, .any], σ'.set σ.length (.iter (some (mb, v)) (some i) ((i0 :: rest).erase i)))) := by simp [vNexts, hit, hv']
    rw [hn]
    simp only [zA]
    intro q hq
    obtain ⟨i, hi, rfl⟩ := List.mem_map.1 hq
    have hie := hlt i hi
    have hgi : E[i]? = some E[i] := by simp [hie]
    generalize E[i] = b at hgi
    have hmbl : mb ≠ σ.length := by have := (List.getElem?_eq_some_iff.1 hv).1; omega
    have hv2 : (σ'.set σ.length (.iter (some (mb, v)) (some i) ((i0 :: rest).erase i)))[mb]? = some (.map v (pvE E)) := by rw [List.getElem?_set_ne (Ne.symm hmbl)]; exact hv'
    have hit2 : (σ'.set σ.length (.iter (some (mb, v)) (some i) ((i0 :: rest).erase i)))[σ.length]? = some (.iter (some (mb, v)) (some i) ((i0 :: rest).erase i)) := List.getElem?_set_self hitl
    have hen : vEntry (.ptr σ.length 0 0 0) (σ'.set σ.length (.iter (some (mb, v)) (some i) ((i0 :: rest).erase i))) = some (.tuple [.str b.1, .str b.2]) := by
      simp only [vEntry, hit2, hv2, pvE, List.getElem?_map, hgi, if_true]
      rfl
    have hgr2 : Grow σ.length 2 (σ'.set σ.length (.iter (some (mb, v)) (some i) ((i0 :: rest).erase i))) vb (ys.map pvBind) := by
      rcases hgr with hh | ⟨bb, gg, h1, h2, h3, h4⟩
      · exact .inl hh
      · refine .inr ⟨bb, gg, h1, h2, ?_, h4⟩
        rw [List.getElem?_set_ne (fun he => by rw [← he, hit] at h3; cases h3)]
        exact h3
    have hp2 : σ <+: σ'.set σ.length (.iter (some (mb, v)) (some i) ((i0 :: rest).erase i)) := pre_set hp (Nat.le_refl _) _
    have hbd : vBuild [(.str []), (.str [])] [(0, 1, .str b.1), (1, 1, .str b.2)] = some [.str b.1, .str b.2] := rfl
    have hpb : PV.agg [.str b.1, .str b.2] = pvBind b := rfl
    obtain ⟨v', σ'', e1, e2, e3, e4⟩ := hgr2.app (by_ := 32) (y := .list .full [pvBind b]) hp2 rfl (by simpa using sizedBind b) (by simp; omega)
    simp only [hen, hbd, hpb, vBuildSl_one (sizedBind b), e1, zz, Nat.reduceEqDiff]
    have hitn : σ''[σ.length]? = some (.iter (some (mb, v)) (some i) ((i0 :: rest).erase i)) := by
      rw [e4 σ.length (fun bb gg z o ll ho hcb => ?_) (by simpa using hitl)]
      · exact hit2
      · subst hcb
        rcases hgr2 with ⟨hh, _⟩ | ⟨b2, g2, h1, h2, h3, h4⟩
        · rw [ho] at hh; cases hh
        · rw [ho] at h2
          cases h2
          rw [hit2] at h3
          cases h3
    have hul : (i0 :: rest).length = E.length - u := by omega
    have hern : ((i0 :: rest).erase i).Nodup := hnd.erase i
    have hmer : ∀ j, j ∈ (i0 :: rest).erase i ↔ j ≠ i ∧ j ∈ i0 :: rest := fun j => by rw [hnd.mem_erase_iff]
    refine next _ _ (by simp at hul; omega) ⟨(i0 :: rest).erase i, some i, ys ++ [b], v', rfl, hitn, by simpa using e2, e3, ?_, hern, fun j hj => hlt j ((hmer j).1 hj).2, fun x => ?_, ?_, by simp [hyl]⟩
    · rw [List.length_erase_of_mem hi]
      simp only [List.length_cons] at hll ⊢
      omega
    · rw [List.mem_append, hys]
      constructor
      · rintro (⟨j, h1, h2, h3⟩ | h)
        · exact ⟨j, h1, fun hj => h2 ((hmer j).1 hj).2, h3⟩
        · simp at h
          subst h
          exact ⟨i, hie, fun hj => ((hmer i).1 hj).1 rfl, hgi⟩
      · rintro ⟨j, h1, h2, h3⟩
        by_cases hji : j = i
        · subst hji
          rw [hgi] at h3
          cases h3
          exact .inr (by simp)
        · exact .inl ⟨j, h1, fun hj => h2 ((hmer j).2 ⟨hji, hj⟩), h3⟩
    · refine List.pairwise_append.2 ⟨hon, by simp, fun a ha c hc => ?_⟩
      simp at hc
      subst hc
      obtain ⟨j, h1, h2, h3⟩ := (hys a).1 ha
      have hji : j ≠ i := fun he => h2 (he ▸ hi)
      have hpw := List.pairwise_iff_getElem.1 hE
      have hj1 := (List.getElem?_eq_some_iff.1 h3).2
      have hi1 := (List.getElem?_eq_some_iff.1 hgi).2
      rcases Nat.lt_or_gt_of_ne hji with h | h
      · have := hpw j i h1 hie h
        rw [hj1, hi1] at this
        exact this
      · have := hpw i j hie h1 h
        rw [hj1, hi1] at this
        exact Ne.symm this
end

end Go.Proofs.YtiniifbmeobmgaaGreatDoor
