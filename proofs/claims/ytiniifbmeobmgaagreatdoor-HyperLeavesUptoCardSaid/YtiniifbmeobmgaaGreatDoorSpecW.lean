/- The package's matcher finds all bindings, up to one more than may be. -/
import Derived.Test.YtiniifbmeobmgaaGreatDoorSpecV
set_option linter.unusedVariables false
set_option linter.unusedSimpArgs false
namespace Go.Proofs.YtiniifbmeobmgaaGreatDoor
open Go Go.Abs

section
variable {S0 : St} {P t Y mb A ixb : Nat} {yb bm : Nat → Nat} {bc : Nat → Nat → Nat} {g : Gram} {ws : List Str} {wk : LK} {T : Tab} {l : List Part} {lk : LK} {most : Nat}

theorem c94 (hS : Stat t Y A ixb yb bm bc g ws wk T l S0) {oP : List PV} (hP0 : S0[P]? = some (.arr 0 6 oP)) {vm : Nat} {em : List (PV × PV)} (hm0 : S0[mb]? = some (.map vm em)) (hne : ixb ≠ mb)
    (hkn : ∀ p ∈ l, knownP g p) (hok : ∀ p ∈ l, okS p.2) (hN : ws.length ≤ 1000) (htot : tot ws < 4294967296) (hmost : most ≤ 900) (hl8 : l.length ≤ 8) :
    ∀ (r k : Nat), k + r = l.length → ∀ (σ : St) (a : Nat) (E B : Binds) (out : List Binds) (ov : PV) (es : List PV) (R : Res → St → Prop),
      MS S0 P t Y mb l lk most σ E out ov es → Once E → SortB B → (∀ x, x ∈ E ↔ x ∈ B) → r + E.length ≤ 8 → a ≤ ws.length → out.length ≤ most →
      (∀ σ' ov' es', MS S0 P t Y mb l lk most σ' E ((out ++ allB ws (fpart g ws T) (l.drop k) a B).take (most + 1)) ov' es' → R (.ret (.bool (decide ((out ++ allB ws (fpart g ws T) (l.drop k) a B).length ≤ most)))) σ') →
      W 94 [.ptr P 0 0 0, .int .i64 (k : Nat), .int .i64 (a : Nat)] σ R := by
  have hPl : P < S0.length := (List.getElem?_eq_some_iff.1 hP0).1
  have hml : mb < S0.length := (List.getElem?_eq_some_iff.1 hm0).1
  have hPm : P ≠ mb := fun he => by rw [he, hm0] at hP0; cases hP0
  intro r
  induction r with
  | zero =>
    intro k hk σ a E B out ov es R hM hE hB hEB hEl ha hol hR
    refine callW_fold ?_
    rw [fn94_eq]
    unfold fn94
    obtain ⟨l0, l1, l2, l3, l4, l5⟩ := hM.ld (fun _ _ => trivial)
    have hSt := hS.keep hP0 hm0 hne hM.agree
    have hk1 : k < l.length + 1 := by omega
    have b1 := ix_sref (b := Y) (q := .i64) hk1
    have b2 : vLoad false 1 (.ptr Y 0 k 0) σ = some (.sref (yb k) 0 1 0 (ws.length + 1)) := by
      simp only [vLoad, hSt.top, rng_get hk1, if_true]
      rfl
    have b3 := ix_sref (b := yb k) (q := .i64) (Nat.lt_succ_of_le ha)
    have b4 := ld_bl (hSt.row k (by omega)) (Nat.lt_succ_of_le ha)
    have hkl : k = l.length := by omega
    have hdr : l.drop k = [] := by rw [hkl, List.drop_length]
    simp only [vNil_ptr, l2, b1, b2, b3, b4, zz, Nat.reduceEqDiff]
    cases em : mayB ws (fpart g ws T) (l.drop k) a with
    | false =>
      have hall := may_none ws (fpart g ws T) (l.drop k) a B em
      rw [hall] at hR
      simp only [List.append_nil, List.take_of_length_le (show out.length ≤ most + 1 by omega), decide_eq_true hol] at hR
      simp only [zz, Nat.reduceEqDiff]
      exact weakW_keep (hR σ ov es hM)
    | true =>
      rw [hdr] at em hR
      have haN : a = ws.length := by simpa [mayB] using em
      have hall : allB ws (fpart g ws T) [] a B = [B] := by
        rw [allB, if_pos haN]
      rw [hall] at hR
      have hbe : ((k : Int) == (l.length : Int)) = true := by rw [hkl]; exact BEq.rfl
      simp only [vNil_ptr, l1, List.length_map, hbe, zA, zB, zC, zD, zE, zO, zU, zZ, yI, yJ, Nat.zero_add, Bool.not_true]
      refine gather hM hPl hml hPm hE hB hEB (by omega) hol hmost fun σ' ov' es' hM' => ?_
      have := hR σ' ov' es' (by rw [List.take_of_length_le (by simp; omega)]; exact hM')
      simpa using this
  | succ r ih =>
    intro k hk σ a E B out ov es R hM hE hB hEB hEl ha hol hR
    refine callW_fold ?_
    rw [fn94_eq]
    unfold fn94
    obtain ⟨l0, l1, l2, l3, l4, l5⟩ := hM.ld (fun _ _ => trivial)
    have hSt := hS.keep hP0 hm0 hne hM.agree
    have hkl : k < l.length := by omega
    have hk1 : k < l.length + 1 := by omega
    have b1 := ix_sref (b := Y) (q := .i64) hk1
    have b2 : vLoad false 1 (.ptr Y 0 k 0) σ = some (.sref (yb k) 0 1 0 (ws.length + 1)) := by
      simp only [vLoad, hSt.top, rng_get hk1, if_true]
      rfl
    have b3 := ix_sref (b := yb k) (q := .i64) (Nat.lt_succ_of_le ha)
    have b4 := ld_bl (hSt.row k (by omega)) (Nat.lt_succ_of_le ha)
    simp only [vNil_ptr, l2, b1, b2, b3, b4, zz, Nat.reduceEqDiff]
    cases em : mayB ws (fpart g ws T) (l.drop k) a with
    | false =>
      have hall := may_none ws (fpart g ws T) (l.drop k) a B em
      rw [hall] at hR
      simp only [List.append_nil, List.take_of_length_le (show out.length ≤ most + 1 by omega), decide_eq_true hol] at hR
      simp only [zz, Nat.reduceEqDiff]
      exact weakW_keep (hR σ ov es hM)
    | true =>
    have hgi : l[k]? = some l[k] := by simp [hkl]
    have hmem : l[k] ∈ l := by simp
    have hdr := drop_cons hgi
    generalize l[k] = p at hgi hmem hdr
    generalize hl' : l.drop (k + 1) = l' at hdr
    rw [hdr, allB_cons] at hR
    have hbe : ((k : Int) == (l.length : Int)) = false := by
      rw [beq_eq_false_iff_ne]
      omega
    have hput : vPut 2 (.agg [.bool false, .str []]) 0 (pvPart p) = some (pvPart p) := rfl
    have hpp : vPart false 1 (pvPart p) 0 = some (.bool p.1) := rfl
    have hpp1 : vPart false 1 (pvPart p) 1 = some (.str p.2) := rfl
    obtain ⟨v0, hv0⟩ := hM.map
    -- what the map says of the parameter
    have hvk : ∃ (old : PV) (known : Bool), vLookup .str (.str []) true (.mref mb) (.str p.2) σ = some (.tuple [old, .bool known]) ∧ (∀ x, valueOf E p.2 = some x → old = .str x ∧ known = true) ∧ (valueOf E p.2 = none → known = false ∧ old = .str []) := by
      rw [lookup_E hv0 p.2]
      cases valueOf E p.2 with
      | none => exact ⟨_, _, rfl, (fun x h => by cases h), fun _ => ⟨rfl, rfl⟩⟩
      | some x => exact ⟨_, _, rfl, (fun y h => by cases h; exact ⟨rfl, rfl⟩), fun h => by cases h⟩
    obtain ⟨old, known, hlook, hsome, hnone⟩ := hvk
    have hsame := valueOf_same hE (once_sort hB) hEB p.2
    simp only [vNil_ptr, l1, l3, List.length_map, hbe, encPart.index hgi, encPart.part, hput, hpp1, hlook, zz, Nat.reduceEqDiff]
    refine Lfp_up (ws.length + 1 - a) (fun u x σ' => ∃ ov' es', x = lookP [(0, .ptr P 0 0 0), (1, .int .i64 (k : Nat)), (2, .int .i64 (a : Nat)), (11, old), (12, .bool known), (13, .int .i64 (u : Nat)), (10, pvPart p)] ∧
      MS S0 P t Y mb l lk most σ' E (out ++ (List.range u).flatMap (addB ws (fpart g ws T) p l' a B)) ov' es' ∧ (out ++ (List.range u).flatMap (addB ws (fpart g ws T) p l' a B)).length ≤ most) ?_ ⟨ov, es, rfl, by simpa using hM, by simpa using hol⟩
    rintro Φ u x σ' hu ⟨ov', es', rfl, hM', hol'⟩ next
    obtain ⟨q0, q1, q2, q3, q4, q5⟩ := hM'.ld (fun _ _ => trivial)
    have hSt' := hS.keep hP0 hm0 hne hM'.agree
    simp only [vNil_ptr, q0, hSt'.ht.ld3, List.length_map, add_nat (a := a) (b := u) (by omega), Int.ofNat_le, zz, Nat.reduceEqDiff]
    by_cases hul : a + u ≤ ws.length
    · -- on, and out
      have onw : ∀ (blk : List Binds) (σ2 : St) (ov2 : PV) (es2 : List PV), addB ws (fpart g ws T) p l' a B u = blk → ((out ++ (List.range u).flatMap (addB ws (fpart g ws T) p l' a B)) ++ blk).length ≤ most →
          MS S0 P t Y mb l lk most σ2 E (((out ++ (List.range u).flatMap (addB ws (fpart g ws T) p l' a B)) ++ blk).take (most + 1)) ov2 es2 → Φ (lookP [(0, .ptr P 0 0 0), (1, .int .i64 (k : Nat)), (2, .int .i64 (a : Nat)), (11, old), (12, .bool known), (13, .int .i64 ((u + 1 : Nat) : Int)), (10, pvPart p)]) σ2 := by
        intro blk σ2 ov2 es2 hblk hle h2
        rw [List.take_of_length_le (by omega)] at h2
        refine next _ _ (by omega) ⟨ov2, es2, rfl, ?_, ?_⟩
        · rw [flat_succ, hblk, ← List.append_assoc]; exact h2
        · rw [flat_succ, hblk, ← List.append_assoc]; exact hle
      have outw : ∀ (blk : List Binds) (σ2 : St) (ov2 : PV) (es2 : List PV), addB ws (fpart g ws T) p l' a B u = blk → ¬ ((out ++ (List.range u).flatMap (addB ws (fpart g ws T) p l' a B)) ++ blk).length ≤ most →
          MS S0 P t Y mb l lk most σ2 E (((out ++ (List.range u).flatMap (addB ws (fpart g ws T) p l' a B)) ++ blk).take (most + 1)) ov2 es2 → weakW σ (.bool false) σ2 fun v σ => R (.ret v) σ := by
        intro blk σ2 ov2 es2 hblk hle h2
        obtain ⟨rr, hrr⟩ := flat_split (N := ws.length + 1 - a) (k := u + 1) (f := addB ws (fpart g ws T) p l' a B) (by omega)
        rw [flat_succ, hblk] at hrr
        have hall : out ++ (List.range (ws.length + 1 - a)).flatMap (addB ws (fpart g ws T) p l' a B) = ((out ++ (List.range u).flatMap (addB ws (fpart g ws T) p l' a B)) ++ blk) ++ rr := by
          rw [hrr]
          simp [List.append_assoc]
        rw [hall] at hR
        have hdec : decide (((out ++ (List.range u).flatMap (addB ws (fpart g ws T) p l' a B)) ++ blk ++ rr).length ≤ most) = false := by
          rw [decide_eq_false_iff_not, List.length_append]
          omega
        rw [hdec, take_app (by omega)] at hR
        exact weakW_keep (hR σ2 ov2 es2 h2)
      have skip : addB ws (fpart g ws T) p l' a B u = [] → Φ (lookP [(0, .ptr P 0 0 0), (1, .int .i64 (k : Nat)), (2, .int .i64 (a : Nat)), (11, old), (12, .bool known), (13, .int .i64 ((u + 1 : Nat) : Int)), (10, pvPart p)]) σ' := by
        intro hnil
        refine onw [] σ' ov' es' hnil (by rw [List.append_nil]; exact hol') ?_
        rw [List.append_nil, List.take_of_length_le (by omega)]
        exact hM'
      simp only [hul, q0, vNil_ptr, encPart.part, zz, Nat.reduceEqDiff]
      refine (c93 hSt'.ht (hok p hmem) (hkn p hmem) hul).callB ?_
      cases ef : fpart g ws T p a (a + u) with
      | false =>
        simp only [add_one (a := u) (by omega), zz, Nat.reduceEqDiff]
        exact skip (by unfold addB; rw [ef]; simp)
      | true =>
        obtain ⟨sk, hsub⟩ := sub_words wk ws (a := a) (b := a + u) (by omega) hul
        rw [show a + u - a = u by omega] at hsub
        have htt := tot_sub ws a u
        simp only [q0, vNil_ptr, hSt'.ht.ld3, add_nat (a := a) (b := u) (by omega), hsub, zz, Nat.reduceEqDiff]
        refine (c98 (by omega) (.list _ _)).callB ?_
        have hjn : joinB [32] ((ws.drop a).take u) = jn ws a u := rfl
        rw [hjn]
        have haddB : addB ws (fpart g ws T) p l' a B u = (match stepA p (jn ws a u) B with
          | some B' => allB ws (fpart g ws T) l' (a + u) B'
          | none => []) := by unfold addB; rw [ef]; rfl
        -- the same bindings
        have same : stepA p (jn ws a u) B = some B → (p.1 && !known) = false → W 94 [.ptr P 0 0 0, .int .i64 ((k + 1 : Nat) : Int), .int .i64 ((a + u : Nat) : Int)] σ' fun r σ2 => match r with
            | .ret v => bindO False (vUn .not v) fun v156 =>
              condW v156 (
              weakW σ (.bool false) σ2 fun v σ => R (.ret v) σ) (
              Φ (lookP [(0, .ptr P 0 0 0), (1, .int .i64 (k : Nat)), (2, .int .i64 (a : Nat)), (11, old), (12, .bool known), (13, .int .i64 ((u + 1 : Nat) : Int)), (10, pvPart p)]) σ2)
            | .pan e => R (.pan e) σ2 := by
          intro hst hpk
          rw [hst] at haddB
          refine ih (k + 1) (by omega) σ' (a + u) E B _ ov' es' _ hM' hE hB hEB (by omega) hul hol' fun σ2 ov2 es2 h2 => ?_
          rw [hl'] at h2 ⊢
          cases hle : decide (((out ++ (List.range u).flatMap (addB ws (fpart g ws T) p l' a B)) ++ allB ws (fpart g ws T) l' (a + u) B).length ≤ most) with
          | true =>
            simp only [zz, Nat.reduceEqDiff]
            exact onw _ σ2 ov2 es2 haddB (of_decide_eq_true hle) h2
          | false =>
            simp only [zz, Nat.reduceEqDiff]
            exact outw _ σ2 ov2 es2 haddB (of_decide_eq_false hle) h2
        cases hm1 : p.1 with
        | false =>
          have hst : stepA p (jn ws a u) B = some B := by simp [stepA, hm1]
          have hpk : (p.1 && !known) = false := by rw [hm1]; rfl
          simp only [hpp, hm1, zz, Nat.reduceEqDiff]
          simp only [add_one (a := k) (by omega), add_nat (a := a) (b := u) (by omega), add_one (a := u) (by omega), zz, Nat.reduceEqDiff]
          exact same hst hpk
        | true =>
          simp only [hpp, hm1, zz, Nat.reduceEqDiff]
          cases hv : valueOf E p.2 with
          | some v =>
            obtain ⟨rfl, rfl⟩ := hsome v hv
            rw [hsame] at hv
            simp only [zz, Nat.reduceEqDiff]
            cases e1 : (jn ws a u == v) with
            | false =>
              simp only [add_one (a := u) (by omega), zz, Nat.reduceEqDiff]
              refine skip ?_
              rw [haddB]
              have : stepA p (jn ws a u) B = none := by simp only [stepA, hm1, if_true, hv, e1]; rfl
              rw [this]
            | true =>
              have hst : stepA p (jn ws a u) B = some B := by simp only [stepA, hm1, if_true, hv, e1]
              simp only [add_one (a := k) (by omega), add_nat (a := a) (b := u) (by omega), add_one (a := u) (by omega), zz, Nat.reduceEqDiff]
              exact same hst (by simp)
          | none =>
            obtain ⟨rfl, rfl⟩ := hnone hv
            have hvB : valueOf B p.2 = none := by rw [← hsame]; exact hv
            have hst : stepA p (jn ws a u) B = some (ins (p.2, jn ws a u) B) := by simp only [stepA, hm1, if_true, hvB]
            rw [hst] at haddB
            obtain ⟨v1, hv1⟩ := hM'.map
            have hset := set_E hv1 (s := p.2) (x := jn ws a u) hv
            have hM2 := hM'.setmap (E' := E ++ [(p.2, jn ws a u)]) (v1 + 1)
            simp only [q3, vNil_ptr, hpp1, hset, add_one (a := k) (by omega), add_nat (a := a) (b := u) (by omega), zz, Nat.reduceEqDiff]
            refine ih (k + 1) (by omega) _ (a + u) (E ++ [(p.2, jn ws a u)]) (ins (p.2, jn ws a u) B) _ ov' es' _ hM2 (once_app hE hv) (sort_ins hB (valueOf_none.1 hvB)) (fun x => by rw [mem_ins, List.mem_append, hEB]; simp [or_comm]) (by simp; omega) hul hol' fun σ2 ov2 es2 h2 => ?_
            rw [hl'] at h2 ⊢
            obtain ⟨w0, w1, w2, w3, w4, w5⟩ := h2.ld (fun _ _ => trivial)
            obtain ⟨v2, hv2⟩ := h2.map
            have hdel := del_E hv2 hE hv
            have h3 := h2.setmap (E' := E) (v2 + 1)
            simp only [vNil_ptr, w3, hpp1, hdel, add_one (a := u) (by omega), zz, Nat.reduceEqDiff]
            cases hle : decide (((out ++ (List.range u).flatMap (addB ws (fpart g ws T) p l' a B)) ++ allB ws (fpart g ws T) l' (a + u) (ins (p.2, jn ws a u) B)).length ≤ most) with
            | true =>
              simp only [zz, Nat.reduceEqDiff]
              exact onw _ _ ov2 es2 haddB (of_decide_eq_true hle) h3
            | false =>
              simp only [zz, Nat.reduceEqDiff]
              exact outw _ _ ov2 es2 haddB (of_decide_eq_false hle) h3
    · have hue : u = ws.length + 1 - a := by omega
      subst hue
      simp only [hul, zz, Nat.reduceEqDiff]
      refine weakW_keep ?_
      have := hR σ' ov' es' (by rw [List.take_of_length_le (by omega)]; exact hM')
      rw [decide_eq_true hol'] at this
      exact this
end

end Go.Proofs.YtiniifbmeobmgaaGreatDoor
