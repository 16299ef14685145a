/- The reference's search finds all bindings, up to one more than may be. -/
import Derived.Test.YtiniifbmeobmgaaGreatDoorSpecT
set_option linter.unusedVariables false
set_option linter.unusedSimpArgs false
namespace Go.Proofs.YtiniifbmeobmgaaGreatDoor
open Go Go.Abs

theorem head_parts (l : List Part) : headSized 2 (l.map pvPart) = true := headSized_of fun z hz => by
  obtain ⟨b, _, rfl⟩ := List.mem_map.1 hz
  exact sizedPart b
theorem head_strs (l : List Str) : headSized 1 (l.map PV.str) = true := headSized_of fun z hz => by
  obtain ⟨b, _, rfl⟩ := List.mem_map.1 hz
  exact sizedStr b
theorem sub_tail (lk : LK) (p : Part) (l : List Part) : vSubSl 2 (.list lk ((p :: l).map pvPart)) (some (.int .i64 1)) none = some (.list (lk.sub true) (l.map pvPart)) := by
  have := head_parts (p :: l)
  simp only [vSubSl, bound]
  simp [List.take_of_length_le]
  simpa using this
theorem sub_words (wk : LK) (ws : List Str) {a b : Nat} (h1 : a ≤ b) (h2 : b ≤ ws.length) : ∃ k, vSubSl 1 (.list wk (ws.map .str)) (some (.int .i64 (a : Nat))) (some (.int .i64 (b : Nat))) = some (.list k (((ws.drop a).take (b - a)).map .str)) := by
  refine ⟨wk.sub (b == ws.length), ?_⟩
  rw [← drop_take_eq]
  simp [vSubSl, bound, h1, h2, head_strs, List.map_take, List.map_drop]

/-- What a part's turn adds. -/
def addB (ws : List Str) (fp : Part → Nat → Nat → Bool) (p : Part) (l : List Part) (a : Nat) (B : Binds) (n : Nat) : List Binds := if fp p a (a + n) then (match stepA p (jn ws a n) B with
    | some B' => allB ws fp l (a + n) B'
    | none => []) else []

theorem allB_cons (ws : List Str) (fp : Part → Nat → Nat → Bool) (p : Part) (l : List Part) (a : Nat) (B : Binds) : allB ws fp (p :: l) a B = (List.range (ws.length + 1 - a)).flatMap (addB ws fp p l a B) := by
  rw [allB]
  rfl

theorem allB_word {g : Gram} {ws : List Str} {T : Tab} {p : Part} {l : List Part} {a : Nat} {B : Binds} (hp : p.1 = false) (ha : a ≤ ws.length) : allB ws (fpart g ws T) (p :: l) a B = if ws[a]? = some p.2 then allB ws (fpart g ws T) l (a + 1) B else [] := by
  have hst : ∀ s, stepA p s B = some B := fun s => by simp [stepA, hp]
  have hf : ∀ n, addB ws (fpart g ws T) p l a B n = if n = 1 ∧ ws[a]? = some p.2 then allB ws (fpart g ws T) l (a + n) B else [] := fun n => by
    unfold addB
    rw [hst]
    have : fpart g ws T p a (a + n) = decide (n = 1 ∧ ws[a]? = some p.2) := by
      simp only [partB, hp]
      by_cases h1 : n = 1
      · subst h1
        by_cases h2 : ws[a]? = some p.2
        · simp [h2]
        · simp [h2]
      · simp [h1]
    rw [this]
    by_cases h : n = 1 ∧ ws[a]? = some p.2
    · simp [h]
    · simp [h]
  rw [allB_cons]
  by_cases h : ws[a]? = some p.2
  · have hal : a < ws.length := (List.getElem?_eq_some_iff.1 h).1
    rw [flat_one (k := 1) (by omega) (fun n hn => by rw [hf, if_neg (fun hh => hn hh.1)]), hf, if_pos ⟨rfl, h⟩, if_pos h]
  · rw [flat_none (fun n _ => by rw [hf, if_neg (fun hh => h hh.2)]), if_neg h]

section
variable {σ0 : St} {A : Nat} {bm : Nat → Nat} {bc : Nat → Nat → Nat} {g : Gram} {ws : List Str} {wk : LK} {T : Tab}

theorem c95 (hg : OkGram g) (hRT : RT σ0 A bm bc g ws T) (hT : ∀ a b, a ≤ b → b ≤ ws.length → RightG g ws T a b) (hw : ∀ w ∈ ws, isWord w = true) (hN : ws.length ≤ 1000) (htot : tot ws < 4294967296) {most : Nat} (hm : most ≤ 900) :
    ∀ (l : List Part) (lk : LK) (a : Nat) (bk : LK) (B : Binds) (out : List Binds) (es : List PV) (ov : PV) (σ : St) (R : Res → St → Prop),
      (∀ p ∈ l, knownP g p) → (∀ p ∈ l, goodP p) → (∀ p ∈ l, okS p.2) → l.length + B.length ≤ 100 → a ≤ ws.length → BOk g ws B → OutAt σ0.length σ ov out es → out.length ≤ most + 1 → σ0 <+: σ →
      (∀ σ' ov' es', OutAt σ0.length σ' ov' ((out ++ allB ws (fpart g ws T) l a B).take (most + 1)) es' → σ0 <+: σ' → R (.ret ov') σ') →
      W 95 [pvGram g, .sref A 0 1 0 g.1.2.length, .list lk (l.map pvPart), .list wk (ws.map .str), .int .i64 (a : Nat), .list bk (B.map pvBind), ov, .int .i64 (most : Nat)] σ R := by
  intro l
  induction l with
  | nil =>
    intro lk a bk B out es ov σ R hk hgd hok hlen ha hB hO hle hp hR
    refine callW_fold ?_
    rw [fn95_eq]
    unfold fn95
    have hbox : opC.vBoxAny (pvGram g) = some (2, pvGram g) := rfl
    have hol : ∀ σ', vLen .sl ov σ' = some (.int .i64 (out.length : Nat)) := fun σ' => by rw [hO.grow.elems.len, hO.len]
    simp only [hbox, hol, zz, Nat.reduceEqDiff, if_true, if_false, decide_true, decide_false, eq_self]
    by_cases hgt : most < out.length
    · have : decide (most < out.length) = true := by rw [decide_eq_true_eq]; omega
      simp only [this, zz, Nat.reduceEqDiff, if_true, if_false, decide_true, decide_false, eq_self]
      refine weakW_keep (hR σ ov es ?_ hp)
      rw [List.take_append_of_le_length (by omega), List.take_of_length_le (by omega)]
      exact hO
    · have : decide (most < out.length) = false := by rw [decide_eq_false_iff_not]; omega
      simp only [this, List.map_nil, List.length_nil, show (((0 : Nat) : Int) == 0) = true from rfl, List.length_map, zz, Nat.reduceEqDiff, if_true, if_false, decide_true, decide_false, eq_self]
      refine CutW_of ?_
      cases he : ((a : Int) == (ws.length : Int)) with
      | false =>
        have hne : ¬ a = ws.length := fun h => by rw [h] at he; simp at he
        simp only [zz, Nat.reduceEqDiff, if_true, if_false, decide_true, decide_false, eq_self]
        refine weakW_keep (hR σ ov es ?_ hp)
        unfold allB
        rw [if_neg hne, List.append_nil, List.take_of_length_le (by omega)]
        exact hO
      | true =>
        have hae : a = ws.length := by have := eq_of_beq he; omega
        have hs0 : vBuildSl 2 (List.replicate 0 (.agg [(.str []), (.str [])])) [] = some [] := rfl
        simp only [hs0, zz, Nat.reduceEqDiff, if_true, if_false, decide_true, decide_false, eq_self]
        have hbl : B.length ≤ 100 := by omega
        have fin : ∀ (e : PV) (σ1 : St), BAt σ1 e B → σ0 <+: σ1 → (∀ c < σ.length, σ1[c]? = σ[c]?) → Sized 1 e → bindO False (vBuildSl 1 (List.replicate 1 (.list .nil [])) [(0, e)]) (fun v13 => bindS (vAppend 1 24 ov (.list .full v13) σ1) fun v14 σ15 => weakW σ v14 σ15 fun v σ => R (.ret v) σ) := by
          intro e σ1 hBe hp1 hag hsz
          obtain ⟨ov', σ', e1, e2, e3⟩ := (hO.keep hag).app rfl hp1 hBe (by omega)
          rw [vBuildSl_one hsz]
          simp only [e1, zz, Nat.reduceEqDiff, if_true, if_false, decide_true, decide_false, eq_self]
          refine weakW_keep (hR σ' ov' (es ++ [e]) ?_ e3)
          unfold allB
          rw [if_pos hae, List.take_of_length_le (by simp; omega)]
          exact e2
        cases hBn : B with
        | nil =>
          subst hBn
          have := app_full_nil (sz := 2) (by_ := 32) (σ := σ) (y := .list bk (([] : Binds).map pvBind)) rfl
          rw [this]
          exact fin (.list .full []) σ (.inl ⟨.full, rfl⟩) hp (fun _ _ => rfl) ⟨_, rfl, rfl⟩
        | cons b0 B0 =>
          rw [← hBn]
          have := app_full (sz := 2) (by_ := 32) (σ := σ) (y := .list bk (B.map pvBind)) rfl (by rw [hBn]; simp) sized_binds (by simp; omega)
          rw [this]
          refine fin (.sref σ.length 0 2 0 (B.map pvBind).length) (σ ++ [.arr 0 2 (B.map pvBind)]) (.inr ⟨σ.length, 0, by rw [List.length_map], new_get _ _⟩) (pre_app hp _) (fun c hc => List.getElem?_append_left hc) ⟨_, rfl, rfl⟩
  | cons p l ih =>
    intro lk a bk B out es ov σ R hk hgd hok hlen ha hB hO hle hp hR
    refine callW_fold ?_
    rw [fn95_eq]
    unfold fn95
    have hbox : opC.vBoxAny (pvGram g) = some (2, pvGram g) := rfl
    have hpt : vPart true 2 (pvGram g) 0 = some (pvGram g) := rfl
    have hol : ∀ σ', vLen .sl ov σ' = some (.int .i64 (out.length : Nat)) := fun σ' => by rw [hO.grow.elems.len, hO.len]
    simp only [hbox, hol, zz, Nat.reduceEqDiff, if_true, if_false, decide_true, decide_false, eq_self]
    by_cases hgt : most < out.length
    · have : decide (most < out.length) = true := by rw [decide_eq_true_eq]; omega
      simp only [this, zz, Nat.reduceEqDiff, if_true, if_false, decide_true, decide_false, eq_self]
      refine weakW_keep (hR σ ov es ?_ hp)
      rw [List.take_append_of_le_length (by omega), List.take_of_length_le (by omega)]
      exact hO
    have hnl : decide (most < out.length) = false := by rw [decide_eq_false_iff_not]; omega
    have x0 : vIndex 2 (.list lk ((p :: l).map pvPart)) (.int .i64 0) = some (.eptr (pvPart p) 0) := encPart.index (l := p :: l) (i := 0) rfl
    have hne : (((p :: l).length : Int) == 0) = false := by
      rw [beq_eq_false_iff_ne]
      simp only [List.length_cons]
      omega
    have hpp : vPart false 1 (pvPart p) 0 = some (.bool p.1) := rfl
    have hpp1 : vPart false 1 (pvPart p) 1 = some (.str p.2) := rfl
    have hst := sub_tail lk p l
    simp only [hnl, List.length_map, hne, x0, hpp, zz, Nat.reduceEqDiff, if_true, if_false, decide_true, decide_false, eq_self]
    have hlen' : l.length + B.length ≤ 100 := by simp only [List.length_cons] at hlen; omega
    have hlen2 : l.length + (B.length + 1) ≤ 100 := by simp only [List.length_cons] at hlen; omega
    have hk' : ∀ q ∈ l, knownP g q := fun q hq => hk q (by simp [hq])
    have hgd' : ∀ q ∈ l, goodP q := fun q hq => hgd q (by simp [hq])
    have hok' : ∀ q ∈ l, okS q.2 := fun q hq => hok q (by simp [hq])
    cases hm1 : p.1 with
    | false =>
      simp only [zz, Nat.reduceEqDiff, if_true, if_false, decide_true, decide_false, eq_self]
      refine CutW_of ?_
      rw [allB_word hm1 ha] at hR
      simp only [List.length_map, zz, Nat.reduceEqDiff, if_true, if_false, decide_true, decide_false, eq_self]
      by_cases hal : a < ws.length
      · have hgi : ws[a]? = some ws[a] := by simp [hal]
        generalize ws[a] = w at hgi
        simp only [hal, encStr.index hgi, x0, hpp1, zz, Nat.reduceEqDiff, if_true, if_false, decide_true, decide_false, eq_self]
        cases hwp : (w == p.2) with
        | true =>
          have hwp' : ws[a]? = some p.2 := by rw [hgi, eq_of_beq hwp]
          rw [if_pos hwp'] at hR
          simp only [hpt, hst, add_one (a := a) (by omega), zz, Nat.reduceEqDiff, if_true, if_false, decide_true, decide_false, eq_self]
          refine ih (lk.sub true) (a + 1) bk B out es ov σ _ hk' hgd' hok' hlen' hal hB hO hle hp fun σ' ov' es' hO' hp' => ?_
          simp only [zz, Nat.reduceEqDiff, if_true, if_false, decide_true, decide_false, eq_self]
          exact weakW_keep (hR σ' ov' es' hO' hp')
        | false =>
          have hwp' : ¬ ws[a]? = some p.2 := by
            rw [hgi]
            intro h
            simp only [Option.some.injEq] at h
            rw [h] at hwp
            simp at hwp
          rw [if_neg hwp'] at hR
          simp only [zz, Nat.reduceEqDiff, if_true, if_false, decide_true, decide_false, eq_self]
          refine weakW_keep (hR σ ov es ?_ hp)
          rw [List.append_nil, List.take_of_length_le (by omega)]
          exact hO
      · have hwp' : ¬ ws[a]? = some p.2 := by
          intro h
          exact hal (List.getElem?_eq_some_iff.1 h).1
        rw [if_neg hwp'] at hR
        simp only [hal, zz, Nat.reduceEqDiff, if_true, if_false, decide_true, decide_false, eq_self]
        refine weakW_keep (hR σ ov es ?_ hp)
        rw [List.append_nil, List.take_of_length_le (by omega)]
        exact hO
    | true =>
      simp only [x0, hpp1, zz, Nat.reduceEqDiff, if_true, if_false, decide_true, decide_false, eq_self]
      refine (c99 (binds := B) (by omega) (.list _ _)).callB ?_
      have hkn := hk p (by simp) hm1
      have hbase : base p.2 = metaOf p.2 := base_eq (hgd p (by simp) hm1)
      have hix : idxOf (fun m : Meta19 => m.1 == base p.2) g.1.2 0 = ((ixN (names g) (metaOf p.2) : Nat) : Int) := by
        rw [hbase, idxOf_ix g.1.2 _ 0 hkn, Nat.zero_add]
        rfl
      have hlt' : ixN (names g) (metaOf p.2) < g.1.2.length := by
        have := ixN_lt hkn
        simpa [names] using this
      have hTp : ∀ b, fpart g ws T p a b = T (ixN (names g) (metaOf p.2)) a b := fun b => by simp [partB, hm1]
      rw [allB_cons] at hR
      cases hv : valueOf B p.2 with
      | some v =>
        have hadd : ∀ n, a + n ≤ ws.length → addB ws (fpart g ws T) p l a B n = if ((jn ws a n == v) && (jn ws a n != [] || decide (n = 0))) = true then allB ws (fpart g ws T) l (a + n) B else [] := fun n hn => by
          rw [← bound_same hw hT hB hm1 hlt' hv hn]
          unfold addB stepA
          rw [hm1, hv]
          simp only [if_true]
          cases fpart g ws T p a (a + n) <;> cases (jn ws a n == v) <;> simp
        simp only [hpt, x0, hpp1, zz, Nat.reduceEqDiff, if_true, if_false, decide_true, decide_false, eq_self]
        refine (c129 (hok p (by simp)) _).callB ?_
        refine (c67 hg.ml _).callB ?_
        rw [hix]
        generalize ixN (names g) (metaOf p.2) = m at hlt' hTp ⊢
        refine CutW_of ?_
        refine Lfp_up (ws.length + 1 - a) (fun u x σ' => ∃ ov' es', x = lookP [(1, .sref A 0 1 0 g.1.2.length), (2, .list lk ((p :: l).map pvPart)), (3, .list wk (ws.map .str)), (4, .int .i64 (a : Nat)), (5, .list bk (B.map pvBind)), (6, ov'), (7, .int .i64 (most : Nat)), (17, .str v), (18, .bool true), (19, .int .i64 (m : Nat)), (20, .int .i64 ((a + u : Nat) : Int)), (8, pvGram g)] ∧
          OutAt σ0.length σ' ov' ((out ++ (List.range u).flatMap (addB ws (fpart g ws T) p l a B)).take (most + 1)) es' ∧ σ0 <+: σ') ?_ ⟨ov, es, rfl, by simpa [List.take_of_length_le (show out.length ≤ most + 1 from hle)] using hO, hp⟩
        rintro Φ u x σ' hu ⟨ov', es', rfl, hO', hp'⟩ next
        simp only [List.length_map, Int.ofNat_le, zz, Nat.reduceEqDiff, if_true, if_false, decide_true, decide_false, eq_self]
        by_cases hul : a + u ≤ ws.length
        · obtain ⟨sk, hsub⟩ := sub_words wk ws (a := a) (b := a + u) (by omega) hul
          rw [show a + u - a = u by omega] at hsub
          have htt := tot_sub ws a u
          simp only [hul, zz, Nat.reduceEqDiff, if_true, if_false, decide_true, decide_false, eq_self]
          refine CutW_of ?_
          simp only [hsub, zz, Nat.reduceEqDiff, if_true, if_false, decide_true, decide_false, eq_self]
          refine (c101 (by omega) (.list _ _)).callB ?_
          have hjn : joinB [32] ((ws.drop a).take u) = jn ws a u := rfl
          rw [hjn]
          have onw : ∀ (ov2 : PV) (es2 : List PV) (σ2 : St) (blk : List Binds), addB ws (fpart g ws T) p l a B u = blk → OutAt σ0.length σ2 ov2 (((out ++ (List.range u).flatMap (addB ws (fpart g ws T) p l a B)).take (most + 1) ++ blk).take (most + 1)) es2 → σ0 <+: σ2 →
              Φ (lookP [(1, .sref A 0 1 0 g.1.2.length), (2, .list lk ((p :: l).map pvPart)), (3, .list wk (ws.map .str)), (4, .int .i64 (a : Nat)), (5, .list bk (B.map pvBind)), (6, ov2), (7, .int .i64 (most : Nat)), (17, .str v), (18, .bool true), (19, .int .i64 (m : Nat)), (20, .int .i64 ((a + u + 1 : Nat) : Int)), (8, pvGram g)]) σ2 := by
            intro ov2 es2 σ2 blk hblk h2 hp2
            refine next _ _ (by omega) ⟨ov2, es2, rfl, ?_, hp2⟩
            rw [take_take_app, List.append_assoc, ← hblk, ← flat_succ] at h2
            exact h2
          have skip : addB ws (fpart g ws T) p l a B u = [] → Φ (lookP [(1, .sref A 0 1 0 g.1.2.length), (2, .list lk ((p :: l).map pvPart)), (3, .list wk (ws.map .str)), (4, .int .i64 (a : Nat)), (5, .list bk (B.map pvBind)), (6, ov'), (7, .int .i64 (most : Nat)), (17, .str v), (18, .bool true), (19, .int .i64 (m : Nat)), (20, .int .i64 ((a + u + 1 : Nat) : Int)), (8, pvGram g)]) σ' := by
            intro hnil
            refine onw ov' es' σ' [] hnil ?_ hp'
            rw [List.append_nil, List.take_take, Nat.min_self]
            exact hO'
          have more : addB ws (fpart g ws T) p l a B u = allB ws (fpart g ws T) l (a + u) B → W 95 [pvGram g, .sref A 0 1 0 g.1.2.length, .list (lk.sub true) (l.map pvPart), .list wk (ws.map .str), .int .i64 ((a + u : Nat) : Int), .list bk (B.map pvBind), ov', .int .i64 (most : Nat)] σ' fun r σ2 => match r with
              | .ret ov2 => Φ (lookP [(1, .sref A 0 1 0 g.1.2.length), (2, .list lk ((p :: l).map pvPart)), (3, .list wk (ws.map .str)), (4, .int .i64 (a : Nat)), (5, .list bk (B.map pvBind)), (6, ov2), (7, .int .i64 (most : Nat)), (17, .str v), (18, .bool true), (19, .int .i64 (m : Nat)), (20, .int .i64 ((a + u + 1 : Nat) : Int)), (8, pvGram g)]) σ2
              | .pan e => R (.pan e) σ2 := by
            intro hadd'
            refine ih (lk.sub true) (a + u) bk B _ es' ov' σ' _ hk' hgd' hok' hlen' hul hB hO' (by simp; omega) hp' fun σ2 ov2 es2 h2 hp2 => ?_
            exact onw ov2 es2 σ2 _ hadd' h2 hp2
          rw [hadd u hul] at skip more
          simp only [zz, Nat.reduceEqDiff, if_true, if_false, decide_true, decide_false, eq_self]
          cases e1 : (jn ws a u == v) with
          | false =>
            simp only [zz, Nat.reduceEqDiff, if_true, if_false, decide_true, decide_false, eq_self]
            simp only [add_one (a := a + u) (by omega), zz, Nat.reduceEqDiff, if_true, if_false, decide_true, decide_false, eq_self]
            exact skip (by simp [e1])
          | true =>
            simp only [zz, Nat.reduceEqDiff, if_true, if_false, decide_true, decide_false, eq_self]
            cases e2 : (jn ws a u == []) with
            | false =>
              have h2 : (jn ws a u != []) = true := by simp [bne, e2]
              simp only [zz, Nat.reduceEqDiff, if_true, if_false, decide_true, decide_false, eq_self]
              simp only [hpt, hst, add_one (a := a + u) (by omega), zz, Nat.reduceEqDiff, if_true, if_false, decide_true, decide_false, eq_self]
              exact more (by simp [e1, h2])
            | true =>
              have h2 : (jn ws a u != []) = false := by simp [bne, e2]
              simp only [zz, Nat.reduceEqDiff, if_true, if_false, decide_true, decide_false, eq_self]
              cases e3 : (((a + u : Nat) : Int) == (a : Int)) with
              | true =>
                have hu0 : u = 0 := by have := eq_of_beq e3; omega
                simp only [zz, Nat.reduceEqDiff, if_true, if_false, decide_true, decide_false, eq_self]
                simp only [hpt, hst, add_one (a := a + u) (by omega), zz, Nat.reduceEqDiff, if_true, if_false, decide_true, decide_false, eq_self]
                exact more (by rw [e1]; simp [hu0])
              | false =>
                have hu0 : ¬ u = 0 := fun h => by rw [h] at e3; simp at e3
                simp only [zz, Nat.reduceEqDiff, if_true, if_false, decide_true, decide_false, eq_self]
                simp only [add_one (a := a + u) (by omega), zz, Nat.reduceEqDiff, if_true, if_false, decide_true, decide_false, eq_self]
                exact skip (by simp [e1, h2, hu0])
        · have hue : u = ws.length + 1 - a := by omega
          subst hue
          simp only [hul, zz, Nat.reduceEqDiff, if_true, if_false, decide_true, decide_false, eq_self]
          exact weakW_keep (hR σ' ov' es' hO' hp')
      | none =>
        have hadd : ∀ n, addB ws (fpart g ws T) p l a B n = if fpart g ws T p a (a + n) then allB ws (fpart g ws T) l (a + n) (ins (p.2, jn ws a n) B) else [] := fun n => by
          unfold addB stepA
          rw [hm1, hv]
          simp only [if_true]
        simp only [hpt, x0, hpp1, zz, Nat.reduceEqDiff, if_true, if_false, decide_true, decide_false, eq_self]
        refine (c129 (hok p (by simp)) _).callB ?_
        refine (c67 hg.ml _).callB ?_
        rw [hix]
        have hder : ∀ n, a + n ≤ ws.length → fpart g ws T p a (a + n) = derG g ws (ixN (names g) (metaOf p.2)) a (a + n) := fun n hn => by rw [hTp, hT a (a + n) (by omega) hn _ hlt']
        generalize hmd : ixN (names g) (metaOf p.2) = m at hlt' hTp hder ⊢
        refine CutW_of ?_
        refine Lfp_up (ws.length + 1 - a) (fun u x σ' => ∃ ov' es', x = lookP [(1, .sref A 0 1 0 g.1.2.length), (2, .list lk ((p :: l).map pvPart)), (3, .list wk (ws.map .str)), (4, .int .i64 (a : Nat)), (5, .list bk (B.map pvBind)), (6, ov'), (7, .int .i64 (most : Nat)), (17, .str []), (18, .bool false), (19, .int .i64 (m : Nat)), (20, .int .i64 ((a + u : Nat) : Int)), (8, pvGram g)] ∧
          OutAt σ0.length σ' ov' ((out ++ (List.range u).flatMap (addB ws (fpart g ws T) p l a B)).take (most + 1)) es' ∧ σ0 <+: σ') ?_ ⟨ov, es, rfl, by simpa [List.take_of_length_le (show out.length ≤ most + 1 from hle)] using hO, hp⟩
        rintro Φ u x σ' hu ⟨ov', es', rfl, hO', hp'⟩ next
        simp only [List.length_map, Int.ofNat_le, zz, Nat.reduceEqDiff, if_true, if_false, decide_true, decide_false, eq_self]
        by_cases hul : a + u ≤ ws.length
        · obtain ⟨sk, hsub⟩ := sub_words wk ws (a := a) (b := a + u) (by omega) hul
          rw [show a + u - a = u by omega] at hsub
          have htt := tot_sub ws a u
          simp only [hul, zz, Nat.reduceEqDiff, if_true, if_false, decide_true, decide_false, eq_self]
          refine CutW_of ?_
          simp only [hsub, zz, Nat.reduceEqDiff, if_true, if_false, decide_true, decide_false, eq_self]
          refine (c101 (by omega) (.list _ _)).callB ?_
          have hjn : joinB [32] ((ws.drop a).take u) = jn ws a u := rfl
          rw [hjn]
          have hRT' := hRT.pre hp'
          have hul1 : a + u < ws.length + 1 := by omega
          have a1 := ix_sref (b := A) (q := .i64) hlt'
          have a2 := hRT'.rd0 hlt'
          have a3 := ix_sref (b := bm m) (q := .i64) (Nat.lt_succ_of_le ha)
          have a4 := hRT'.rd1 hlt' ha
          have a5 := ix_sref (b := bc m a) (q := .i64) hul1
          have a6 := hRT'.rd2 hlt' ha hul1
          try simp only at a4
          try simp only at a6
          rw [Nat.add_zero, ← hTp] at a6
          simp only [a1, a2, a3, a4, a5, a6, zz, Nat.reduceEqDiff, if_true, if_false, decide_true, decide_false, eq_self]
          have onw : ∀ (ov2 : PV) (es2 : List PV) (σ2 : St) (blk : List Binds), addB ws (fpart g ws T) p l a B u = blk → OutAt σ0.length σ2 ov2 (((out ++ (List.range u).flatMap (addB ws (fpart g ws T) p l a B)).take (most + 1) ++ blk).take (most + 1)) es2 → σ0 <+: σ2 →
              Φ (lookP [(1, .sref A 0 1 0 g.1.2.length), (2, .list lk ((p :: l).map pvPart)), (3, .list wk (ws.map .str)), (4, .int .i64 (a : Nat)), (5, .list bk (B.map pvBind)), (6, ov2), (7, .int .i64 (most : Nat)), (17, .str []), (18, .bool false), (19, .int .i64 (m : Nat)), (20, .int .i64 ((a + u + 1 : Nat) : Int)), (8, pvGram g)]) σ2 := by
            intro ov2 es2 σ2 blk hblk h2 hp2
            refine next _ _ (by omega) ⟨ov2, es2, rfl, ?_, hp2⟩
            rw [take_take_app, List.append_assoc, ← hblk, ← flat_succ] at h2
            exact h2
          have hau := hadd u
          cases ef : fpart g ws T p a (a + u) with
          | false =>
            rw [ef] at hau
            simp only [add_one (a := a + u) (by omega), zz, Nat.reduceEqDiff, if_true, if_false, decide_true, decide_false, eq_self]
            refine onw ov' es' σ' [] (by rw [hau]; simp) ?_ hp'
            rw [List.append_nil, List.take_take, Nat.min_self]
            exact hO'
          | true =>
            rw [ef] at hau
            simp only [if_true] at hau
            have hbd : vBuild [(.str []), (.str [])] [(0, 1, .str p.2), (1, 1, .str (jn ws a u))] = some [.str p.2, .str (jn ws a u)] := rfl
            have hpb : PV.agg [.str p.2, .str (jn ws a u)] = pvBind (p.2, jn ws a u) := rfl
            simp only [hpt, hst, x0, hpp1, hbd, hpb, zz, Nat.reduceEqDiff, if_true, if_false, decide_true, decide_false, eq_self]
            refine (c147 (by omega) (p.2, jn ws a u) σ').callB ?_
            refine ih (lk.sub true) (a + u) .part (ins (p.2, jn ws a u) B) _ es' ov' σ' _ hk' hgd' hok' (by rw [ins_len]; exact hlen2) hul (bok_ins hB ⟨a, u, hul, rfl, ?_⟩) hO' (by simp; omega) hp' fun σ2 ov2 es2 h2 hp2 => ?_
            · have := hder u hul
              rw [ef] at this
              show derG g ws (ixN (names g) (metaOf p.2)) a (a + u) = true
              rw [hmd]
              exact this.symm
            · simp only [add_one (a := a + u) (by omega), zz, Nat.reduceEqDiff, if_true, if_false, decide_true, decide_false, eq_self]
              exact onw ov2 es2 σ2 _ hau h2 hp2
        · have hue : u = ws.length + 1 - a := by omega
          subst hue
          simp only [hul, zz, Nat.reduceEqDiff, if_true, if_false, decide_true, decide_false, eq_self]
          exact weakW_keep (hR σ' ov' es' hO' hp')
end

end Go.Proofs.YtiniifbmeobmgaaGreatDoor
