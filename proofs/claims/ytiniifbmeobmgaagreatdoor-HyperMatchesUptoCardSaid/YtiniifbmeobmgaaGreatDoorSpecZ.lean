/- The reference's Matches; the law HyperMatches. -/
import Derived.Test.YtiniifbmeobmgaaGreatDoorSpecY
set_option linter.unusedVariables false
set_option linter.unusedSimpArgs false
namespace Go.Proofs.YtiniifbmeobmgaaGreatDoor
open Go Go.Abs

theorem words_all {s : Str} (h : wordsOk s = true) : ∀ w ∈ wordsL s, isWord w = true := fun w hw => List.all_eq_true.1 h w hw

theorem c24 {g : Gram} (hg : OkGram g) {l : Sl Part} (hl : l.2.length ≤ 8) (hlk : OkParts l) {s : Str} (hs : s.length ≤ 900) {most : Int} (hmost : most ≤ 900) (hmost0 : -1 ≤ most) {σ : St} {R : Res → St → Prop}
    (hR : ∀ σ' ov es n0, OutAt n0 σ' ov (matG g l.2 s most).1 es → σ <+: σ' → R (.ret (.tuple [ov, .int .i64 (matG g l.2 s most).2])) σ') :
    W 24 [pvGram g, pvParts l, .str s, .int .i64 most] σ R := by
  have hok := hlk.okS
  obtain ⟨lk, l⟩ := l
  simp only at hl hok hR
  have hpv : pvParts (lk, l) = .list lk (l.map pvPart) := rfl
  rw [hpv]
  refine callW_fold ?_
  rw [fn24_eq]
  unfold fn24
  have hbox : opC.vBoxAny (pvGram g) = some (2, pvGram g) := rfl
  have hpt : vPart true 2 (pvGram g) 0 = some (pvGram g) := rfl
  simp only [hbox, hpt, zz, Nat.reduceEqDiff, if_true, if_false, decide_true, decide_false, eq_self]
  have fin : ∀ (e : Int), matG g l s most = ([], e) → weakW σ (.tuple [.list .nil [], .int .i64 e]) σ fun v σ => R (.ret v) σ := fun e he => by
    rw [he] at hR
    exact weakW_keep (hR σ (.list .nil []) [] 0 (OutAt.nil 0 σ) List.prefix_rfl)
  refine (c16 hg σ).callB ?_
  simp only [zz, Nat.reduceEqDiff, if_true, if_false, decide_true, decide_false, eq_self]
  cases hc : (checkG g != 0) with
  | true =>
    simp only [zz, Nat.reduceEqDiff, if_true, if_false, decide_true, decide_false, eq_self]
    have hc' : ¬ checkG g = 0 := by simpa using hc
    exact fin _ (by unfold matG; rw [if_neg hc'])
  | false =>
  have hc' : checkG g = 0 := by simpa using hc
  have hmat : matG g l s most = if l.any (badPart true) then ([], 8)
    else if l.any (unkPart (names g)) then ([], 4)
    else if wordsOk s = false then ([], 2)
    else if 200 < (wordsL s).length ∨ most < 0 then ([], 3)
    else if ((allB (wordsL s) (fpart g (wordsL s) (derT g (wordsL s))) l 0 []).length : Int) ≤ most then (allB (wordsL s) (fpart g (wordsL s) (derT g (wordsL s))) l 0 [], 0)
    else ([], 3) := by
    unfold matG
    rw [if_pos hc']
  simp only [zz, Nat.reduceEqDiff, if_true, if_false, decide_true, decide_false, eq_self]
  refine (c68 (x := .list lk (l.map pvPart)) (by omega) hok (.list _ _)).callB ?_
  cases hbad : l.any (badPart true) with
  | true =>
    simp only [if_true, show ((8 : Int) != 0) = true from rfl, zz, Nat.reduceEqDiff, if_true, if_false, decide_true, decide_false, eq_self]
    exact fin _ (by rw [hmat, hbad]; rfl)
  | false =>
  rw [hbad] at hmat
  simp only [Bool.false_eq_true, if_false] at hmat
  simp only [Bool.false_eq_true, if_false, show ((0 : Int) != 0) = false from rfl, hpt, zz, Nat.reduceEqDiff, if_true, if_false, decide_true, decide_false, eq_self]
  have hgood : ∀ p ∈ l, goodP p := fun p hp => by
    rw [List.any_eq_false] at hbad
    exact good_of (by simpa using hbad p hp)
  have hu : l.any (unkRef (names g)) = l.any (unkPart (names g)) := unkL_eq (names := names g) (d := true) (l := (lk, l)) hbad
  refine (?_ : callB W 69 [pvGram g, pvParts (lk, l)] σ _ _)
  refine (c69 hg.ml hlk σ).callB ?_
  rw [hu]
  cases hunk : l.any (unkPart (names g)) with
  | true =>
    simp only [if_true, show ((4 : Int) != 0) = true from rfl, zz, Nat.reduceEqDiff, if_true, if_false, decide_true, decide_false, eq_self]
    exact fin _ (by rw [hmat, hunk]; rfl)
  | false =>
  rw [hunk] at hmat
  simp only [Bool.false_eq_true, if_false] at hmat
  have hkn : ∀ p ∈ l, knownP g p := fun p hp => by
    rw [List.any_eq_false] at hunk
    exact unk_known (by simpa using hunk p hp)
  simp only [Bool.false_eq_true, if_false, show ((0 : Int) != 0) = false from rfl, zz, Nat.reduceEqDiff, if_true, if_false, decide_true, decide_false, eq_self]
  refine (c74 (by omega) σ).callB ?_
  have hwl := len_tot (wordsL s)
  have hwt := wordsL_tot s
  cases hwok : wordsOk s with
  | false =>
    simp only [if_true, show ((2 : Int) != 0) = true from rfl, zz, Nat.reduceEqDiff, if_true, if_false, decide_true, decide_false, eq_self]
    exact fin _ (by rw [hmat, hwok]; rfl)
  | true =>
  rw [hwok] at hmat
  simp only [Bool.true_eq_false, if_false] at hmat
  rw [if_neg (by simp)]
  by_cases h200 : 200 < (wordsL s).length
  · rw [if_pos (.inl h200)] at hmat
    rw [if_pos h200]
    simp only [show ((3 : Int) != 0) = true from rfl, zz, Nat.reduceEqDiff, if_true, if_false, decide_true, decide_false, eq_self]
    exact fin _ hmat
  · rw [if_neg h200]
    obtain ⟨wk, hwk⟩ := growV_list ((wordsL s).map PV.str)
    rw [hwk]
    simp only [show ((0 : Int) != 0) = false from rfl, zz, Nat.reduceEqDiff, if_true, if_false, decide_true, decide_false, eq_self]
    cases hneg : decide (most < 0) with
    | true =>
      rw [if_pos (.inr (by simpa using hneg))] at hmat
      simp only [zz, Nat.reduceEqDiff, if_true, if_false, decide_true, decide_false, eq_self]
      exact fin _ hmat
    | false =>
      have hno : ¬ (200 < (wordsL s).length ∨ most < 0) := by
        rw [decide_eq_false_iff_not] at hneg
        omega
      rw [if_neg hno] at hmat
      obtain ⟨mostN, rfl⟩ : ∃ n : Nat, most = (n : Int) := ⟨most.toNat, by omega⟩
      have hwall := words_all hwok
      simp only [hpt, zz, Nat.reduceEqDiff, if_true, if_false, decide_true, decide_false, eq_self]
      generalize hws : wordsL s = ws at *
      refine c75 hg hc' (by omega) fun σ2 A bm bc T hRT hRi hpre => ?_
      have hp2 : σ <+: σ2 := pre_of hpre
      have hall := allB_right hRi hkn (Nat.zero_le _) []
      refine c95 hg hRT hRi hwall (by omega) (by omega) (by omega) l lk 0 .nil [] [] [] (.list .nil []) σ2 _ hkn hgood hok (by simp; omega) (Nat.zero_le _) (fun b hb => by cases hb) (OutAt.nil _ _) (by simp) List.prefix_rfl fun σ7 ov7 es7 hO hp7 => ?_
      rw [List.nil_append, hall] at hO
      have hlen : ∀ σ', vLen .sl ov7 σ' = some (.int .i64 ((((allB ws (fpart g ws (derT g ws)) l 0 []).take (mostN + 1)).length : Nat) : Int)) := fun σ' => by rw [hO.grow.elems.len, hO.len]
      simp only [hlen, zz, Nat.reduceEqDiff, if_true, if_false, decide_true, decide_false, eq_self]
      by_cases hfit : (allB ws (fpart g ws (derT g ws)) l 0 []).length ≤ mostN
      · have hi : (((allB ws (fpart g ws (derT g ws)) l 0 []).length : Int)) ≤ (mostN : Int) := by omega
        rw [if_pos hi] at hmat
        rw [List.take_of_length_le (by omega)] at hO ⊢
        have hd : decide (mostN < (allB ws (fpart g ws (derT g ws)) l 0 []).length) = false := by rw [decide_eq_false_iff_not]; omega
        simp only [hd, zz, Nat.reduceEqDiff, if_true, if_false, decide_true, decide_false, eq_self]
        rw [hmat] at hR
        exact weakW_keep (hR σ7 ov7 es7 _ hO (hp2.trans hp7))
      · have hi : ¬ (((allB ws (fpart g ws (derT g ws)) l 0 []).length : Int)) ≤ (mostN : Int) := by omega
        rw [if_neg hi] at hmat
        have hd : decide (mostN < ((allB ws (fpart g ws (derT g ws)) l 0 []).take (mostN + 1)).length) = true := by rw [decide_eq_true_eq, List.length_take]; omega
        simp only [hd, zz, Nat.reduceEqDiff, if_true, if_false, decide_true, decide_false, eq_self]
        rw [hmat] at hR
        exact weakW_keep (hR σ7 (.list .nil []) [] 0 (OutAt.nil _ _) (hp2.trans hp7))

theorem matG_ref (g : Gram) (l : List Part) (s : Str) (most : Int) : matG (refGram g) l s most = matG g l s most := by
  unfold matG derT derG fpart
  rw [checkG_ref, names_ref, altsG_ref, metaLen_ref]

/-! ### Equal lists -/

theorem hb27 : hasBody 27 = true := by kernel_rfl
theorem hb29 : hasBody 29 = true := by kernel_rfl

theorem c29 (b : Bind) (σ : St) : Ret W 29 [pvBind b, pvBind b] σ (.bool true) := by
  refine ret_of fun R hR => ?_
  rw [fn29_eq]
  unfold fn29
  have hbox : opC.vBoxAny (pvBind b) = some (2, pvBind b) := rfl
  have hpt : vPart true 2 (pvBind b) 0 = some (pvBind b) := rfl
  have heq : vBin (some (.st [.str, .str])) .eql (pvBind b) (pvBind b) = some (.bool true) := by
    simp [vBin, vEq, vEqL, vEqS, pvBind]
  simp only [hbox, hpt, heq, zz, Nat.reduceEqDiff, if_true, if_false, decide_true, decide_false, eq_self]
  exact weakW_keep hR

theorem c28 {B : Binds} (hB : B.length < 4611686018427387904) {x y : PV} {σ : St} (hx : Elems σ 2 x (B.map pvBind)) (hy : Elems σ 2 y (B.map pvBind)) : Ret W 28 [x, y, .func 29 []] σ (.bool true) := by
  refine ret_of fun R hR => ?_
  rw [fn28_eq]
  unfold fn28
  simp only [hx.len, hy.len, List.length_map, show ∀ n : Int, (n != n) = false from fun n => by simp, zz, Nat.reduceEqDiff, if_true, if_false, decide_true, decide_false, eq_self]
  refine CutW_of ?_
  refine Lfp_up B.length (fun i z σ' => z = lookP [(1, y), (2, .func 29 []), (15, x), (16, .int .i64 B.length), (17, .int .i64 i)] ∧ σ' = σ) ?_ ⟨rfl, rfl⟩
  rintro Φ i z σ' hi ⟨rfl, rfl⟩ next
  simp only [zz, Nat.reduceEqDiff, if_true, if_false, decide_true, decide_false, eq_self]
  by_cases hlt : i < B.length
  · have hgi : B[i]? = some B[i] := by simp [hlt]
    generalize B[i] = b at hgi
    have hput : vPut 2 (.agg [.str [], .str []]) 0 (pvBind b) = some (pvBind b) := rfl
    have hpt : vPart true 2 (pvBind b) 0 = some (pvBind b) := rfl
    obtain ⟨q, q1, q2, _⟩ := hx.at_ (i := i) (k := .i64) (by rw [List.getElem?_map, hgi]; rfl) (show (pvBind b).cells? = some _ from rfl) rfl
    obtain ⟨r, r1, r2, _⟩ := hy.at_ (i := i) (k := .i64) (by rw [List.getElem?_map, hgi]; rfl) (show (pvBind b).cells? = some _ from rfl) rfl
    simp only [hlt, q1, q2, r1, r2, hput, hpt, callG_func hb29, List.cons_append, List.nil_append, List.append_nil, zz, Nat.reduceEqDiff, if_true, if_false, decide_true, decide_false, eq_self]
    refine (c29 b _).callB ?_
    simp only [zz, Nat.reduceEqDiff, if_true, if_false, decide_true, decide_false, eq_self]
    rw [vBin_add _ (by omega) (by omega)]
    exact next _ _ hlt ⟨by simp, rfl⟩
  · simp only [hlt, zz, Nat.reduceEqDiff, if_true, if_false, decide_true, decide_false, eq_self]
    exact weakW_keep hR

theorem c27 {B : Binds} (hB : B.length < 4611686018427387904) {x y : PV} {σ : St} (hx : Elems σ 2 x (B.map pvBind)) (hy : Elems σ 2 y (B.map pvBind)) : Ret W 27 [x, y] σ (.bool true) := by
  refine ret_of fun R hR => ?_
  rw [fn27_eq]
  unfold fn27
  refine (c28 hB hx hy).callB ?_
  exact weakW_keep hR

theorem c26 {out : List Binds} (ho : out.length < 4611686018427387904) (hB : ∀ B ∈ out, B.length < 4611686018427387904) {x y : PV} {es fs : List PV} {n0 m0 : Nat} {σ : St} (hx : OutAt n0 σ x out es) (hy : OutAt m0 σ y out fs) : Ret W 26 [x, y, .func 27 []] σ (.bool true) := by
  refine ret_of fun R hR => ?_
  rw [fn26_eq]
  unfold fn26
  have lx : ∀ σ', vLen .sl x σ' = some (.int .i64 (out.length : Nat)) := fun σ' => by rw [hx.grow.elems.len, hx.len]
  have ly : ∀ σ', vLen .sl y σ' = some (.int .i64 (out.length : Nat)) := fun σ' => by rw [hy.grow.elems.len, hy.len]
  simp only [lx, ly, show ∀ n : Int, (n != n) = false from fun n => by simp, zz, Nat.reduceEqDiff, if_true, if_false, decide_true, decide_false, eq_self]
  refine CutW_of ?_
  refine Lfp_up out.length (fun i z σ' => z = lookP [(1, y), (2, .func 27 []), (15, x), (16, .int .i64 out.length), (17, .int .i64 i)] ∧ σ' = σ) ?_ ⟨rfl, rfl⟩
  rintro Φ i z σ' hi ⟨rfl, rfl⟩ next
  simp only [zz, Nat.reduceEqDiff, if_true, if_false, decide_true, decide_false, eq_self]
  by_cases hlt : i < out.length
  · have hgi : out[i]? = some out[i] := by simp [hlt]
    have hmem : out[i] ∈ out := by simp
    generalize out[i] = B at hgi hmem
    have hex : es[i]? = some (es[i]'(by rw [hx.len]; exact hlt)) := by simp
    have hfx : fs[i]? = some (fs[i]'(by rw [hy.len]; exact hlt)) := by simp
    generalize es[i]'(by rw [hx.len]; exact hlt) = e at hex
    generalize fs[i]'(by rw [hy.len]; exact hlt) = f at hfx
    have be := hx.mem i e B hex hgi
    have bf := hy.mem i f B hfx hgi
    have he1 : e.cells? = some [e] ∧ vPart false 1 e 0 = some e := by
      rcases be with ⟨k, rfl⟩ | ⟨b, g, rfl, _⟩
      · exact ⟨rfl, rfl⟩
      · exact ⟨rfl, rfl⟩
    have hf1 : f.cells? = some [f] ∧ vPart false 1 f 0 = some f := by
      rcases bf with ⟨k, rfl⟩ | ⟨b, g, rfl, _⟩
      · exact ⟨rfl, rfl⟩
      · exact ⟨rfl, rfl⟩
    obtain ⟨q, q1, q2, _⟩ := hx.grow.elems.at_ (k := .i64) hex he1.1 rfl
    obtain ⟨r, r1, r2, _⟩ := hy.grow.elems.at_ (k := .i64) hfx hf1.1 rfl
    simp only [hlt, q1, q2, r1, r2, he1.2, hf1.2, callG_func hb27, List.cons_append, List.nil_append, List.append_nil, zz, Nat.reduceEqDiff, if_true, if_false, decide_true, decide_false, eq_self]
    refine (c27 (hB B hmem) be.elems bf.elems).callB ?_
    simp only [zz, Nat.reduceEqDiff, if_true, if_false, decide_true, decide_false, eq_self]
    rw [vBin_add _ (by omega) (by omega)]
    exact next _ _ hlt ⟨by simp, rfl⟩
  · simp only [hlt, zz, Nat.reduceEqDiff, if_true, if_false, decide_true, decide_false, eq_self]
    exact weakW_keep hR

theorem allB_len {ws : List Str} {fp : Part → Nat → Nat → Bool} : ∀ {l : List Part} {a : Nat} {B X : Binds}, X ∈ allB ws fp l a B → X.length ≤ B.length + l.length
  | [], a, B, X, h => by
    unfold allB at h
    split at h
    · simp at h; subst h; simp
    · cases h
  | p :: l, a, B, X, h => by
    rw [allB, List.mem_flatMap] at h
    obtain ⟨n, _, hX⟩ := h
    split at hX
    · split at hX
      · rename_i B' hB'
        have ih := allB_len hX
        have : B'.length ≤ B.length + 1 := by
          unfold stepA at hB'
          split at hB'
          · split at hB'
            · split at hB'
              · cases hB'; omega
              · cases hB'
            · cases hB'; rw [ins_len]; omega
          · cases hB'; omega
        simp only [List.length_cons]
        omega
      · cases hX
    · cases hX

theorem matG_mem {g : Gram} {l : List Part} {s : Str} {most : Int} {X : Binds} (h : X ∈ (matG g l s most).1) : X.length ≤ l.length := by
  unfold matG at h
  split at h
  · split at h
    · cases h
    split at h
    · cases h
    split at h
    · cases h
    split at h
    · cases h
    split at h
    · have := allB_len h
      simpa using this
    · cases h
  · cases h

theorem matG_len {g : Gram} {l : List Part} {s : Str} {most : Int} (hm : most ≤ 900) : (matG g l s most).1.length ≤ 900 := by
  unfold matG
  split
  · split
    · simp
    split
    · simp
    split
    · simp
    split
    · simp
    split
    · rename_i h
      simp only
      omega
    · simp
  · simp

/-- The law, the examples' run taken as given. -/
theorem c6 (hawake : ∀ σ : St, σ = [] → Ret W 13 [] σ (.bool true)) {g : Gram} (hg : OkGram g) {l : Sl Part} (hl : OkParts l) {s : Str} : Ret W 6 [pvGram g, pvParts l, .str s] [] (.bool true) := by
  refine ret_of fun R hR => ?_
  rw [fn6_eq]
  unfold fn6
  have hbox : opC.vBoxAny (pvGram g) = some (2, pvGram g) := rfl
  have hpt : vPart true 2 (pvGram g) 0 = some (pvGram g) := rfl
  obtain ⟨lk, ps⟩ := l
  have hpv : pvParts (lk, ps) = .list lk (ps.map pvPart) := rfl
  simp only [hbox, zz, Nat.reduceEqDiff, if_true, if_false, decide_true, decide_false, eq_self]
  refine (hawake [] rfl).callB ?_
  simp only [hpt, zz, Nat.reduceEqDiff, if_true, if_false, decide_true, decide_false, eq_self]
  refine (c14 hg []).callB ?_
  have fin : ∀ σ' : St, weakW [] (.bool true) σ' fun v σ => R (.ret v) σ := fun σ' => weakW_clean List.nil_prefix (.base _ (.bool _)) hR
  rw [hpv]
  cases h : smallG g with
  | false =>
    simp only [zz, Nat.reduceEqDiff, if_true, if_false, decide_true, decide_false, eq_self]
    exact fin _
  | true =>
    simp only [List.length_map, zz, Nat.reduceEqDiff, if_true, if_false, decide_true, decide_false, eq_self]
    cases h1 : decide ((ps.length : Int) > 6) with
    | true =>
      simp only [zz, Nat.reduceEqDiff, if_true, if_false, decide_true, decide_false, eq_self]
      exact fin _
    | false =>
      simp only [zz, Nat.reduceEqDiff, if_true, if_false, decide_true, decide_false, eq_self]
      cases h2 : decide ((s.length : Int) > 24) with
      | true =>
        simp only [zz, Nat.reduceEqDiff, if_true, if_false, decide_true, decide_false, eq_self]
        exact fin _
      | false =>
        rw [decide_eq_false_iff_not] at h1 h2
        simp only [zz, Nat.reduceEqDiff, if_true, if_false, decide_true, decide_false, eq_self]
        refine CutW_of ?_
        have hbs : vBuildSl 1 (List.replicate 5 (.int .i64 0)) [(0, (.int .i64 (-1))), (1, (.int .i64 0)), (2, (.int .i64 1)), (3, (.int .i64 2)), (4, (.int .i64 250))] = some [.int .i64 (-1), .int .i64 0, .int .i64 1, .int .i64 2, .int .i64 250] := rfl
        simp only [hbs, List.length_cons, List.length_nil, zz, Nat.reduceEqDiff, if_true, if_false, decide_true, decide_false, eq_self]
        refine Lfp_up 5 (fun i z σ' => z = lookP [(1, .list lk (ps.map pvPart)), (2, .str s), (28, .list .full [.int .i64 (-1), .int .i64 0, .int .i64 1, .int .i64 2, .int .i64 250]), (29, .int .i64 ((5 : Nat) : Int)), (30, .int .i64 i), (3, pvGram g)]) ?_ rfl
        rintro Φ i z σ' hi rfl next
        simp only [Int.ofNat_lt, zz, Nat.reduceEqDiff, if_true, if_false, decide_true, decide_false, eq_self]
        by_cases hlt : i < 5
        · obtain ⟨most, hmi, hmb, hmb2⟩ : ∃ most : Int, ([.int .i64 (-1), .int .i64 0, .int .i64 1, .int .i64 2, .int .i64 250] : List PV)[i]? = some (.int .i64 most) ∧ most ≤ 900 ∧ -1 ≤ most := by
            match i, hlt with
            | 0, _ => exact ⟨-1, rfl, by omega, by omega⟩
            | 1, _ => exact ⟨0, rfl, by omega, by omega⟩
            | 2, _ => exact ⟨1, rfl, by omega, by omega⟩
            | 3, _ => exact ⟨2, rfl, by omega, by omega⟩
            | 4, _ => exact ⟨250, rfl, by omega, by omega⟩
            | i + 5, h => omega
          have hix : vIndex 1 (.list .full [.int .i64 (-1), .int .i64 0, .int .i64 1, .int .i64 2, .int .i64 250]) (.int .i64 (i : Nat)) = some (.eptr (.int .i64 most) 0) := vIndex_list .i64 hmi rfl rfl
          simp only [hlt, hix, hpt, zz, Nat.reduceEqDiff, if_true, if_false, decide_true, decide_false, eq_self]
          have hps8 : ps.length ≤ 8 := by omega
          refine c23 hg hps8 hl.okS (by omega) hmb hmb2 fun σ2 ov es n0 hO hp2 => ?_
          simp only [hpt, zz, Nat.reduceEqDiff, if_true, if_false, decide_true, decide_false, eq_self]
          refine (c17 hg σ2).callB ?_
          refine (c25' (l := (lk, ps)) (by simp; omega) σ2).callB ?_
          refine c24 (okGram_ref hg) (l := refParts (lk, ps)) (by show ps.length ≤ 8; exact hps8) (okParts_ref hl) (by omega) hmb hmb2 fun σ3 ov' es' m0 hO' hp3 => ?_
          have hrp : (refParts (lk, ps)).2 = ps := rfl
          rw [hrp, matG_ref] at hO' ⊢
          have hO2 := hO.keep (σ' := σ3) fun c hc => by
            obtain ⟨e, rfl⟩ := hp3
            exact List.getElem?_append_left hc
          have hne : ∀ n : Int, (n != n) = false := fun n => by simp
          simp only [hne, zz, Nat.reduceEqDiff, if_true, if_false, decide_true, decide_false, eq_self]
          have hlm := matG_len (g := g) (l := ps) (s := s) hmb
          refine (c26 (Nat.lt_of_le_of_lt hlm (by decide)) (fun B hB => Nat.lt_of_le_of_lt (matG_mem hB) (Nat.lt_of_le_of_lt hps8 (by decide))) hO2 hO').callB ?_
          simp only [zz, Nat.reduceEqDiff, if_true, if_false, decide_true, decide_false, eq_self]
          rw [vBin_add _ (by omega) (by omega)]
          exact next _ _ hlt (by simp)
        · simp only [hlt, zz, Nat.reduceEqDiff, if_true, if_false, decide_true, decide_false, eq_self]
          exact fin _

end Go.Proofs.YtiniifbmeobmgaaGreatDoor
