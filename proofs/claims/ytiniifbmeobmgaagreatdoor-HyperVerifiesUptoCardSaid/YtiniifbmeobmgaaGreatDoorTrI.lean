/- The reference's verify: its table frozen, what it has seen; the walk. -/
import Derived.Test.YtiniifbmeobmgaaGreatDoorTrF
import Derived.Test.YtiniifbmeobmgaaGreatDoorTrH
import Derived.Test.YtiniifbmeobmgaaGreatDoorTrB
set_option linter.unusedVariables false
set_option linter.unusedSimpArgs false
namespace Go.Proofs.YtiniifbmeobmgaaGreatDoor
open Go Go.Abs

/-! ### The table, frozen -/

def rngV (n : Nat) (F : Nat → PV) : PV := .list .part ((List.range n).map F)
def tabV (M N : Nat) (T : Tab) : PV := rngV M fun m => rngV (N + 1) fun a => .list .part (bl (N + 1) fun b => T m a b)

theorem rng_at {n : Nat} {F : Nat → PV} {i : Nat} {x : PV} (h : ((List.range n).map F)[i]? = some x) : i < n ∧ x = F i := by
  rw [List.getElem?_map, Option.map_eq_some_iff] at h
  obtain ⟨j, hj, rfl⟩ := h
  obtain ⟨hl, he⟩ := List.getElem?_eq_some_iff.1 hj
  simp at hl he
  exact ⟨hl, by rw [he]⟩

theorem frz_tab {σ : St} {n A : Nat} {bm : Nat → Nat} {bc : Nat → Nat → Nat} {g : Gram} {ws : List Str} {T : Tab} (hH : RT σ A bm bc g ws T) (hA : n ≤ A) (hbm : ∀ m, n ≤ bm m) (hbc : ∀ m a, n ≤ bc m a) :
    Frz σ n (.sref A 0 1 0 g.1.2.length) (tabV g.1.2.length ws.length T) := by
  refine .sref A 0 1 0 _ 0 1 _ _ hH.top rfl hA (by simp) (by simp) fun m x y hm hx hy => ?_
  rw [Nat.zero_add] at hx
  obtain ⟨_, rfl⟩ := rng_at hx
  obtain ⟨_, rfl⟩ := rng_at hy
  refine .sref (bm m) 0 1 0 _ 0 1 _ _ (hH.mid m hm) rfl (hbm m) (by simp) (by simp) fun a x y ha hx hy => ?_
  rw [Nat.zero_add] at hx
  obtain ⟨_, rfl⟩ := rng_at hx
  obtain ⟨_, rfl⟩ := rng_at hy
  refine .sref (bc m a) 0 1 0 _ 0 1 _ _ (hH.bot m hm a (by omega)) rfl (hbc m a) (by simp [bl]) (by simp [bl]) fun b x y hb hx hy => ?_
  rw [Nat.zero_add] at hx
  obtain ⟨_, rfl⟩ := rng_at hx
  obtain ⟨_, rfl⟩ := rng_at hy
  exact .base _ (.bool _)

theorem c75f {g : Gram} (hg : OkGram g) (hck : checkG g = 0) {ws : List Str} {wk : LK} (hw : ws.length ≤ 1048576) {σ : St} {R : Res → St → Prop}
    (hR : ∀ T, (∀ a b, a ≤ b → b ≤ ws.length → RightG g ws T a b) → R (.ret (tabV g.1.2.length ws.length T)) σ) : W 75 [pvGram g, .list wk (ws.map .str)] σ R :=
  c75w hg hck hw fun σ' A bm bc T hH hRi hpre hA hbm hbc => weakW_clean (pre_of hpre) (frz_tab hH hA hbm hbc) (hR T hRi)

theorem ix_rng {n : Nat} {F : Nat → PV} {i : Nat} {k : IntKind} (h : i < n) (hc : (F i).cells? = some [F i]) : vIndex 1 (rngV n F) (.int k i) = some (.eptr (F i) 0) :=
  vIndex_list _ (by simp [h]) hc rfl

/-! ### The reference's kernel -/

def RKSt (σ0 : St) (g : Gram) (seen : List Bind) (acc : List Str) (σ : St) : Prop := ∃ sv tv, σ[σ0.length]? = some (.arr 0 4 [.agg [pvSl pvMeta g.1, pvSl pvRule g.2, sv, tv]]) ∧
  Grow (σ0.length + 1) 2 σ sv (seen.map pvBind) ∧ Grow (σ0.length + 1) 1 σ tv (acc.map .str) ∧ (∀ c, AtR sv c → ¬ AtR tv c) ∧ σ0 <+: σ

theorem RKSt.gram {σ0 : St} {g : Gram} {seen : List Bind} {acc : List Str} {σ : St} (h : RKSt σ0 g seen acc σ) : vLoad true 2 (.ptr σ0.length 0 0 0) σ = some (pvGram g) := by
  obtain ⟨sv, tv, h, _⟩ := h
  simp only [vLoad, h]
  rfl

theorem RKSt.rules {σ0 : St} {g : Gram} {seen : List Bind} {acc : List Str} {σ : St} (h : RKSt σ0 g seen acc σ) : vLoad false 1 (.ptr σ0.length 0 0 1) σ = some (.list g.2.1 (g.2.2.map pvRule)) := by
  obtain ⟨sv, tv, h, _⟩ := h
  simp only [vLoad, h]
  rfl

theorem RKSt.seen {σ0 : St} {g : Gram} {seen : List Bind} {acc : List Str} {σ : St} (h : RKSt σ0 g seen acc σ) : ∃ sv, vLoad false 1 (.ptr σ0.length 0 0 2) σ = some sv ∧ Elems σ 2 sv (seen.map pvBind) := by
  obtain ⟨sv, tv, h, hs, _⟩ := h
  refine ⟨sv, ?_, hs.elems⟩
  simp only [vLoad, h]
  rfl

theorem RKSt.appT {σ0 : St} {g : Gram} {seen : List Bind} {acc : List Str} {σ : St} (h : RKSt σ0 g seen acc σ) (s : Str) (hr : (acc.length + 1) * 16 ≤ 140737488355328) :
    ∃ tv tv' σ' σ'', vLoad false 1 (.ptr σ0.length 0 0 3) σ = some tv ∧ vAppend 1 16 tv (.list .full [.str s]) σ = some (tv', σ') ∧ vStore 1 (.ptr σ0.length 0 0 3) tv' σ' = some σ'' ∧ RKSt σ0 g seen (acc ++ [s]) σ'' := by
  obtain ⟨sv, tv, hK, hS, hG, hd, hp⟩ := h
  obtain ⟨v', σ', e1, e2, e3, e4, e5, e6, e7, e8⟩ := row_app (y := .str s) hK hG hp (sizedStr s) (by simpa using hr) (by_ := 16) fun v => .arr 0 4 [.agg [pvSl pvMeta g.1, pvSl pvRule g.2, sv, v]]
  refine ⟨tv, v', σ', _, ?_, e1, ?_, sv, v', e4, atR_stay hS fun c hc => ?_, by simpa using e5, fun c hc hc' => ?_, e6⟩
  · simp only [vLoad, hK]
    rfl
  · simp only [vStore, e2]
    simp [vPut, e3, setRange]
  · have := atR_low hS hc
    exact e7 c this.2 (by omega) (hd c hc)
  · have := atR_low hS hc
    rcases e8 c hc' with h | h
    · exact hd c hc h
    · omega

theorem RKSt.appS {σ0 : St} {g : Gram} {seen : List Bind} {acc : List Str} {σ : St} (h : RKSt σ0 g seen acc σ) (b : Bind) (hr : (seen.length + 1) * 32 ≤ 140737488355328) :
    ∃ tv tv' σ' σ'', vLoad false 1 (.ptr σ0.length 0 0 2) σ = some tv ∧ vAppend 2 32 tv (.list .full [pvBind b]) σ = some (tv', σ') ∧ vStore 1 (.ptr σ0.length 0 0 2) tv' σ' = some σ'' ∧ RKSt σ0 g (seen ++ [b]) acc σ'' := by
  obtain ⟨sv, tv, hK, hS, hG, hd, hp⟩ := h
  obtain ⟨v', σ', e1, e2, e3, e4, e5, e6, e7, e8⟩ := row_app (y := pvBind b) hK hS hp (sizedBind b) (by simpa using hr) (by_ := 32) fun v => .arr 0 4 [.agg [pvSl pvMeta g.1, pvSl pvRule g.2, v, tv]]
  refine ⟨sv, v', σ', _, ?_, e1, ?_, v', tv, e4, by simpa using e5, atR_stay hG fun c hc => ?_, fun c hc hc' => ?_, e6⟩
  · simp only [vLoad, hK]
    rfl
  · simp only [vStore, e2]
    simp [vPut, e3, setRange]
  · have := atR_low hG hc
    exact e7 c this.2 (by omega) fun h => hd c h hc
  · have := atR_low hG hc'
    rcases e8 c hc with h | h
    · exact hd c h hc'
    · omega

/-- Whether a metanotion produces a value. -/
noncomputable def prodOK (g : Gram) (m s : Str) : Bool := (prodG g m s).1 && decide ((prodG g m s).2 = 0)

set_option maxHeartbeats 1000000 in
theorem c164 {g : Gram} (hg : OkGram g) (hck : checkG g = 0) {m s : Str} (hm : (names g).contains m = true) (hs : s.length ≤ 1048576) {σ0 : St} {seen : List Bind} {acc : List Str} {σ : St} (hK : RKSt σ0 g seen acc σ)
    (hseen : ∀ q ∈ seen, prodOK g q.1 q.2 = true) (hlen : seen.length + 1 ≤ 4398046511104) {R : Res → St → Prop}
    (hR : ∀ seen' σ', RKSt σ0 g seen' acc σ' → (∀ q ∈ seen', prodOK g q.1 q.2 = true) → seen'.length ≤ seen.length + 1 → R (.ret (.bool (prodOK g m s))) σ') : W 164 [.ptr σ0.length 0 0 0, .str m, .str s] σ R := by
  refine callW_fold ?_
  rw [fn164_eq]
  unfold fn164
  have hf0 : vField 0 (.ptr σ0.length 0 0 0) = some (.ptr σ0.length 0 0 0) := rfl
  have hf2 : vField 2 (.ptr σ0.length 0 0 0) = some (.ptr σ0.length 0 0 2) := rfl
  obtain ⟨sv, hsl, hE⟩ := hK.seen
  have hsn := hE.len σ
  rw [List.length_map] at hsn
  refine CutW_of ?_
  refine Lfp_up seen.length (fun i x σ' => x = lookP [(0, .ptr σ0.length 0 0 0), (1, .str m), (2, .str s), (7, .int .i64 i)] ∧ σ' = σ) ?_ ⟨rfl, rfl⟩
  rintro Φ i x σ' hi ⟨rfl, rfl⟩ next
  simp only [nilP, hf2, hsl, hsn, zz, Nat.reduceEqDiff]
  by_cases hlt : i < seen.length
  · have hgi : seen[i]? = some seen[i] := by simp [hlt]
    have hmi : seen[i] ∈ seen := by simp
    generalize seen[i] = q at hgi hmi
    obtain ⟨p, p1, _, p3⟩ := hE.at_ (i := i) (k := .i64) (by rw [List.getElem?_map, hgi]; rfl) (show (pvBind q).cells? = some [.str q.1, .str q.2] from rfl) rfl
    obtain ⟨p0, pf0, pl0⟩ := p3 0
    obtain ⟨p1', pf1, pl1⟩ := p3 1
    have hq0 : vPart false 1 (pvBind q) 0 = some (.str q.1) := rfl
    have hq1 : vPart false 1 (pvBind q) 1 = some (.str q.2) := rfl
    simp only [hlt, p1, pf0, pl0, hq0, zz, Nat.reduceEqDiff]
    cases h1 : (q.1 == m) with
    | false =>
      simp only [zz, Nat.reduceEqDiff]
      rw [vBin_add _ (by omega) (by omega)]
      exact next _ _ hlt ⟨by simp, rfl⟩
    | true =>
      simp only [nilP, hf2, hsl, p1, pf1, pl1, hq1, zz, Nat.reduceEqDiff]
      cases h2 : (q.2 == s) with
      | false =>
        simp only [zz, Nat.reduceEqDiff]
        rw [vBin_add _ (by omega) (by omega)]
        exact next _ _ hlt ⟨by simp, rfl⟩
      | true =>
        have e1 : q.1 = m := by simpa using h1
        have e2 : q.2 = s := by simpa using h2
        have := hseen q hmi
        rw [e1, e2] at this
        have hR := hR seen _ hK hseen (by omega)
        rw [this] at hR
        simp only [zz, Nat.reduceEqDiff]
        exact weakW_keep hR
  obtain rfl : i = seen.length := by omega
  simp only [hlt, zz, Nat.reduceEqDiff]
  clear next hi hlt
  have hpr : prodG g m s = if wordsOk s = false then (false, 2) else if 200 < (wordsL s).length then (false, 3) else (derG g (wordsL s) (ixN (names g) m) 0 (wordsL s).length, 0) := by
    unfold prodG
    rw [if_pos hck, hm]
    simp
  have bad : prodOK g m s = false → R (.ret (.bool false)) σ' := fun h => by
    have := hR seen _ hK hseen (by omega)
    rwa [h] at this
  refine (c74 (by omega) σ').callB ?_
  cases hok : wordsOk s with
  | false =>
    simp only [if_true, show ((2 : Int) != 0) = true from rfl, zz, Nat.reduceEqDiff]
    exact weakW_keep (bad (by unfold prodOK; rw [hpr, hok]; rfl))
  | true =>
  rw [hok] at hpr
  simp only [Bool.true_eq_false, if_false] at hpr
  rw [if_neg (by simp)]
  by_cases hl : 200 < (wordsL s).length
  · rw [if_pos hl] at hpr ⊢
    simp only [show ((3 : Int) != 0) = true from rfl, zz, Nat.reduceEqDiff]
    exact weakW_keep (bad (by unfold prodOK; rw [hpr]; rfl))
  rw [if_neg hl] at hpr ⊢
  obtain ⟨wk, hwk⟩ := growV_list ((wordsL s).map PV.str)
  rw [hwk]
  simp only [show ((0 : Int) != 0) = false from rfl, nilP, hf0, hK.gram, List.length_map, zz, Nat.reduceEqDiff]
  refine c75f hg hck (by omega) fun T hRi => ⟨rfl, ?_⟩
  refine (c67 hg.ml σ').callB ?_
  have hlt : ixN (names g) m < g.1.2.length := by
    have := ixN_lt hm
    simpa [names] using this
  have hix : idxOf (fun x : Meta19 => x.1 == m) g.1.2 0 = ((ixN (names g) m : Nat) : Int) := by
    rw [idxOf_ix g.1.2 _ 0 hm, Nat.zero_add]
    rfl
  rw [hix]
  have e1 := ix_rng (k := .i64) (F := fun m => rngV ((wordsL s).length + 1) fun a => .list .part (bl ((wordsL s).length + 1) fun b => T m a b)) hlt rfl
  have e2 : vIndex 1 (rngV ((wordsL s).length + 1) fun a => .list .part (bl ((wordsL s).length + 1) fun b => T (ixN (names g) m) a b)) (.int .i64 0) = some (.eptr (.list .part (bl ((wordsL s).length + 1) fun b => T (ixN (names g) m) 0 b)) 0) :=
    ix_rng (F := fun a => .list .part (bl ((wordsL s).length + 1) fun b => T (ixN (names g) m) a b)) (Nat.succ_pos (wordsL s).length) rfl
  have e3 : vIndex 1 (.list .part (bl ((wordsL s).length + 1) fun b => T (ixN (names g) m) 0 b)) (.int .i64 (wordsL s).length) = some (.eptr (.bool (T (ixN (names g) m) 0 (wordsL s).length)) 0) :=
    vIndex_list _ (bl_get (by omega)) rfl rfl
  have e7 : T (ixN (names g) m) 0 (wordsL s).length = derG g (wordsL s) (ixN (names g) m) 0 (wordsL s).length := hRi 0 (wordsL s).length (Nat.zero_le _) (Nat.le_refl _) _ hlt
  have l1 : ∀ (n : Nat) (F : Nat → PV), vLoad false 1 (.eptr (rngV n F) 0) σ' = some (rngV n F) := fun _ _ => rfl
  have l2 : ∀ (l : List PV), vLoad false 1 (.eptr (.list .part l) 0) σ' = some (.list .part l) := fun _ => rfl
  have l3 : ∀ (b : Bool), vLoad false 1 (.eptr (.bool b) 0) σ' = some (.bool b) := fun _ => rfl
  simp only [tabV, e1, l1, e2, l2, e3, l3, e7, zz, Nat.reduceEqDiff]
  have hpo : prodOK g m s = derG g (wordsL s) (ixN (names g) m) 0 (wordsL s).length := by unfold prodOK; rw [hpr]; simp
  cases hd : derG g (wordsL s) (ixN (names g) m) 0 (wordsL s).length with
  | false =>
    simp only [zz, Nat.reduceEqDiff]
    exact weakW_keep (bad (by rw [hpo, hd]))
  | true =>
    rw [hd] at hpo
    obtain ⟨tv, tv', σ2, σ3, a1, a2, a3, a4⟩ := hK.appS (m, s) (by omega)
    have hvb : vBuild [.str [], .str []] [(0, 1, .str m), (1, 1, .str s)] = some [.str m, .str s] := rfl
    have hpb : (.agg [.str m, .str s] : PV) = pvBind (m, s) := rfl
    simp only [nilP, hf2, a1, hvb, hpb, vBuildSl_one (sizedBind (m, s)), a2, a3, zz, Nat.reduceEqDiff]
    have hR := hR _ _ a4 (fun q hq => by
      rcases List.mem_append.1 hq with hq | hq
      · exact hseen q hq
      · simp at hq; subst hq; exact hpo) (by simp)
    rw [hpo] at hR
    exact weakW_keep hR


/-! The reference's verify: the walk; Verify. -/

theorem namesP_len {r : Rule19} (h8 : r.1.2.length ≤ 8) (h6 : r.2.2.length ≤ 6) (hl8 : ∀ l ∈ r.2.2, l.2.length ≤ 8) : (namesP r).length ≤ 56 := by
  have hall : ∀ l ∈ ruleAll r, l.2.length ≤ 8 := fun l hl => by
    rcases List.mem_cons.1 hl with rfl | hl
    · exact h8
    · exact hl8 l hl
  have hal : (ruleAll r).length ≤ 7 := by simp [ruleAll]; omega
  have h1 := flat8 (ruleAll r) hall
  have h2 := foldP_len ((ruleAll r).flatMap fun l => l.2) []
  simp only [namesP, List.length_map]
  simp only [List.length_nil] at h2
  omega

/-- A name of a rule's parameter in a right grammar. -/
theorem namesR_good {g : Gram} (hck : checkG g = 0) {r : Rule19} (hr : r ∈ g.2.2) {n : Str} (hn : n ∈ namesR r) : base n = metaOf n ∧ (names g).contains (metaOf n) = true := by
  rw [namesR, compact_mem, sortS_mem] at hn
  simp only [params, texts, List.mem_flatten, List.mem_map] at hn
  obtain ⟨_, ⟨l, hl, rfl⟩, hn⟩ := hn
  obtain ⟨p, hp, rfl⟩ := List.mem_map.1 hn
  obtain ⟨hp, hp1⟩ := List.mem_filter.1 hp
  exact ⟨base_eq (good_rules hck hr hl hp hp1), known_rules hck hr hl hp hp1⟩

theorem c118_bad {notion : Str} (hn : notion.length ≤ 10485770) (hw : wordsOk notion = false) {P : PV} (t : PTree) (σ : St) : Ret W 118 [P, .str notion, pvT t] σ (.int .i64 14) := by
  refine ret_of fun R hR => ?_
  rw [fn118_eq]
  unfold fn118
  simp only [boxT, zz, Nat.reduceEqDiff]
  refine (c100 (by omega) σ).callB ?_
  rw [hw]
  simp only [Bool.false_eq_true, if_false, zz, Nat.reduceEqDiff]
  exact weakW_keep hR

set_option maxHeartbeats 4000000 in
theorem c118 {g : Gram} (hg : OkGram g) (hck : checkG g = 0) (hsm : SmallR g) {σ0 : St} : ∀ t : PTree, sizeT t ≤ 1048576 → okT t → ∀ (notion : Str) (seen : List Bind) (acc : List Str) (σ : St) (R : Res → St → Prop), notion.length ≤ 10485770 → wordsOk notion = true → acc.length + sizeT t ≤ 2097152 → seen.length + 56 * sizeT t ≤ 2199023255552 →
    RKSt σ0 g seen acc σ → (∀ q ∈ seen, prodOK g q.1 q.2 = true) →
    (∀ seen' σ', RKSt σ0 g seen' (verT g t notion acc).2 σ' → (∀ q ∈ seen', prodOK g q.1 q.2 = true) → seen'.length ≤ seen.length + 56 * sizeT t → R (.ret (.int .i64 (verT g t notion acc).1)) σ') → W 118 [.ptr σ0.length 0 0 0, .str notion, pvT t] σ R := PTree.ind fun r nm b k ks ih hs hok notion seen acc σ R hn hw hacc hsl hK hseen hR => by
  refine callW_fold ?_
  rw [fn118_eq]
  unfold fn118
  obtain ⟨bk, bs⟩ := b
  simp only [sizeT] at hs hacc hsl hR
  simp only [okT] at hok
  obtain ⟨o1, o2, o3, o4⟩ := hok
  have hv : pvT (.node r nm (bk, bs) k ks) = .agg [.int .i64 r, .str nm, .list bk (bs.map pvBind), .list k (ks.map pvT)] := by simp [pvT, pvTs_map, pvSl]
  have hp0 : ∀ a b c d : PV, vPart false 1 (.agg [a, b, c, d]) 0 = some a := fun _ _ _ _ => rfl
  have hp1 : ∀ a b c d : PV, vPart false 1 (.agg [a, b, c, d]) 1 = some b := fun _ _ _ _ => rfl
  have hp2 : ∀ a b c d : PV, vPart false 1 (.agg [a, b, c, d]) 2 = some c := fun _ _ _ _ => rfl
  have hp3 : ∀ a b c d : PV, vPart false 1 (.agg [a, b, c, d]) 3 = some d := fun _ _ _ _ => rfl
  have hf0 : vField 0 (.ptr σ0.length 0 0 0) = some (.ptr σ0.length 0 0 0) := rfl
  have hf1 : vField 1 (.ptr σ0.length 0 0 0) = some (.ptr σ0.length 0 0 1) := rfl
  have hf3 : vField 3 (.ptr σ0.length 0 0 0) = some (.ptr σ0.length 0 0 3) := rfl
  have hln := len_size ks
  -- what is answered with the store as it was
  have keep : ∀ e : Int, verT g (.node r nm (bk, bs) k ks) notion acc = (e, acc) → R (.ret (.int .i64 e)) σ := fun e he => by
    have := hR seen σ (by rw [he]; exact hK) hseen (by omega)
    rwa [he] at this
  simp only [verT] at keep hR
  simp only [boxT, zz, Nat.reduceEqDiff]
  rw [hv]
  refine (c100 (by omega) σ).callB ?_
  simp only [hw, hp1, zz, Nat.reduceEqDiff]
  cases h1 : (nm == notion) with
  | false =>
    rw [h1] at keep
    have h1' : (nm != notion) = true := by simp only [bne, h1]; rfl
    simp only [h1', zz, Nat.reduceEqDiff]
    exact weakW_keep (keep 14 rfl)
  | true =>
  rw [h1] at hR keep
  have h1' : (nm != notion) = false := by simp only [bne, h1]; rfl
  simp only [Bool.true_eq_false, if_false] at hR keep
  simp only [h1', zz, Nat.reduceEqDiff]
  refine (c162 (by omega) hw σ).callB ?_
  by_cases hsy : (symB notion || r == -1) = true
  · -- a leaf, or what should be one
    rw [if_pos hsy] at hR keep
    have e1 : decide ((bs.length : Int) > 0) = decide (0 < bs.length) := by congr 1; exact propext (by omega)
    have e2 : decide ((ks.length : Int) > 0) = decide (0 < ks.length) := by congr 1; exact propext (by omega)
    have bad : (!symB notion || (r != -1 || (decide (0 < bs.length) || decide (0 < ks.length)))) = true → R (.ret (.int .i64 13)) σ := fun h => by
      rw [if_pos h] at keep
      exact keep 13 rfl
    cases hsn : symB notion with
    | false =>
      rw [hsn] at hsy
      have hr : (r == -1) = true := by simpa using hsy
      simp only [hp0, hr, zz, Nat.reduceEqDiff]
      refine (c162 (by omega) hw σ).callB ?_
      simp only [hsn, zz, Nat.reduceEqDiff]
      exact weakW_keep (bad (by rw [hsn]; rfl))
    | true =>
      simp only [zz, Nat.reduceEqDiff]
      refine (c162 (by omega) hw σ).callB ?_
      simp only [hsn, hp0, zz, Nat.reduceEqDiff]
      cases hr : (r != -1) with
      | true =>
        simp only [zz, Nat.reduceEqDiff]
        exact weakW_keep (bad (by rw [hr]; simp))
      | false =>
      simp only [hp2, List.length_map, e1, zz, Nat.reduceEqDiff]
      cases hb : decide (0 < bs.length) with
      | true =>
        simp only [zz, Nat.reduceEqDiff]
        exact weakW_keep (bad (by rw [hb]; simp))
      | false =>
      simp only [hp3, List.length_map, e2, zz, Nat.reduceEqDiff]
      cases hkk : decide (0 < ks.length) with
      | true =>
        simp only [zz, Nat.reduceEqDiff]
        exact weakW_keep (bad (by rw [hkk]; simp))
      | false =>
      have good : ¬ (!symB notion || (r != -1 || (decide (0 < bs.length) || decide (0 < ks.length)))) = true := by
        rw [hsn, hr, hb, hkk]; simp
      rw [if_neg good] at hR
      obtain ⟨tv, tv', σ', σ'', a1, a2, a3, a4⟩ := hK.appT notion (by omega)
      simp only [nilP, hf3, a1, vBuildSl_one (sizedStr notion), a2, a3, zz, Nat.reduceEqDiff]
      exact weakW_keep (hR seen _ a4 hseen (by omega))
  rw [if_neg hsy] at hR keep
  have hsn : symB notion = false := by
    cases h : symB notion with
    | false => rfl
    | true => rw [h] at hsy; simp at hsy
  have hr : (r == -1) = false := by
    cases h : (r == -1) with
    | false => rfl
    | true => rw [h] at hsy; simp at hsy
  have hrl := hg.rl
  simp only [hsn, hp0, hr, zz, Nat.reduceEqDiff]
  by_cases hneg : r < 0
  · rw [if_pos hneg] at keep
    have hd : decide (r < 0) = true := decide_eq_true hneg
    simp only [hd, zz, Nat.reduceEqDiff]
    exact weakW_keep (keep 11 rfl)
  rw [if_neg hneg] at hR keep
  have hd : decide (r < 0) = false := decide_eq_false hneg
  simp only [hd, nilP, hf0, hf1, hK.rules, List.length_map, ge_len r _ hneg, zz, Nat.reduceEqDiff]
  cases hge : decide (g.2.2.length ≤ r.toNat) with
  | true =>
    rw [decide_eq_true_eq] at hge
    have hno : g.2.2[r.toNat]? = none := List.getElem?_eq_none hge
    rw [hno] at keep
    simp only [zz, Nat.reduceEqDiff]
    exact weakW_keep (keep 11 rfl)
  | false =>
  rw [decide_eq_false_iff_not, Nat.not_le] at hge
  have hgr : g.2.2[r.toNat]? = some g.2.2[r.toNat] := by simp [hge]
  have hmr : g.2.2[r.toNat] ∈ g.2.2 := by simp
  generalize g.2.2[r.toNat] = rl at hgr hmr
  rw [hgr] at hR keep
  simp only at hR keep
  obtain ⟨s1, s2, s3⟩ := hsm rl hmr
  have hrl' := hg.rules rl hmr
  have hri : (.int .i64 r : PV) = .int .i64 (r.toNat : Nat) := by congr 1; omega
  have hix : vIndex 2 (.list g.2.1 (g.2.2.map pvRule)) (.int .i64 r) = some (.eptr (pvRule rl) 0) := by rw [hri]; exact encRule.index hgr
  have hput : vPut 2 (.agg [.list .nil [], .list .nil []]) 0 (pvRule rl) = some (pvRule rl) := rfl
  have hq : vPart true 2 (pvRule rl) 0 = some (pvRule rl) := rfl
  have hq0 : vPart false 1 (pvRule rl) 0 = some (.list rl.1.1 (rl.1.2.map pvPart)) := rfl
  have hq1 : vPart false 1 (pvRule rl) 1 = some (.list rl.2.1 (rl.2.2.map pvParts)) := rfl
  simp only [hp0, hp2, nilP, hf0, hf1, hK.rules, hix, encRule.part, hput, hq, zz, Nat.reduceEqDiff]
  refine (c163 hrl' s1 s2 s3 σ).callB ?_
  have hnl := namesP_len s1 s2 s3
  rw [namesP_eq] at hnl ⊢
  obtain ⟨nk, hnk⟩ := growV_list ((namesR rl).map PV.str)
  rw [hnk]
  simp only [hp2, List.length_map, zz, Nat.reduceEqDiff]
  by_cases hnb : (namesR rl).length ≠ bs.length
  · have hbe : bindErr g rl bs = 8 := by
      unfold bindErr
      rw [if_neg fun e => hnb (by rw [e]; simp)]
    rw [hbe] at keep
    have : (((namesR rl).length : Int) != (bs.length : Int)) = true := by rw [bne_iff_ne]; omega
    simp only [this, zz, Nat.reduceEqDiff]
    exact weakW_keep (keep 8 rfl)
  have hnb : (namesR rl).length = bs.length := Decidable.not_not.1 hnb
  have hnb' : (((namesR rl).length : Int) != (bs.length : Int)) = false := by rw [bne_eq_false_iff_eq]; omega
  simp only [hnb', zz, Nat.reduceEqDiff]
  refine CutW_of ?_
  have hgn : ∀ n ∈ namesR rl, base n = metaOf n ∧ (names g).contains (metaOf n) = true := fun n hn => namesR_good hck hmr hn
  generalize hns : namesR rl = ns at *
  refine Lfp_up ns.length (fun i x σ' => x = lookP [(0, .ptr σ0.length 0 0 0), (1, .str notion), (10, .list nk (ns.map .str)), (11, .int .i64 i), (5, .agg [.int .i64 r, .str nm, .list bk (bs.map pvBind), .list k (ks.map pvT)]), (9, pvRule rl)] ∧ σ' = σ ∧ ns.take i = (bs.take i).map (·.1)) ?_ ⟨rfl, rfl, rfl⟩
  rintro Φ i x σ' hi ⟨rfl, rfl, heq⟩ next
  simp only [List.length_map, zz, Nat.reduceEqDiff]
  by_cases hlt : i < ns.length
  · have hgi : ns[i]? = some ns[i] := by simp [hlt]
    have hgb : bs[i]? = some (bs[i]'(by omega)) := by simp [show i < bs.length by omega]
    generalize ns[i] = s at hgi
    generalize bs[i]'(by omega) = b at hgb
    have hix1 : vIndex 1 (.list nk (ns.map PV.str)) (.int .i64 i) = some (.eptr (.str s) 0) := vIndex_list _ (by rw [List.getElem?_map, hgi]; rfl) (show (PV.str s).cells? = some [.str s] from rfl) rfl
    have hf0b : vField 0 (.eptr (pvBind b) 0) = some (.eptr (pvBind b) 0) := rfl
    have hl0b : vLoad false 1 (.eptr (pvBind b) 0) σ' = some (.str b.1) := rfl
    have hl0s : vLoad false 1 (.eptr (.str s) 0) σ' = some (.str s) := rfl
    simp only [hlt, hix1, hl0s, hp2, encBind.index hgb, hf0b, hl0b, zz, Nat.reduceEqDiff]
    cases hsb : (s == b.1) with
    | false =>
      have hbe : bindErr g rl bs = 8 := by
        unfold bindErr
        rw [hns, if_neg fun e => ?_]
        have h1 : (bs.map (·.1))[i]? = some s := by rw [← e]; exact hgi
        rw [List.getElem?_map, hgb] at h1
        simp at h1
        rw [h1] at hsb
        simp at hsb
      rw [hbe] at keep
      simp only [zz, Nat.reduceEqDiff]
      exact weakW_keep (keep 8 rfl)
    | true =>
      simp only [zz, Nat.reduceEqDiff]
      rw [vBin_add _ (by omega) (by omega)]
      refine next _ _ hlt ⟨by simp, rfl, ?_⟩
      rw [List.take_add_one, List.take_add_one, hgi, hgb, List.map_append, heq]
      simpa using hsb
  obtain rfl : i = ns.length := by omega
  have hnsb : ns = bs.map (·.1) := by
    rw [List.take_length, hnb, List.take_length] at heq
    exact heq
  simp only [hlt, zz, Nat.reduceEqDiff]
  clear next hi heq hlt
  have hbe : bindErr g rl bs = if (bs.all fun b => prodOK g (metaOf b.1) b.2) = true then 0 else 7 := by
    unfold bindErr
    rw [hns, if_pos hnsb]
    rfl
  have hsz : 1 + sizeTs ks ≥ 1 := by omega
  refine CutW_of ?_
  refine Lfp_up ns.length (fun i x σ2 => ∃ seen2, x = lookP [(0, .ptr σ0.length 0 0 0), (1, .str notion), (10, .list nk (ns.map .str)), (12, .int .i64 i), (5, .agg [.int .i64 r, .str nm, .list bk (bs.map pvBind), .list k (ks.map pvT)]), (9, pvRule rl)] ∧ RKSt σ0 g seen2 acc σ2 ∧ (∀ q ∈ seen2, prodOK g q.1 q.2 = true) ∧ seen2.length ≤ seen.length + i ∧
    (bs.take i).all (fun b => prodOK g (metaOf b.1) b.2) = true) ?_ ⟨seen, rfl, hK, hseen, by omega, rfl⟩
  rintro Φ i x σ2 hi ⟨seen2, rfl, hK2, hseen2, hsl2, hall⟩ next
  simp only [List.length_map, zz, Nat.reduceEqDiff]
  by_cases hlt : i < ns.length
  · have hgb : bs[i]? = some (bs[i]'(by omega)) := by simp [show i < bs.length by omega]
    have hmb : bs[i]'(by omega) ∈ bs := by simp
    generalize bs[i]'(by omega) = b at hgb hmb
    have hgi : ns[i]? = some b.1 := by rw [hnsb, List.getElem?_map, hgb]; rfl
    obtain ⟨g1, g2⟩ := hgn b.1 (List.mem_of_getElem? hgi)
    obtain ⟨hb1, hb2⟩ := o3 b hmb
    have hix1 : vIndex 1 (.list nk (ns.map PV.str)) (.int .i64 i) = some (.eptr (.str b.1) 0) := vIndex_list _ (by rw [List.getElem?_map, hgi]; rfl) (show (PV.str b.1).cells? = some [.str b.1] from rfl) rfl
    have hf1b : vField 1 (.eptr (pvBind b) 0) = some (.eptr (pvBind b) 1) := rfl
    have hl1b : vLoad false 1 (.eptr (pvBind b) 1) σ2 = some (.str b.2) := rfl
    have hl0s : vLoad false 1 (.eptr (.str b.1) 0) σ2 = some (.str b.1) := rfl
    simp only [hlt, hix1, hl0s, hp2, encBind.index hgb, hf1b, hl1b, zz, Nat.reduceEqDiff]
    refine (c129 (by omega) σ2).callC ?_
    rw [g1]
    refine c164 hg hck g2 hb2 hK2 hseen2 (by omega) fun seen3 σ3 hK3 hseen3 hsl3 => ?_
    cases hpo : prodOK g (metaOf b.1) b.2 with
    | false =>
      have : (bs.all fun b => prodOK g (metaOf b.1) b.2) = false := List.all_eq_false.2 ⟨b, hmb, by simp [hpo]⟩
      rw [this] at hbe
      simp only [Bool.false_eq_true, if_false] at hbe
      rw [hbe] at hR
      simp only [show ((7 : Int) ≠ 0) from by decide, ne_eq, not_false_eq_true, if_true] at hR
      simp only [zz, Nat.reduceEqDiff]
      exact weakW_keep (hR seen3 _ hK3 hseen3 (by omega))
    | true =>
      simp only [zz, Nat.reduceEqDiff]
      rw [vBin_add _ (by omega) (by omega)]
      exact next _ _ hlt ⟨seen3, by simp, hK3, hseen3, by omega, all_take_succ hall hgb hpo⟩
  obtain rfl : i = ns.length := by omega
  rw [hnb, List.take_length] at hall
  rw [hall] at hbe
  simp only [if_true] at hbe
  rw [hbe] at hR
  simp only [ne_eq, not_true_eq_false, if_false] at hR
  have hsl3 : seen2.length ≤ seen.length + 56 := by omega
  simp only [hlt, hq0, hp2, zz, Nat.reduceEqDiff]
  clear next hi hlt hsl2
  have hbs2 : ∀ x ∈ bs, x.2.length ≤ 1048576 := fun x hx => (o3 x hx).2
  refine (c31 (by omega) o2 hrl'.left.txt hbs2 (.list _ _) (.list _ _)).callB ?_
  simp only [zz, Nat.reduceEqDiff]
  cases hme : ((means rl.1.2 bs).1 == notion) with
  | false =>
    rw [hme] at hR
    simp only [if_true] at hR
    have h' : ((means rl.1.2 bs).1 != notion) = true := by simp only [bne, hme]; rfl
    simp only [h', zz, Nat.reduceEqDiff]
    exact weakW_keep (hR seen2 _ hK2 hseen2 (by omega))
  | true =>
  rw [hme] at hR
  have h' : ((means rl.1.2 bs).1 != notion) = false := by simp only [bne, hme]; rfl
  simp only [Bool.true_eq_false, if_false] at hR
  simp only [h', hp3, hq1, List.length_map, zz, Nat.reduceEqDiff]
  by_cases hkl : ks.length ≠ rl.2.2.length
  · rw [if_pos hkl] at hR
    have : ((ks.length : Int) != (rl.2.2.length : Int)) = true := by rw [bne_iff_ne]; omega
    simp only [this, zz, Nat.reduceEqDiff]
    exact weakW_keep (hR seen2 _ hK2 hseen2 (by omega))
  rw [if_neg hkl] at hR
  have hkl : ks.length = rl.2.2.length := Decidable.not_not.1 hkl
  have : ((ks.length : Int) != (rl.2.2.length : Int)) = false := by rw [bne_eq_false_iff_eq]; omega
  simp only [this, zz, Nat.reduceEqDiff]
  refine CutW_of ?_
  refine Lfp_up rl.2.2.length (fun i x σ' => ∃ ac seen4, x = lookP [(0, .ptr σ0.length 0 0 0), (15, .int .i64 i), (5, .agg [.int .i64 r, .str nm, .list bk (bs.map pvBind), .list k (ks.map pvT)]), (9, pvRule rl)] ∧ RKSt σ0 g seen4 ac σ' ∧ (∀ q ∈ seen4, prodOK g q.1 q.2 = true) ∧ seen4.length + 56 * sizeTs (ks.drop i) ≤ seen.length + 56 * (1 + sizeTs ks) ∧
    ac.length + sizeTs (ks.drop i) ≤ 2097152 ∧ verTs g ks (rl.2.2.map fun l => (means l.2 bs).1) acc = verTs g (ks.drop i) ((rl.2.2.drop i).map fun l => (means l.2 bs).1) ac) ?_ ⟨acc, seen2, rfl, hK2, hseen2, by simp; omega, by simp; omega, by simp⟩
  rintro Φ i x σ' hi ⟨ac, seen4, rfl, hK', hseen4, hsl4, hacl, hve⟩ next
  simp only [hp3, List.length_map, hkl, zz, Nat.reduceEqDiff]
  by_cases hlt : i < rl.2.2.length
  · have hgi : rl.2.2[i]? = some rl.2.2[i] := by simp [hlt]
    have hmi : rl.2.2[i] ∈ rl.2.2 := by simp
    have hdr : rl.2.2.drop i = rl.2.2[i] :: rl.2.2.drop (i + 1) := List.drop_eq_getElem_cons hlt
    generalize rl.2.2[i] = l at hgi hmi hdr
    have hlk : i < ks.length := by omega
    have hgk : ks[i]? = some ks[i] := by simp [hlk]
    have hmk : ks[i] ∈ ks := by simp
    have hdk : ks.drop i = ks[i] :: ks.drop (i + 1) := List.drop_eq_getElem_cons hlk
    generalize ks[i] = t at hgk hmk hdk
    have hsd := sizeTs_drop hgk
    have hst := sizeT_mem hmk
    have hl8 := s3 l hmi
    have hlp := hrl'.right.mem l hmi
    have hmf := means_facts (l := l.2) (binds := bs) (by omega) hlp.txt hbs2
    have hpl : pvParts l = .list l.1 (l.2.map pvPart) := rfl
    rw [hdr, hdk, List.map_cons, verTs] at hve
    try simp only at hve
    simp only [hlt, hq1, encParts.index hgi, encParts.part, hpl, hp2, zz, Nat.reduceEqDiff]
    refine (c31 (by omega) o2 hlp.txt hbs2 (.list _ _) (.list _ _)).callB ?_
    simp only [hp3, encT.index hgk, encT.part, zz, Nat.reduceEqDiff]
    have hvl := verT_len (g := g) t (means l.2 bs).1 ac
    refine ih t hmk (by omega) (okTs_mem o4 t hmk) (means l.2 bs).1 seen4 ac σ' _ hmf.2 hmf.1 (by omega) (by omega) hK' hseen4 fun seen5 σ5 hK5 hseen5 hsl5 => ?_
    simp only [zz, Nat.reduceEqDiff]
    by_cases he : (verT g t (means l.2 bs).1 ac).1 ≠ 0
    · rw [if_pos he] at hve
      rw [hve] at hR
      have : ((verT g t (means l.2 bs).1 ac).1 != 0) = true := by simpa using he
      simp only [this, zz, Nat.reduceEqDiff]
      exact weakW_keep (hR seen5 _ hK5 hseen5 (by omega))
    · rw [if_neg he] at hve
      have : ((verT g t (means l.2 bs).1 ac).1 != 0) = false := by simpa using he
      simp only [this, zz, Nat.reduceEqDiff]
      rw [vBin_add _ (by omega) (by omega)]
      exact next _ _ hlt ⟨_, seen5, by simp, hK5, hseen5, by omega, by omega, hve⟩
  · obtain rfl : i = rl.2.2.length := by omega
    rw [← hkl, List.drop_length] at hve
    simp only [verTs] at hve
    rw [hve] at hR
    simp only [hlt, zz, Nat.reduceEqDiff]
    exact weakW_keep (hR seen4 _ hK' hseen4 (by omega))

set_option maxHeartbeats 1000000 in
theorem c42 {g : Gram} (hg : OkGram g) (hsm : SmallR g) {t : PTree} (hs : sizeT t ≤ 1048576) (hok : okT t) {notion : Str} (hn : notion.length ≤ 10485770) (σ : St) :
    Ret W 42 [pvGram g, .str notion, pvT t] σ (.tuple [growV ((verG g notion t).1.map .str), .int .i64 (verG g notion t).2]) := by
  refine ret_of fun R hR => ?_
  rw [fn42_eq]
  unfold fn42
  have hbox : opC.vBoxAny (pvGram g) = some (2, pvGram g) := rfl
  have hpt : vPart true 2 (pvGram g) 0 = some (pvGram g) := rfl
  have hptT : vPart true 4 (pvT t) 0 = some (pvT t) := encT.part t
  have fin : ∀ (l : List Str) (e : Int) (v : PV) (σ' : St), σ <+: σ' → Grow σ.length 1 σ' v (l.map .str) → verG g notion t = (l, e) → weakW σ (.tuple [v, .int .i64 e]) σ' fun v σ => R (.ret v) σ := fun l e v σ' hp hG he =>
    weakW_clean hp (frz_txt hG) (by rw [he] at hR; exact hR)
  have fin0 : ∀ (e : Int) (σ' : St), σ <+: σ' → verG g notion t = ([], e) → weakW σ (.tuple [.list .nil [], .int .i64 e]) σ' fun v σ => R (.ret v) σ := fun e σ' hp he => fin [] e _ σ' hp (.nil _ _ _) he
  simp only [hbox, boxT, hpt, zz, Nat.reduceEqDiff]
  refine (c16 hg σ).callB ?_
  simp only [zz, Nat.reduceEqDiff]
  by_cases hck : checkG g ≠ 0
  · have : (checkG g != 0) = true := by simpa using hck
    simp only [this, zz, Nat.reduceEqDiff]
    exact fin0 _ _ List.prefix_rfl (by unfold verG; rw [if_pos hck])
  have hck' : (checkG g != 0) = false := by simpa using hck
  have hck0 : checkG g = 0 := Decidable.not_not.1 hck
  simp only [hck', hptT, zz, Nat.reduceEqDiff]
  refine (c46 t hs σ).callB ?_
  have e1 : decide ((sizeT t : Int) > 100000) = decide (100000 < sizeT t) := by congr 1; exact propext (by omega)
  simp only [e1, zz, Nat.reduceEqDiff]
  by_cases hsz : 100000 < sizeT t
  · have : decide (100000 < sizeT t) = true := decide_eq_true hsz
    simp only [this, zz, Nat.reduceEqDiff]
    exact fin0 _ _ List.prefix_rfl (by unfold verG; rw [if_neg hck, if_pos hsz])
  have hsz' : decide (100000 < sizeT t) = false := decide_eq_false hsz
  have hvb : vBuild [.list .nil [], .list .nil [], .list .nil [], .list .nil []] [(0, 2, pvGram g)] = some [pvSl pvMeta g.1, pvSl pvRule g.2, .list .nil [], .list .nil []] := rfl
  have hbx4 : ∀ a b c d : PV, opC.vBoxAny (.agg [a, b, c, d]) = some (4, .agg [a, b, c, d]) := fun _ _ _ _ => rfl
  have h04 : (0 : Nat) < 4 := by decide
  have hf3 : ∀ b, vField 3 (.ptr b 0 0 0) = some (.ptr b 0 0 3) := fun _ => rfl
  have hK0 : RKSt σ g [] [] (σ ++ [.arr 0 4 [.agg [pvSl pvMeta g.1, pvSl pvRule g.2, .list .nil [], .list .nil []]]]) := ⟨.list .nil [], .list .nil [], by simp, .nil _ _ _, .nil _ _ _, (fun c hc => by obtain ⟨_, _, _, _, h⟩ := hc; cases h), ⟨_, rfl⟩⟩
  simp only [hsz', hpt, hvb, hbx4, h04, newW_eq, hptT, zz, Nat.reduceEqDiff]
  cases hw : wordsOk notion with
  | false =>
    refine (c118_bad hn hw t _).callB ?_
    simp only [show ((14 : Int) != 0) = true from rfl, zz, Nat.reduceEqDiff]
    exact fin0 _ _ ⟨_, rfl⟩ (by unfold verG; rw [if_neg hck, if_neg hsz, if_pos hw])
  | true =>
  refine c118 hg hck0 hsm t hs hok notion [] [] _ _ hn hw (by simp; omega) (by simp; omega) hK0 (by simp) fun seen' σ' hK' _ _ => ?_
  obtain ⟨sv, tv, hKer, _, hG, _, hp⟩ := hK'
  have hld : vLoad false 1 (.ptr σ.length 0 0 3) σ' = some tv := by
    simp only [vLoad, hKer]
    rfl
  simp only [zz, Nat.reduceEqDiff]
  by_cases he : (verT g t notion []).1 ≠ 0
  · have : ((verT g t notion []).1 != 0) = true := by simpa using he
    simp only [this, zz, Nat.reduceEqDiff]
    exact fin0 _ _ hp (by unfold verG; rw [if_neg hck, if_neg hsz, hw, if_neg (by simp), if_pos he])
  · have : ((verT g t notion []).1 != 0) = false := by simpa using he
    simp only [this, nilP, hf3, hld, zz, Nat.reduceEqDiff]
    exact fin _ _ _ _ hp (grow_less hG (by omega)) (by unfold verG; rw [if_neg hck, if_neg hsz, hw, if_neg (by simp), if_neg he])


/-! The law HyperVerifies: both verify alike. -/

theorem okT_ref : ∀ t, okT t → okT (refT t) := PTree.ind fun r n b k ks ih h => by
  simp only [okT, refT, reK_snd] at h ⊢
  obtain ⟨h1, h2, h3, h4⟩ := h
  refine ⟨h1, h2, h3, ?_⟩
  rw [refTs_map]
  have : ∀ ts : List PTree, (∀ t ∈ ts, t ∈ ks) → okTs (ts.map refT) := by
    intro ts
    induction ts with
    | nil => intro _; trivial
    | cons a ts iht =>
      intro hm
      exact ⟨ih a (hm a (by simp)) (okTs_mem h4 a (hm a (by simp))), iht fun t ht => hm t (by simp [ht])⟩
  exact this ks fun t ht => ht

theorem namesR_ref (r : Rule19) : namesR (refRule r) = namesR r := by
  have : params (refRule r) = params r := by
    simp only [params, ruleAll, refRule, refLists, refParts, reK_snd, List.map_cons, List.map_map]
    rfl
  unfold namesR
  rw [this]

theorem bindErr_ref (g : Gram) (r : Rule19) (bs : List Bind) : bindErr (refGram g) (refRule r) bs = bindErr g r bs := by
  unfold bindErr
  rw [namesR_ref]
  simp only [prodG_ref]

theorem verTs_ref {g : Gram} : ∀ (ks : List PTree) (ss acc : List Str), (∀ t ∈ ks, ∀ s acc, verT (refGram g) (refT t) s acc = verT g t s acc) → verTs (refGram g) (ks.map refT) ss acc = verTs g ks ss acc
  | [], ss, acc, _ => by simp [verTs]
  | t :: ts, [], acc, _ => by simp [verTs]
  | t :: ts, s :: ss, acc, h => by
    simp only [List.map_cons, verTs]
    rw [h t (by simp) s acc, verTs_ref ts ss _ fun t ht => h t (by simp [ht])]

theorem verT_ref {g : Gram} : ∀ (t : PTree) (s : Str) (acc : List Str), verT (refGram g) (refT t) s acc = verT g t s acc := PTree.ind fun r nm b k ks ih s acc => by
  have hg : (refGram g).2.2 = g.2.2.map refRule := rfl
  simp only [refT, verT, reK_snd, refTs_map, List.length_map, hg, List.getElem?_map]
  cases g.2.2[r.toNat]? with
  | none => rfl
  | some rl =>
    have h1 : (refRule rl).1.2 = rl.1.2 := rfl
    have h2 : (refRule rl).2.2 = rl.2.2.map refParts := rfl
    have h3 : ((rl.2.2.map refParts).map fun l => (means l.2 b.2).1) = rl.2.2.map fun l => (means l.2 b.2).1 := by
      rw [List.map_map]
      rfl
    simp only [Option.map_some, bindErr_ref, h1, h2, h3, List.length_map, verTs_ref ks _ _ ih]
    first | rfl | congr

theorem verG_ref (g : Gram) (n : Str) (t : PTree) : verG (refGram g) n (refT t) = verG g n t := by
  unfold verG
  rw [checkG_ref, sizeT_ref, verT_ref]

theorem smallR_ref {g : Gram} (h : SmallR g) : SmallR (refGram g) := by
  intro r hr
  have hg : (refGram g).2.2 = g.2.2.map refRule := rfl
  rw [hg, List.mem_map] at hr
  obtain ⟨r0, h0, rfl⟩ := hr
  obtain ⟨h1, h2, h3⟩ := h r0 h0
  refine ⟨h1, by simpa [refRule, refLists, reK_snd] using h2, fun l hl => ?_⟩
  have : (refRule r0).2.2 = r0.2.2.map refParts := rfl
  rw [this, List.mem_map] at hl
  obtain ⟨l0, hl0, rfl⟩ := hl
  exact h3 l0 hl0

theorem verG_len {g : Gram} {n : Str} {t : PTree} : (verG g n t).1.length ≤ sizeT t := by
  have := verT_len (g := g) t n []
  unfold verG
  split
  · simp
  · split
    · simp
    · split
      · simp
      · split
        · simp
        · simpa using this

def pvGiven (x : Str × PTree) : PV := match x.2 with
  | .node r n b k ks => .agg [.str x.1, .int .i64 r, .str n, pvSl pvBind b, .list k (pvTs ks)]

set_option maxHeartbeats 1000000 in
theorem c11 (hawake : ∀ σ : St, σ = [] → Ret W 13 [] σ (.bool true)) {g : Gram} (hg : OkGram g) {n : Str} (hn : n.length ≤ 1048576) {t : PTree} (hs : sizeT t ≤ 1048576) (hok : okT t) : Ret W 11 [pvGram g, pvGiven (n, t)] [] (.bool true) := by
  refine ret_of fun R hR => ?_
  rw [fn11_eq]
  unfold fn11
  have hbox : opC.vBoxAny (pvGram g) = some (2, pvGram g) := rfl
  have hboxG : opC.vBoxAny (pvGiven (n, t)) = some (5, pvGiven (n, t)) := by cases t; rfl
  have hpt : vPart true 2 (pvGram g) 0 = some (pvGram g) := rfl
  have hpT : vPart true 4 (pvGiven (n, t)) 1 = some (pvT t) := by cases t; rfl
  have hpN : vPart false 1 (pvGiven (n, t)) 0 = some (.str n) := by cases t; rfl
  have fin : ∀ σ' : St, weakW [] (.bool true) σ' fun v σ => R (.ret v) σ := fun σ' => weakW_clean List.nil_prefix (.base _ (.bool _)) hR
  simp only [hbox, hboxG, zz, Nat.reduceEqDiff]
  refine (hawake [] rfl).callB ?_
  simp only [hpt, zz, Nat.reduceEqDiff]
  refine (c14 hg []).callB ?_
  cases hsm : smallG g with
  | false =>
    simp only [zz, Nat.reduceEqDiff]
    exact fin _
  | true =>
  simp only [hpT, zz, Nat.reduceEqDiff]
  refine (c40 hs hok []).callB ?_
  cases hfew : ((cntT t 40 0).1 && decide ((cntT t 40 0).2 ≤ 60)) with
  | false =>
    simp only [zz, Nat.reduceEqDiff]
    exact fin _
  | true =>
  simp only [hpN, zz, Nat.reduceEqDiff]
  cases h100 : decide ((n.length : Int) > 100) with
  | true =>
    simp only [zz, Nat.reduceEqDiff]
    exact fin _
  | false =>
  have hsr := smallR_of hsm
  simp only [hpt, hpN, hpT, zz, Nat.reduceEqDiff]
  refine (c41 hg hsr hs hok (by omega) []).callB ?_
  simp only [hpt, hpN, hpT, zz, Nat.reduceEqDiff]
  refine (c17 hg []).callB ?_
  refine (c43 t hs hok []).callB ?_
  refine (c42 (okGram_ref hg) (smallR_ref hsr) (by rw [sizeT_ref]; exact hs) (okT_ref t hok) (by omega) []).callB ?_
  rw [verG_ref]
  have hvl := verG_len (g := g) (n := n) (t := t)
  obtain ⟨k, hk⟩ := growV_list ((verG g n t).1.map PV.str)
  rw [hk]
  simp only [zz, Nat.reduceEqDiff]
  refine (c44 (l := (verG g n t).1) (by omega) (.list _ _) (.list _ _)).callB ?_
  have hee : ((verG g n t).2 == (verG g n t).2) = true := by simp
  simp only [hee, hpT, zz, Nat.reduceEqDiff]
  refine (c45 t hs []).callB ?_
  refine (c43 t hs hok []).callB ?_
  refine (c46 (refT t) (by rw [sizeT_ref]; exact hs) []).callB ?_
  have hss : (((sizeT t : Nat) : Int) == ((sizeT (refT t) : Nat) : Int)) = true := by rw [sizeT_ref]; simp
  simp only [hss, zz, Nat.reduceEqDiff]
  exact fin _

end Go.Proofs.YtiniifbmeobmgaaGreatDoor
