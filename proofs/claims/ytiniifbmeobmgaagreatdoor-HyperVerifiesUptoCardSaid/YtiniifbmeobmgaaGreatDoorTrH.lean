/- The parameters of a rule, by the reference; both are the same. -/
import Derived.Test.YtiniifbmeobmgaaGreatDoorTrC
import Derived.Test.YtiniifbmeobmgaaGreatDoorSpecR
set_option linter.unusedVariables false
set_option linter.unusedSimpArgs false
namespace Go.Proofs.YtiniifbmeobmgaaGreatDoor
open Go Go.Abs

/-! ### Sorted lists of texts -/

theorem ltB_lt : ∀ (a b : Str), ltB a b = true ↔ a < b
  | [], [] => by simp [ltB, Op.bytesLess]
  | [], b :: l => by simp [ltB, Op.bytesLess]
  | a :: l, [] => by simp [ltB, Op.bytesLess]
  | a :: al, b :: bl => by
    have ih := ltB_lt al bl
    rw [ltB_cons, List.cons_lt_cons_iff]
    by_cases h1 : a < b
    · simp [h1]
    · by_cases h2 : b < a
      · have hne : a ≠ b := fun h => by subst h; exact h1 h2
        simp [h1, h2, hne]
      · have h3 : a = b := UInt8.le_antisymm (UInt8.not_lt.1 h2) (UInt8.not_lt.1 h1)
        subst h3
        simp [h1, ih]

theorem le_ltB (a b : Str) : decide (a ≤ b) = !ltB b a := by
  rw [Bool.eq_iff_iff]
  simp only [decide_eq_true_eq, Bool.not_eq_true', ← Bool.not_eq_true]
  rw [ltB_lt, List.not_lt]

def SortL (l : List Str) : Prop := l.Pairwise fun x y => ltB x y = true
def SortW (l : List Str) : Prop := l.Pairwise fun x y => ltB y x = false

theorem sortL_eq {l m : List Str} (hl : SortL l) (hm : SortL m) (h : ∀ x, x ∈ l ↔ x ∈ m) : l = m := by
  have key : (l.map fun s => ((s, []) : Bind)) = m.map fun s => ((s, []) : Bind) := by
    refine sort_eq ?_ ?_ fun x => ?_
    · exact List.pairwise_map.2 hl
    · exact List.pairwise_map.2 hm
    · simp only [List.mem_map]
      constructor
      · rintro ⟨s, hs, rfl⟩; exact ⟨s, (h s).1 hs, rfl⟩
      · rintro ⟨s, hs, rfl⟩; exact ⟨s, (h s).2 hs, rfl⟩
  have := congrArg (List.map fun b : Bind => b.1) key
  simpa [List.map_map, Function.comp_def] using this

theorem sortS_sorted (ss : List Str) : SortW (sortS ss) := by
  unfold sortS SortW
  have h := List.pairwise_mergeSort (le := fun (x y : Str) => decide (x ≤ y)) (fun a b c h1 h2 => by
    rw [le_ltB, Bool.not_eq_true'] at h1 h2 ⊢
    cases hca : ltB c a with
    | false => rfl
    | true =>
      cases hbc : ltB b c with
      | true => have := ltB_trans hbc hca; rw [h1] at this; cases this
      | false =>
        have := ltB_tri hbc h2
        subst this
        rw [h1] at hca
        cases hca) (fun a b => by
    rw [le_ltB, le_ltB]
    cases hba : ltB b a with
    | false => rfl
    | true =>
      cases hab : ltB a b with
      | false => rfl
      | true => have := ltB_trans hab hba; rw [ltB_irr] at this; cases this) ss
  refine h.imp fun {a b} h => ?_
  rw [le_ltB] at h
  simpa using h

theorem sortS_mem (ss : List Str) (x : Str) : x ∈ sortS ss ↔ x ∈ ss := (List.mergeSort_perm ss _).mem_iff

theorem compact_sorted {l : List Str} (h : SortW l) : SortL (Go.Lib.compact l) := by
  have key : ∀ (i j : Nat), i < j → j < l.length → ltB l[j]! l[i]! = false := fun i j hij hj => by
    have hi : i < l.length := by omega
    have := List.pairwise_iff_getElem.1 h i j hi hj hij
    simpa [hi, hj] using this
  show SortL (((List.range l.length).filter (Go.Lib.keeps l.toArray)).map (l.toArray[·]!))
  refine List.pairwise_map.2 ?_
  refine List.Pairwise.imp_of_mem ?_ (List.Pairwise.filter _ List.pairwise_lt_range)
  intro i j hi hj hij
  rw [List.mem_filter, List.mem_range] at hi hj
  have hk := hj.2
  simp only [Go.Lib.keeps, decide_eq_true_eq] at hk
  rcases hk with hk | hk
  · omega
  have h1 : ltB l[j]! l[j - 1]! = false := key (j - 1) j (by omega) hj.1
  have h2 : ltB l[j - 1]! l[j]! = true := by
    cases hh : ltB l[j - 1]! l[j]! with
    | true => rfl
    | false => exact absurd (ltB_tri h1 hh) (by simpa using hk)
  have goal : ltB l[i]! l[j]! = true := by
    by_cases he : i = j - 1
    · rw [he]; exact h2
    · have h3 := key i (j - 1) (by omega) (by omega)
      cases hh : ltB l[i]! l[j - 1]! with
      | true => exact ltB_trans hh h2
      | false =>
        rw [ltB_tri hh h3]
        exact h2
  simpa using goal

theorem compact_mem (l : List Str) (x : Str) : x ∈ Go.Lib.compact l ↔ x ∈ l := by
  show x ∈ (((List.range l.length).filter (Go.Lib.keeps l.toArray)).map (l.toArray[·]!)) ↔ _
  simp only [List.mem_map, List.mem_filter, List.mem_range]
  constructor
  · rintro ⟨i, ⟨hi, _⟩, rfl⟩
    have : l.toArray[i]! = l[i] := by simp [hi]
    rw [this]
    exact List.getElem_mem hi
  · intro hx
    have hex : ∃ i, i < l.length ∧ l[i]! = x := by
      obtain ⟨i, hi, he⟩ := List.getElem_of_mem hx
      exact ⟨i, hi, by simpa [hi] using he⟩
    have hmin : ∀ n, (∃ i, i < n ∧ i < l.length ∧ l[i]! = x) → ∃ i, i < l.length ∧ l[i]! = x ∧ ∀ k < i, l[k]! ≠ x := by
      intro n
      induction n with
      | zero => rintro ⟨i, hi, _⟩; omega
      | succ n ih =>
        rintro ⟨i, hi, hil, hix⟩
        by_cases hsm : ∃ k, k < i ∧ l[k]! = x
        · obtain ⟨k, hk, hkx⟩ := hsm
          exact ih ⟨k, by omega, by omega, hkx⟩
        · exact ⟨i, hil, hix, fun k hk he => hsm ⟨k, hk, he⟩⟩
    obtain ⟨i, hi, he⟩ := hex
    obtain ⟨i, hi, he, hno⟩ := hmin (i + 1) ⟨i, by omega, hi, he⟩
    refine ⟨i, ⟨hi, ?_⟩, by simpa using he⟩
    simp only [Go.Lib.keeps, decide_eq_true_eq]
    by_cases h0 : i = 0
    · exact .inl h0
    · right
      have := hno (i - 1) (by omega)
      have e1 : l.toArray[i]! = x := by simpa using he
      have e2 : l.toArray[i - 1]! = l[i - 1]! := by simp
      rw [e1, e2]
      exact Ne.symm this

/-! ### Parameters, inserted -/

def stepP (B : Binds) (p : Part) : Binds := if (p.1 && (valueOf B p.2).isNone) = true then ins (p.2, []) B else B
def namesP (r : Rule19) : List Str := (((ruleAll r).flatMap fun l => l.2).foldl stepP []).map (·.1)

theorem stepP_sort {B : Binds} (h : SortB B) (p : Part) : SortB (stepP B p) := by
  unfold stepP
  split
  · rename_i hp
    simp only [Bool.and_eq_true, Option.isNone_iff_eq_none] at hp
    exact sort_ins h fun x hx => valueOf_none.1 hp.2 x hx
  · exact h

theorem stepP_mem (B : Binds) (p : Part) (n : Str) : n ∈ (stepP B p).map (·.1) ↔ n ∈ B.map (·.1) ∨ (p.1 = true ∧ n = p.2) := by
  unfold stepP
  split
  · rename_i hp
    simp only [Bool.and_eq_true] at hp
    simp only [List.mem_map, mem_ins]
    constructor
    · rintro ⟨b, rfl | hb, rfl⟩
      · exact .inr ⟨hp.1, rfl⟩
      · exact .inl ⟨b, hb, rfl⟩
    · rintro (⟨b, hb, rfl⟩ | ⟨_, rfl⟩)
      · exact ⟨b, .inr hb, rfl⟩
      · exact ⟨_, .inl rfl, rfl⟩
  · rename_i hp
    constructor
    · exact .inl
    · rintro (h | ⟨h1, rfl⟩)
      · exact h
      · rw [h1, Bool.true_and, Option.isNone_iff_eq_none, valueOf_none] at hp
        have : ∃ b ∈ B, b.1 = p.2 := by
          by_cases h : ∃ b ∈ B, b.1 = p.2
          · exact h
          · exact absurd (fun b hb he => h ⟨b, hb, he⟩) hp
        obtain ⟨b, hb, he⟩ := this
        exact List.mem_map.2 ⟨b, hb, he⟩

theorem foldP_facts : ∀ (l : List Part) (B : Binds), SortB B → SortB (l.foldl stepP B) ∧ ∀ n, n ∈ (l.foldl stepP B).map (·.1) ↔ n ∈ B.map (·.1) ∨ n ∈ texts l
  | [], B, h => ⟨h, fun n => by simp [texts]⟩
  | p :: l, B, h => by
    obtain ⟨h1, h2⟩ := foldP_facts l (stepP B p) (stepP_sort h p)
    refine ⟨h1, fun n => ?_⟩
    show n ∈ (l.foldl stepP (stepP B p)).map (·.1) ↔ _
    rw [h2, stepP_mem]
    have : texts (p :: l) = (if p.1 then [p.2] else []) ++ texts l := by
      unfold texts
      cases hp : p.1 <;> simp [hp]
    rw [this, List.mem_append]
    cases hp : p.1
    · simp
    · simp [or_assoc]

theorem namesP_eq (r : Rule19) : namesP r = namesR r := by
  obtain ⟨h1, h2⟩ := foldP_facts ((ruleAll r).flatMap fun l => l.2) [] (by simp [SortB])
  refine sortL_eq (List.pairwise_map.2 h1) (compact_sorted (sortS_sorted _)) fun n => ?_
  rw [namesR, compact_mem, sortS_mem, namesP, h2]
  simp only [List.map_nil, List.not_mem_nil, false_or, params, texts, List.mem_map, List.mem_filter, List.mem_flatMap, List.mem_flatten]
  constructor
  · rintro ⟨p, ⟨⟨l, hl, hp⟩, hp1⟩, rfl⟩
    exact ⟨_, ⟨l, hl, rfl⟩, List.mem_map.2 ⟨p, List.mem_filter.2 ⟨hp, hp1⟩, rfl⟩⟩
  · rintro ⟨_, ⟨l, hl, rfl⟩, hn⟩
    obtain ⟨p, hp, rfl⟩ := List.mem_map.1 hn
    obtain ⟨hp, hp1⟩ := List.mem_filter.1 hp
    exact ⟨p, ⟨⟨l, hl, hp⟩, hp1⟩, rfl⟩

theorem stepP_len (B : Binds) (p : Part) : (stepP B p).length ≤ B.length + 1 := by
  unfold stepP
  split
  · rw [ins_len]; omega
  · omega

theorem foldP_len : ∀ (l : List Part) (B : Binds), (l.foldl stepP B).length ≤ B.length + l.length
  | [], B => by simp
  | p :: l, B => by
    have h1 := foldP_len l (stepP B p)
    have h2 := stepP_len B p
    simp only [List.foldl_cons, List.length_cons]
    omega

theorem flat8 : ∀ (ls : List (Sl Part)), (∀ l ∈ ls, l.2.length ≤ 8) → (ls.flatMap fun l => l.2).length ≤ ls.length * 8
  | [], _ => by simp
  | l :: ls, h => by
    have h1 := flat8 ls fun l hl => h l (by simp [hl])
    have h2 := h l (by simp)
    simp only [List.flatMap_cons, List.length_append, List.length_cons]
    omega

set_option maxHeartbeats 1000000 in
theorem c163 {r : Rule19} (hr : OkRule r) (h8 : r.1.2.length ≤ 8) (h6 : r.2.2.length ≤ 6) (hl8 : ∀ l ∈ r.2.2, l.2.length ≤ 8) (σ : St) : Ret W 163 [pvRule r] σ (growV ((namesP r).map .str)) := by
  refine ret_of fun R hR => ?_
  rw [fn163_eq]
  unfold fn163
  have hbox : opC.vBoxAny (pvRule r) = some (2, pvRule r) := rfl
  have hq0 : vPart false 1 (pvRule r) 0 = some (pvParts r.1) := rfl
  have hq1 : vPart false 1 (pvRule r) 1 = some (pvLists r.2) := rfl
  have hb1 : vBuildSl 1 (List.replicate 1 (.list .nil [])) [(0, pvParts r.1)] = some [pvParts r.1] := rfl
  obtain ⟨v, σ2, ea, hE, hp2⟩ := app_all (σ := σ) hr
  have hall : ∀ l ∈ ruleAll r, l.2.length ≤ 8 := fun l hl => by
    rcases List.mem_cons.1 hl with rfl | hl
    · exact h8
    · exact hl8 l hl
  have hal : (ruleAll r).length ≤ 7 := by simp [ruleAll]; omega
  have hfl : ∀ i, (((ruleAll r).take i).flatMap fun l => l.2).length ≤ 56 := fun i => by
    have h1 := flat8 ((ruleAll r).take i) fun l hl => hall l (List.mem_of_mem_take hl)
    have h2 : ((ruleAll r).take i).length ≤ 7 := Nat.le_trans (List.length_take_le' _ _) hal
    omega
  simp only [hbox, hq0, hq1, hb1, ea, zz, Nat.reduceEqDiff]
  refine CutW_of ?_
  refine Lfp_up (ruleAll r).length (fun i x σ' => ∃ bk, x = lookP [(3, .list bk (((((ruleAll r).take i).flatMap fun l => l.2).foldl stepP []).map pvBind)), (4, v), (5, .int .i64 i)] ∧ σ' = σ2) ?_ ⟨.nil, rfl, rfl⟩
  rintro Φ i x σ' hi ⟨bk, rfl, rfl⟩ next
  have hlenv := hE.len σ'
  rw [List.length_map] at hlenv
  simp only [hlenv, zz, Nat.reduceEqDiff]
  by_cases hlt : i < (ruleAll r).length
  · have hgi : (ruleAll r)[i]? = some (ruleAll r)[i] := by simp [hlt]
    have hmi : (ruleAll r)[i] ∈ ruleAll r := by simp
    generalize (ruleAll r)[i] = l at hgi hmi
    have hll := hall l hmi
    have hnx : ((ruleAll r).take (i + 1)).flatMap (fun l => l.2) = ((ruleAll r).take i).flatMap (fun l => l.2) ++ l.2 := by
      rw [List.take_add_one, hgi]
      simp
    have hfi := hfl i
    obtain ⟨q, q1, q2, _⟩ := hE.at_ (i := i) (k := .i64) (by rw [List.getElem?_map, hgi]; rfl) (show (pvParts l).cells? = some [pvParts l] from rfl) rfl
    have hpl : vPart false 1 (pvParts l) 0 = some (.list l.1 (l.2.map pvPart)) := rfl
    simp only [hlt, zz, Nat.reduceEqDiff]
    refine CutW_of ?_
    generalize hB0 : ((((ruleAll r).take i).flatMap fun l => l.2).foldl stepP []) = B0 at *
    have hB0l : B0.length ≤ 56 := by
      have := foldP_len (((ruleAll r).take i).flatMap fun l => l.2) []
      rw [hB0] at this
      simp only [List.length_nil] at this
      omega
    refine Lfp_up l.2.length (fun k x σ'' => ∃ bk, x = lookP [(3, .list bk (((l.2.take k).foldl stepP B0).map pvBind)), (4, v), (5, .int .i64 i), (6, .int .i64 k)] ∧ σ'' = σ') ?_ ⟨bk, by simp, rfl⟩
    rintro Φ2 k x σ'' hk ⟨bk2, rfl, rfl⟩ next2
    simp only [q1, q2, hpl, List.length_map, zz, Nat.reduceEqDiff]
    by_cases hkl : k < l.2.length
    · have hgk : l.2[k]? = some l.2[k] := by simp [hkl]
      generalize l.2[k] = p at hgk
      have hB1l : ((l.2.take k).foldl stepP B0).length ≤ 64 := by
        have := foldP_len (l.2.take k) B0
        rw [List.length_take] at this
        omega
      have hnxk : (l.2.take (k + 1)).foldl stepP B0 = stepP ((l.2.take k).foldl stepP B0) p := by
        rw [List.take_add_one, hgk]
        simp [List.foldl_append]
      generalize hB1 : (l.2.take k).foldl stepP B0 = B1 at *
      have hf1 : vField 1 (.eptr (pvPart p) 0) = some (.eptr (pvPart p) 1) := rfl
      have hf0 : vField 0 (.eptr (pvPart p) 0) = some (.eptr (pvPart p) 0) := rfl
      have hl1 : vLoad false 1 (.eptr (pvPart p) 1) σ'' = some (.str p.2) := rfl
      have hl0 : vLoad false 1 (.eptr (pvPart p) 0) σ'' = some (.bool p.1) := rfl
      simp only [hkl, zz, Nat.reduceEqDiff]
      refine CutW_of ?_
      simp only [q1, q2, hpl, encPart.index hgk, hf1, hl1, zz, Nat.reduceEqDiff]
      refine (c99 (binds := B1) (n := p.2) (by omega) (.list _ _)).callB ?_
      have fin : stepP B1 p = B1 → (fun x25 σ26 => bindO False (vBin none .add (x25 6) (.int .i64 1)) fun v58 => Φ2 (lookP [(3, x25 3), (4, x25 4), (5, x25 5), (6, v58)]) σ26) (lookP [(3, .list bk2 (B1.map pvBind)), (4, v), (5, .int .i64 i), (6, .int .i64 k)]) σ'' := fun he => by
        simp only [zz, Nat.reduceEqDiff]
        rw [vBin_add _ (by omega) (by omega)]
        exact next2 _ _ hkl ⟨bk2, by rw [hnxk, he]; simp, rfl⟩
      cases hp1 : p.1 with
      | false =>
        have hst : stepP B1 p = B1 := by unfold stepP; rw [hp1]; rfl
        have fin := fin hst
        cases hvo : valueOf B1 p.2 with
        | none =>
          simp only [q1, q2, hpl, encPart.index hgk, hf0, hl0, hp1, zz, Nat.reduceEqDiff]
          simpa only [zz, Nat.reduceEqDiff] using fin
        | some w =>
          simp only [q1, q2, hpl, encPart.index hgk, hf0, hl0, hp1, zz, Nat.reduceEqDiff]
          simpa only [zz, Nat.reduceEqDiff] using fin
      | true =>
        cases hvo : valueOf B1 p.2 with
        | some w =>
          have hst : stepP B1 p = B1 := by unfold stepP; rw [hp1, hvo]; rfl
          have fin := fin hst
          simp only [q1, q2, hpl, encPart.index hgk, hf0, hl0, hp1, zz, Nat.reduceEqDiff]
          simpa only [zz, Nat.reduceEqDiff] using fin
        | none =>
          have hst : stepP B1 p = ins (p.2, []) B1 := by unfold stepP; rw [hp1, hvo]; rfl
          have hbd : vBuild [.str [], .str []] [(0, 1, .str p.2)] = some [.str p.2, .str []] := rfl
          have hpb : (.agg [.str p.2, .str []] : PV) = pvBind (p.2, []) := rfl
          simp only [q1, q2, hpl, encPart.index hgk, hf0, hl0, hf1, hl1, hp1, hbd, hpb, zz, Nat.reduceEqDiff]
          refine (c147 (by omega) (p.2, []) σ'').callB ?_
          try simp only [zz, Nat.reduceEqDiff]
          rw [vBin_add _ (by omega) (by omega)]
          exact next2 _ _ hkl ⟨.part, by rw [hnxk, hst]; simp, rfl⟩
    · obtain rfl : k = l.2.length := by omega
      rw [List.take_length]
      simp only [hkl, zz, Nat.reduceEqDiff]
      rw [vBin_add _ (by omega) (by omega)]
      exact next _ _ hlt ⟨bk2, by rw [hnx, List.foldl_append, hB0]; simp, rfl⟩
  · obtain rfl : i = (ruleAll r).length := by omega
    rw [List.take_length]
    have hfe := hfl (ruleAll r).length
    rw [List.take_length] at hfe
    have hBl := foldP_len ((ruleAll r).flatMap fun l => l.2) []
    have hnp : namesP r = (((ruleAll r).flatMap fun l => l.2).foldl stepP []).map (·.1) := rfl
    generalize ((ruleAll r).flatMap fun l => l.2).foldl stepP [] = B at *
    rw [hnp] at hR
    have hB64 : B.length ≤ 64 := by simp only [List.length_nil] at hBl; omega
    simp only [hlt, zz, Nat.reduceEqDiff]
    clear next hi
    refine CutW_of ?_
    refine Lfp_up B.length (fun i x σ'' => ∃ u, x = lookP [(3, .list bk (B.map pvBind)), (9, u), (10, .int .i64 i)] ∧ Grow σ.length 1 σ'' u (((B.take i).map (·.1)).map .str) ∧ σ <+: σ'') ?_ ⟨_, rfl, .nil _ _ _, hp2⟩
    rintro Φ2 i x σ'' hi ⟨u, rfl, hG, hp3⟩ next
    simp only [List.length_map, zz, Nat.reduceEqDiff]
    by_cases hil : i < B.length
    · have hgi : B[i]? = some B[i] := by simp [hil]
      generalize B[i] = b at hgi
      have hf0 : vField 0 (.eptr (pvBind b) 0) = some (.eptr (pvBind b) 0) := rfl
      have hl0 : vLoad false 1 (.eptr (pvBind b) 0) σ'' = some (.str b.1) := rfl
      obtain ⟨u', σ3, e1, e2, e3, _⟩ := hG.app (by_ := 16) (y := .list .full [.str b.1]) hp3 rfl (by simpa using sizedStr b.1) (by simp; omega)
      have htk : ((B.take (i + 1)).map (·.1)).map PV.str = ((B.take i).map (·.1)).map PV.str ++ [.str b.1] := by
        rw [List.take_add_one, hgi]
        simp
      simp only [hil, encBind.index hgi, hf0, hl0, vBuildSl_one (sizedStr b.1), e1, zz, Nat.reduceEqDiff]
      rw [vBin_add _ (by omega) (by omega)]
      exact next _ _ hil ⟨u', by simp, by rw [htk]; exact e2, e3⟩
    · obtain rfl : i = B.length := by omega
      rw [List.take_length] at hG
      simp only [hil, zz, Nat.reduceEqDiff]
      exact weakW_clean hp3 (hG.frz fun y hy => by
        obtain ⟨s, _, rfl⟩ := List.mem_map.1 hy
        exact .base _ (.str s)) hR

end Go.Proofs.YtiniifbmeobmgaaGreatDoor
