/- Symbols; parameters of a rule; the package's bindings. -/
import Derived.Test.YtiniifbmeobmgaaGreatDoorTrA
import Derived.Test.YtiniifbmeobmgaaGreatDoorFnN
import Derived.Test.YtiniifbmeobmgaaGreatDoorSpcF
set_option linter.unusedVariables false
set_option linter.unusedSimpArgs false
namespace Go.Proofs.YtiniifbmeobmgaaGreatDoor
open Go Go.Abs

abbrev SYM : Str := [115, 121, 109, 98, 111, 108]
def sufB (s t : Str) : Bool := decide (t.length ≤ s.length) && (s.drop (s.length - t.length) == t)
def symB (s : Str) : Bool := s == SYM || sufB s (32 :: SYM)

theorem c206 {s t : Str} (hs : s.length < 4611686018427387904) (ht : t.length < 4611686018427387904) (σ : St) : Ret W 206 [.str s, .str t] σ (.bool (sufB s t)) := by
  refine ret_of fun R hR => ?_
  rw [fn206_eq]
  unfold fn206
  have e1 : decide ((s.length : Int) ≥ (t.length : Int)) = decide (t.length ≤ s.length) := by congr 1; exact propext (by omega)
  simp only [e1, zz, Nat.reduceEqDiff]
  cases h : decide (t.length ≤ s.length) with
  | false =>
    have : sufB s t = false := by simp [sufB, h]
    rw [this] at hR
    simp only [zz, Nat.reduceEqDiff]
    exact weakW_keep hR
  | true =>
    rw [decide_eq_true_eq] at h
    have hsub : vSubStr (.str s) (some (.int .i64 ((s.length : Int) - (t.length : Int)))) none = some (.str (s.drop (s.length - t.length))) := by
      have : ((s.length : Int) - (t.length : Int)) = ((s.length - t.length : Nat) : Int) := by omega
      rw [this]
      simp [vSubStr, bound]
    have hv : sufB s t = (s.drop (s.length - t.length) == t) := by simp [sufB, h]
    rw [hv] at hR
    simp only [zz, Nat.reduceEqDiff]
    rw [vBin_sub _ (by omega) (by omega)]
    simp only [hsub, zz, Nat.reduceEqDiff]
    exact weakW_keep hR

theorem c183 {s t : Str} (hs : s.length < 4611686018427387904) (ht : t.length < 4611686018427387904) (σ : St) : Ret W 183 [.str s, .str t] σ (.bool (sufB s t)) := by
  refine ret_of fun R hR => ?_
  rw [fn183_eq]
  unfold fn183
  refine (c206 hs ht σ).callB ?_
  exact weakW_keep hR

theorem c160 {s : Str} (hs : s.length < 4611686018427387904) (σ : St) : Ret W 160 [.str s] σ (.bool (symB s)) := by
  refine ret_of fun R hR => ?_
  rw [fn160_eq]
  unfold fn160
  simp only [zz, Nat.reduceEqDiff]
  cases h : (s == SYM) with
  | true =>
    have : symB s = true := by simp [symB, h]
    rw [this] at hR
    simp only [zz, Nat.reduceEqDiff]
    exact weakW_keep hR
  | false =>
    have : symB s = sufB s (32 :: SYM) := by simp [symB, h]
    rw [this] at hR
    simp only [zz, Nat.reduceEqDiff]
    refine (c183 hs (by decide) σ).callB ?_
    try simp only [zz, Nat.reduceEqDiff]
    exact weakW_keep hR

/-! The parameters of a rule, by the package. -/

def texts (l : List Part) : List Str := (l.filter (·.1)).map (·.2)
def params (r : Rule19) : List Str := ((ruleAll r).map fun l => texts l.2).flatten
def namesR (r : Rule19) : List Str := Go.Lib.compact (sortS (params r))

theorem texts_take {l : List Part} {i : Nat} {p : Part} (h : l[i]? = some p) : texts (l.take (i + 1)) = texts (l.take i) ++ (if p.1 then [p.2] else []) := by
  unfold texts
  rw [List.take_add_one, h, List.filter_append, List.map_append]
  cases hp : p.1 <;> simp [hp]

theorem sort_len (ss : List Str) : (sortS ss).length = ss.length := by simp [sortS]

theorem strRow_grow {n0 : Nat} {σ : St} {v : PV} {ss : List Str} (h : Grow n0 1 σ v (ss.map .str)) (hl : ss.length < 4611686018427387904) :
    (v = .list .nil [] ∧ ss = []) ∨ ∃ b g, n0 ≤ b ∧ v = .sref b g 1 0 ss.length ∧ strRow v σ = some (b, g, ss) ∧ b < σ.length ∧ ss ≠ [] := by
  rcases h with ⟨rfl, h2⟩ | ⟨b, g, h1, rfl, h3, h4⟩
  · exact .inl ⟨rfl, by simpa using h2⟩
  · refine .inr ⟨b, g, h1, by simp, ?_, (List.getElem?_eq_some_iff.1 h3).1, by simpa using h4⟩
    simp only [strRow, h3]
    rw [if_pos ⟨trivial, trivial, trivial, trivial, trivial, by simpa using hl⟩, strs_map]
    rfl

theorem c207 {σ0 σ : St} {v : PV} {ss : List Str} (h : Grow σ0.length 1 σ v (ss.map .str)) (hp : σ0 <+: σ) (hl : ss.length < 4611686018427387904) {R : Res → St → Prop}
    (hR : ∀ σ', Grow σ0.length 1 σ' v ((sortS ss).map .str) → σ0 <+: σ' → R (.ret (.tuple [])) σ') : W 207 [v] σ R := by
  refine callW_fold ?_
  have h0 : bodyC (algP W) Tryz.prog annF 207 [v] σ R = bindO False (extSort [v] σ) (fun r => R (.ret r.1) r.2) := by kernel_rfl
  rw [h0]
  rcases strRow_grow h hl with ⟨rfl, rfl⟩ | ⟨b, g, hb0, rfl, hrow, hbl, hne⟩
  · simp only [extSort, zz, Nat.reduceEqDiff]
    refine hR _ ?_ hp
    have : sortS [] = [] := by simp [sortS]
    rw [this]
    exact .inl ⟨rfl, rfl⟩
  · simp only [extSort, hrow, zz, Nat.reduceEqDiff]
    refine hR _ (.inr ⟨b, g, hb0, by simp [sort_len], by simp [hbl], ?_⟩) (pre_set hp hb0 _)
    intro e
    have := congrArg List.length e
    simp [sort_len] at this
    exact hne this

theorem keeps_zero (d : Array Str) : Go.Lib.keeps d 0 = true := by simp [Go.Lib.keeps]

theorem compact_ne {ss : List Str} (h : ss ≠ []) : Go.Lib.compact ss ≠ [] := by
  intro e
  have : (0 : Nat) ∈ (List.range ss.length).filter (Go.Lib.keeps ss.toArray) := by
    rw [List.mem_filter]
    exact ⟨List.mem_range.2 (List.length_pos_iff.2 h), keeps_zero _⟩
  unfold Go.Lib.compact Go.Lib.compactUpTo at e
  rw [List.map_eq_nil_iff] at e
  rw [e] at this
  cases this

theorem compact_len (ss : List Str) : (Go.Lib.compact ss).length ≤ ss.length := by
  unfold Go.Lib.compact Go.Lib.compactUpTo
  rw [List.length_map]
  have := List.length_filter_le (Go.Lib.keeps ss.toArray) (List.range ss.length)
  simpa using this

/-- Compact: the row is cut. -/
theorem c208 {σ0 σ : St} {v : PV} {ss : List Str} (h : Grow σ0.length 1 σ v (ss.map .str)) (hp : σ0 <+: σ) (hl : ss.length < 4611686018427387904) {R : Res → St → Prop}
    (hR : ∀ v' σ', Frz σ' σ0.length v' (pvSl PV.str (reK (Go.Lib.compact ss))) → σ0 <+: σ' → R (.ret v') σ') : W 208 [v] σ R := by
  refine callW_fold ?_
  have h0 : bodyC (algP W) Tryz.prog annF 208 [v] σ R = bindO False (extCompact [v] σ) (fun r => R (.ret r.1) r.2) := by kernel_rfl
  rw [h0]
  rcases strRow_grow h hl with ⟨rfl, rfl⟩ | ⟨b, g, hb0, rfl, hrow, hbl, hne⟩
  · simp only [extCompact, zz, Nat.reduceEqDiff]
    exact hR _ _ (.list _ _ _ rfl (by simp)) hp
  · simp only [extCompact, hrow, zz, Nat.reduceEqDiff]
    refine hR _ _ ?_ (pre_set hp hb0 _)
    have hcn := compact_ne hne
    have hcl := compact_len ss
    have hk : pvSl PV.str (reK (Go.Lib.compact ss)) = .list .part ((Go.Lib.compact ss).map .str) := by
      cases hc : Go.Lib.compact ss with
      | nil => exact absurd hc hcn
      | cons a l => rfl
    rw [hk]
    refine .sref b g 1 0 _ g 1 ((Go.Lib.compact ss ++ List.replicate (ss.length - (Go.Lib.compact ss).length) []).map .str) _ (by simp [hbl]) rfl hb0 (by simp) (by simp) fun i x y hi hx hy => ?_
    rw [Nat.zero_add, List.map_append, List.getElem?_append_left (by simpa using hi)] at hx
    rw [hx] at hy
    cases hy
    rw [List.getElem?_map, Option.map_eq_some_iff] at hx
    obtain ⟨s, _, rfl⟩ := hx
    exact .base _ (.str _)

set_option maxHeartbeats 1000000 in
theorem c184 {r : Rule19} (hr : OkRule r) (h8 : r.1.2.length ≤ 64) (h6 : r.2.2.length ≤ 64) (hl8 : ∀ l ∈ r.2.2, l.2.length ≤ 64) (σ : St) : Ret W 184 [pvRule r] σ (pvSl PV.str (reK (namesR r))) := by
  refine ret_of fun R hR => ?_
  rw [fn184_eq]
  unfold fn184
  have hbox : opC.vBoxAny (pvRule r) = some (2, pvRule r) := rfl
  have hpt : vPart true 2 (pvRule r) 0 = some (pvRule r) := rfl
  have hall : ∀ l ∈ ruleAll r, l.2.length ≤ 64 := fun l hl => by
    rcases List.mem_cons.1 hl with rfl | hl
    · exact h8
    · exact hl8 l hl
  have hal : (ruleAll r).length ≤ 65 := by simp [ruleAll]; omega
  simp only [hbox, hpt, zz, Nat.reduceEqDiff]
  refine (c60 hr σ).callB ?_
  have hv : pvLists (allV r) = .list (allV r).1 ((ruleAll r).map pvParts) := rfl
  rw [hv]
  generalize (allV r).1 = lk
  simp only [List.length_map, zz, Nat.reduceEqDiff]
  have hbnd : ∀ i, i ≤ (ruleAll r).length → ((((ruleAll r).take i).map fun l => texts l.2).flatten).length ≤ i * 64 := by
    intro i
    induction i with
    | zero => intro _; simp
    | succ i ih =>
      intro hi
      have hgi : (ruleAll r)[i]? = some (ruleAll r)[i] := by simp [Nat.lt_of_succ_le hi]
      have hmem : (ruleAll r)[i] ∈ ruleAll r := by simp
      generalize (ruleAll r)[i] = l at hgi hmem
      have h1 : (texts l.2).length ≤ l.2.length := by
        unfold texts
        rw [List.length_map]
        exact List.length_filter_le _ _
      have h2 := hall l hmem
      have h3 := ih (by omega)
      rw [List.take_add_one, hgi]
      simp only [Option.toList_some, List.map_append, List.map_cons, List.map_nil, List.flatten_append, List.flatten_cons, List.flatten_nil, List.append_nil, List.length_append]
      omega
  refine Lfp_up (ruleAll r).length (fun i x σ' => ∃ v, x = lookP [(3, v), (9, .list lk ((ruleAll r).map pvParts)), (10, .int .i64 (ruleAll r).length), (11, .int .i64 i)] ∧ Grow σ.length 1 σ' v (((((ruleAll r).take i).map fun l => texts l.2).flatten).map .str) ∧ σ <+: σ') ?_ ⟨_, rfl, .nil _ _ _, List.prefix_rfl⟩
  rintro Φ i x σ' hi ⟨v, rfl, hg, hp⟩ next
  simp only [zz, Nat.reduceEqDiff]
  have hb1 := hbnd i hi
  by_cases hlt : i < (ruleAll r).length
  · have hgi : (ruleAll r)[i]? = some (ruleAll r)[i] := by simp [hlt]
    have hmem : (ruleAll r)[i] ∈ ruleAll r := by simp
    generalize (ruleAll r)[i] = l at hgi hmem
    have hll := hall l hmem
    generalize hacc : (((ruleAll r).take i).map fun l => texts l.2).flatten = acc at hg hb1
    have hnx : (((ruleAll r).take (i + 1)).map fun l => texts l.2).flatten = acc ++ texts l.2 := by
      rw [List.take_add_one, hgi]
      simp [← hacc]
    obtain ⟨k, ps⟩ := l
    have hpp : pvParts (k, ps) = .list k (ps.map pvPart) := rfl
    simp only at hll
    simp only [hlt, encParts.index hgi, encParts.part, hpp, List.length_map, zz, Nat.reduceEqDiff]
    refine Lfp_up ps.length (fun j x σ'' => ∃ u, x = lookP [(3, u), (9, .list lk ((ruleAll r).map pvParts)), (10, .int .i64 (ruleAll r).length), (11, .int .i64 i), (15, .list k (ps.map pvPart)), (16, .int .i64 ps.length), (17, .int .i64 j)] ∧ Grow σ.length 1 σ'' u ((acc ++ texts (ps.take j)).map .str) ∧ σ <+: σ'') ?_ ⟨v, rfl, by simpa [texts] using hg, hp⟩
    rintro Φ2 j x σ2 hj ⟨u, rfl, hgu, hpu⟩ next2
    simp only [zz, Nat.reduceEqDiff]
    by_cases hlt2 : j < ps.length
    · have hgj : ps[j]? = some ps[j] := by simp [hlt2]
      generalize ps[j] = p at hgj
      have htk := texts_take hgj
      have hput : vPut 2 (.agg [.bool false, .str []]) 0 (pvPart p) = some (pvPart p) := rfl
      have hp0 : vPart false 1 (pvPart p) 0 = some (.bool p.1) := rfl
      have hp1 : vPart false 1 (pvPart p) 1 = some (.str p.2) := rfl
      simp only [hlt2, encPart.index hgj, encPart.part, hput, hp0, zz, Nat.reduceEqDiff]
      cases hpm : p.1 with
      | true =>
        rw [hpm, if_pos rfl] at htk
        have htl : (texts (ps.take j)).length ≤ 64 := by
          have h1 : (texts (ps.take j)).length ≤ (ps.take j).length := by
            unfold texts
            rw [List.length_map]
            exact List.length_filter_le _ _
          have h2 : (ps.take j).length ≤ ps.length := by simp; omega
          omega
        have hil : i * 64 ≤ 65 * 64 := Nat.mul_le_mul_right _ (by omega)
        obtain ⟨u', σ'', e1, e2, e3, _⟩ := hgu.app (by_ := 16) (y := .list .full [.str p.2]) hpu rfl (by simpa using sizedStr _) (by simp only [List.length_map, List.length_append, List.length_cons, List.length_nil]; omega)
        simp only [hp1, vBuildSl_one (sizedStr p.2), e1, zz, Nat.reduceEqDiff]
        rw [vBin_add _ (by omega) (by omega)]
        exact next2 _ _ hlt2 ⟨u', by simp, by rw [htk]; simpa using e2, e3⟩
      | false =>
        rw [hpm] at htk
        simp only [Bool.false_eq_true, if_false, List.append_nil] at htk
        simp only [zz, Nat.reduceEqDiff]
        rw [vBin_add _ (by omega) (by omega)]
        exact next2 _ _ hlt2 ⟨u, by simp, by rw [htk]; exact hgu, hpu⟩
    · obtain rfl : j = ps.length := by omega
      rw [List.take_length] at hgu
      simp only [hlt2, zz, Nat.reduceEqDiff]
      rw [vBin_add _ (by omega) (by omega)]
      exact next _ _ hlt ⟨u, by simp, by rw [hnx]; exact hgu, hpu⟩
  · obtain rfl : i = (ruleAll r).length := by omega
    rw [List.take_length] at hg hb1
    have hpl : (params r).length ≤ 65 * 64 := Nat.le_trans hb1 (Nat.mul_le_mul_right _ hal)
    simp only [hlt, zz, Nat.reduceEqDiff]
    refine c207 (ss := params r) hg hp (by omega) fun σ1 hg1 hp1 => ?_
    simp only
    refine c208 hg1 hp1 (by rw [sort_len]; omega) fun v' σ2 hf hp2 => ?_
    simp only
    exact weakW_clean hp2 hf hR

/-! The package's kernel: bindings, verify. -/

theorem hb186 : hasBody 186 = true := by kernel_rfl

theorem c186 (s : Str) (b : Bind) (σ : St) : Ret W 186 [.str s, pvBind b] σ (.bool (s == b.1)) := by
  refine ret_of fun R hR => ?_
  rw [fn186_eq]
  unfold fn186
  have hbox : opC.vBoxAny (pvBind b) = some (2, pvBind b) := rfl
  have hp : vPart false 1 (pvBind b) 0 = some (.str b.1) := rfl
  simp only [hbox, hp, zz, Nat.reduceEqDiff]
  exact weakW_keep hR

theorem c185 {ns : List Str} {bs : List Bind} (hl : ns.length < 4611686018427387904) (hb : bs.length < 4611686018427387904) {k bk : LK} (σ : St) : Ret W 185 [.list k (ns.map .str), .list bk (bs.map pvBind), .func 186 []] σ (.bool (decide (ns = bs.map (·.1)))) := by
  refine ret_of fun R hR => ?_
  rw [fn185_eq]
  unfold fn185
  simp only [List.length_map, zz, Nat.reduceEqDiff]
  by_cases hlen : ns.length = bs.length
  rotate_left
  · have h0 : ((ns.length : Int) != (bs.length : Int)) = true := by
      rw [bne_iff_ne]
      omega
    have : decide (ns = bs.map (·.1)) = false := by
      rw [decide_eq_false_iff_not]
      intro e
      have := congrArg List.length e
      simp at this
      exact hlen this
    rw [this] at hR
    simp only [h0, zz, Nat.reduceEqDiff]
    exact weakW_keep hR
  have h0 : ((ns.length : Int) != (bs.length : Int)) = false := by rw [hlen]; simp
  simp only [h0, zz, Nat.reduceEqDiff]
  refine Lfp_up ns.length (fun i z σ' => z = lookP [(1, .list bk (bs.map pvBind)), (2, .func 186 []), (15, .list k (ns.map .str)), (16, .int .i64 ns.length), (17, .int .i64 i)] ∧ σ' = σ ∧ ns.take i = (bs.take i).map (·.1)) ?_ ⟨rfl, rfl, rfl⟩
  rintro Φ i z σ' hi ⟨rfl, rfl, heq⟩ next
  simp only [zz, Nat.reduceEqDiff]
  by_cases hlt : i < ns.length
  · have hgi : ns[i]? = some ns[i] := by simp [hlt]
    have hgb : bs[i]? = some (bs[i]'(by omega)) := by simp [show i < bs.length by omega]
    generalize ns[i] = s at hgi
    generalize bs[i]'(by omega) = b at hgb
    have hix : vIndex 1 (.list k (ns.map PV.str)) (.int .i64 i) = some (.eptr (.str s) 0) := vIndex_list _ (by rw [List.getElem?_map, hgi]; rfl) (show (PV.str s).cells? = some [.str s] from rfl) rfl
    have hput : vPut 2 (.agg [.str [], .str []]) 0 (pvBind b) = some (pvBind b) := rfl
    have hpt : vPart true 2 (pvBind b) 0 = some (pvBind b) := rfl
    simp only [hlt, hix, encBind.index hgb, encBind.part, hput, hpt, callG_func hb186, List.cons_append, List.nil_append, List.append_nil, zz, Nat.reduceEqDiff]
    refine (c186 s b σ').callB ?_
    cases hsb : (s == b.1) with
    | true =>
      simp only [zz, Nat.reduceEqDiff]
      rw [vBin_add _ (by omega) (by omega)]
      refine next _ _ hlt ⟨by simp, rfl, ?_⟩
      rw [List.take_add_one, List.take_add_one, hgi, hgb, List.map_append, heq]
      simpa using hsb
    | false =>
      simp only [zz, Nat.reduceEqDiff]
      have : decide (ns = bs.map (·.1)) = false := by
        rw [decide_eq_false_iff_not]
        intro e
        have h1 : (bs.map (·.1))[i]? = some s := by rw [← e]; exact hgi
        rw [List.getElem?_map, hgb] at h1
        simp at h1
        rw [h1] at hsb
        simp at hsb
      rw [this] at hR
      exact weakW_keep hR
  · obtain rfl : i = ns.length := by omega
    simp only [hlt, zz, Nat.reduceEqDiff]
    have : decide (ns = bs.map (·.1)) = true := by
      rw [decide_eq_true_eq]
      rw [List.take_length, hlen, List.take_length] at heq
      exact heq
    rw [this] at hR
    exact weakW_keep hR

/-- What is wrong with a rule's bindings. -/
noncomputable def bindErr (g : Gram) (r : Rule19) (bs : List Bind) : Int :=
  if namesR r = bs.map (·.1) then (if (bs.all fun b => (prodG g (metaOf b.1) b.2).1 && decide ((prodG g (metaOf b.1) b.2).2 = 0)) = true then 0 else 7) else 8

/-- The package's kernel lies at P. -/
def Ker (σ : St) (P : Nat) (g : Gram) (tv : PV) : Prop := σ[P]? = some (.arr 0 3 [.agg [pvSl pvMeta g.1, pvSl pvRule g.2, tv]])

theorem Ker.gram {σ : St} {P : Nat} {g : Gram} {tv : PV} (h : Ker σ P g tv) : vLoad true 2 (.ptr P 0 0 0) σ = some (pvGram g) := by
  unfold Ker at h
  simp only [vLoad, h]
  rfl

theorem Ker.rules {σ : St} {P : Nat} {g : Gram} {tv : PV} (h : Ker σ P g tv) : vLoad false 1 (.ptr P 0 0 1) σ = some (.list g.2.1 (g.2.2.map pvRule)) := by
  unfold Ker at h
  simp only [vLoad, h]
  rfl

theorem Ker.text {σ : St} {P : Nat} {g : Gram} {tv : PV} (h : Ker σ P g tv) : vLoad false 1 (.ptr P 0 0 2) σ = some tv := by
  unfold Ker at h
  simp only [vLoad, h]
  rfl

theorem nilP (b g i o : Nat) : vNil (.ptr b g i o) = some (.ptr b g i o) := rfl

theorem namesR_len {r : Rule19} (h8 : r.1.2.length ≤ 64) (h6 : r.2.2.length ≤ 64) (hl8 : ∀ l ∈ r.2.2, l.2.length ≤ 64) : (namesR r).length ≤ 65 * 64 := by
  have h1 := compact_len (sortS (params r))
  rw [sort_len] at h1
  have key : ∀ ls : List (Sl Part), (∀ l ∈ ls, l.2.length ≤ 64) → ((ls.map fun l => texts l.2).flatten).length ≤ ls.length * 64 := by
    intro ls
    induction ls with
    | nil => intro _; simp
    | cons a ls ih =>
      intro h
      have h2 := ih fun l hl => h l (by simp [hl])
      have h3 := h a (by simp)
      have h4 : (texts a.2).length ≤ a.2.length := by
        unfold texts
        rw [List.length_map]
        exact List.length_filter_le _ _
      simp only [List.map_cons, List.flatten_cons, List.length_append, List.length_cons]
      omega
  have h2 := key (ruleAll r) fun l hl => by
    rcases List.mem_cons.1 hl with rfl | hl
    · exact h8
    · exact hl8 l hl
  have h3 : (ruleAll r).length * 64 ≤ 65 * 64 := Nat.mul_le_mul_right _ (by simp [ruleAll]; omega)
  unfold namesR
  have h4 : (params r).length ≤ (ruleAll r).length * 64 := h2
  omega

set_option maxHeartbeats 1000000 in
theorem c161 {g : Gram} (hg : OkGram g) {r : Rule19} (hr : OkRule r) (h8 : r.1.2.length ≤ 64) (h6 : r.2.2.length ≤ 64) (hl8 : ∀ l ∈ r.2.2, l.2.length ≤ 64) {bs : List Bind} (hbl : bs.length ≤ 1048576) (hbs : ∀ b ∈ bs, b.1.length ≤ 1048576 ∧ b.2.length ≤ 1048576) {bk : LK}
    {σ : St} {P : Nat} {tv : PV} (hK : Ker σ P g tv) : Ret W 161 [.ptr P 0 0 0, pvRule r, .list bk (bs.map pvBind)] σ (.int .i64 (bindErr g r bs)) := by
  refine ret_of fun R hR => ?_
  rw [fn161_eq]
  unfold fn161
  have hbox : opC.vBoxAny (pvRule r) = some (2, pvRule r) := rfl
  have hpt : vPart true 2 (pvRule r) 0 = some (pvRule r) := rfl
  have hnl := namesR_len h8 h6 hl8
  have hnv : pvSl PV.str (reK (namesR r)) = .list (reK (namesR r)).1 ((namesR r).map .str) := rfl
  simp only [hbox, hpt, zz, Nat.reduceEqDiff]
  refine (c184 hr h8 h6 hl8 σ).callB ?_
  rw [hnv]
  refine (c185 (by omega) (by omega) σ).callB ?_
  by_cases hn : namesR r = bs.map (·.1)
  rotate_left
  · have e : bindErr g r bs = 8 := by unfold bindErr; rw [if_neg hn]
    rw [e] at hR
    simp only [hn, decide_false, zz, Nat.reduceEqDiff]
    exact weakW_keep hR
  have e : bindErr g r bs = if (bs.all fun b => (prodG g (metaOf b.1) b.2).1 && decide ((prodG g (metaOf b.1) b.2).2 = 0)) = true then 0 else 7 := by unfold bindErr; rw [if_pos hn]
  rw [e] at hR
  have hdn : decide (namesR r = bs.map (·.1)) = true := decide_eq_true hn
  simp only [hdn, List.length_map, zz, Nat.reduceEqDiff]
  refine Lfp_up bs.length (fun i x σ' => x = lookP [(0, .ptr P 0 0 0), (18, .list bk (bs.map pvBind)), (19, .int .i64 bs.length), (20, .int .i64 i)] ∧ σ' = σ ∧ (bs.take i).all (fun b => (prodG g (metaOf b.1) b.2).1 && decide ((prodG g (metaOf b.1) b.2).2 = 0)) = true) ?_ ⟨rfl, rfl, rfl⟩
  rintro Φ i x σ' hi ⟨rfl, rfl, hall⟩ next
  simp only [zz, Nat.reduceEqDiff]
  by_cases hlt : i < bs.length
  · have hgi : bs[i]? = some bs[i] := by simp [hlt]
    have hmem : bs[i] ∈ bs := by simp
    generalize bs[i] = b at hgi hmem
    obtain ⟨hb1, hb2⟩ := hbs b hmem
    have hput : vPut 2 (.agg [.str [], .str []]) 0 (pvBind b) = some (pvBind b) := rfl
    have hp0 : vPart false 1 (pvBind b) 0 = some (.str b.1) := rfl
    have hp1 : vPart false 1 (pvBind b) 1 = some (.str b.2) := rfl
    have hf : vField 0 (.ptr P 0 0 0) = some (.ptr P 0 0 0) := rfl
    simp only [hlt, encBind.index hgi, encBind.part, hput, hp0, hp1, nilP, hf, hK.gram, zz, Nat.reduceEqDiff]
    refine (c64 (by omega) σ').callC ?_
    refine (c18 hg hb2 σ').callB ?_
    simp only [zz, Nat.reduceEqDiff]
    cases h2 : ((prodG g (metaOf b.1) b.2).2 != 0) with
    | true =>
      have hne : ¬ (prodG g (metaOf b.1) b.2).2 = 0 := by simpa using h2
      have : (bs.all fun b => (prodG g (metaOf b.1) b.2).1 && decide ((prodG g (metaOf b.1) b.2).2 = 0)) = false := List.all_eq_false.2 ⟨b, hmem, by simp [hne]⟩
      rw [this] at hR
      simp only [Bool.false_eq_true, if_false] at hR
      simp only [zz, Nat.reduceEqDiff]
      exact weakW_keep hR
    | false =>
      have he : (prodG g (metaOf b.1) b.2).2 = 0 := by simpa using h2
      simp only [zz, Nat.reduceEqDiff]
      cases h1 : (prodG g (metaOf b.1) b.2).1 with
      | false =>
        have : (bs.all fun b => (prodG g (metaOf b.1) b.2).1 && decide ((prodG g (metaOf b.1) b.2).2 = 0)) = false := List.all_eq_false.2 ⟨b, hmem, by simp [h1]⟩
        rw [this] at hR
        simp only [Bool.false_eq_true, if_false] at hR
        simp only [zz, Nat.reduceEqDiff]
        exact weakW_keep hR
      | true =>
        simp only [zz, Nat.reduceEqDiff]
        rw [vBin_add _ (by omega) (by omega)]
        exact next _ _ hlt ⟨by simp, rfl, all_take_succ hall hgi (by simp [h1, he])⟩
  · obtain rfl : i = bs.length := by omega
    rw [List.take_length] at hall
    rw [hall] at hR
    simp only [if_true] at hR
    simp only [hlt, zz, Nat.reduceEqDiff]
    exact weakW_keep hR

end Go.Proofs.YtiniifbmeobmgaaGreatDoor
