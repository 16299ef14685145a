/- IndexFunc and ContainsFunc at lists of parts, metarules and rules (printed by wip/src/SpecB2.py). -/
import Derived.Test.YtiniifbmeobmgaaGreatDoorSpcA
import Derived.Test.YtiniifbmeobmgaaGreatDoorFnB
set_option linter.unusedVariables false
set_option linter.unusedSimpArgs false
namespace Go.Proofs.YtiniifbmeobmgaaGreatDoor
open Go Go.Abs

theorem c119 {α : Type} {enc : α → PV} (E : EncOk enc false 1) {l : List α} (p : α → Bool) {lk : LK} {f : FuncId} {caps : List PV} {σ : St} (hf : hasBody f = true) (hl : l.length < 4611686018427387904) (h : ∀ a ∈ l, Ret W f (enc a :: caps) σ (.bool (p a))) :
    Ret W 119 [.list lk (l.map enc), .func f caps] σ (.int .i64 (idxOf p l 0)) := by
  refine ret_of fun R hR => ?_
  rw [fn119_eq]
  unfold fn119
  simp only [zZ, zA, List.length_map]
  refine Lfp_up l.length (fun i x σ' => x = lookP [(0, .list lk (l.map enc)), (1, .func f caps), (7, .int .i64 l.length), (8, .int .i64 i)] ∧ σ' = σ ∧ (l.take i).all (fun a => !p a) = true) ?_ ⟨rfl, rfl, rfl⟩
  rintro Φ i x σ' hi ⟨rfl, rfl, hp⟩ next
  simp only [zK, Nat.reduceEqDiff, if_true, if_false, zQ, zA, Int.ofNat_lt]
  by_cases hlt : i < l.length
  · have hc : l[i]? = some l[i] := by simp [hlt]
    have hmem : l[i] ∈ l := by simp
    simp only [hlt, decide_true, zD, E.index hc, zA, yB, E.part, callG_func hf, List.cons_append, List.nil_append]
    refine (h _ hmem).callB ?_
    generalize l[i] = a at hc
    cases hpa : p a with
    | true =>
      simp only [zD]
      refine weakW_keep ?_
      rw [idxOf_hit hc hpa hp] at hR
      simpa using hR
    | false =>
      simp only [zE]
      rw [vBin_add _ (by omega) (by omega)]
      exact next _ _ hlt ⟨by simp, rfl, all_take_succ hp hc (by simp [hpa])⟩
  · obtain rfl : i = l.length := by omega
    rw [List.take_length] at hp
    simp only [hlt, decide_false, zE]
    refine weakW_keep ?_
    rw [idxOf_none hp] at hR
    exact hR

theorem c51 {α : Type} {enc : α → PV} (E : EncOk enc false 1) {l : List α} (p : α → Bool) {lk : LK} {f : FuncId} {caps : List PV} {σ : St} (hf : hasBody f = true) (hl : l.length < 4611686018427387904) (h : ∀ a ∈ l, Ret W f (enc a :: caps) σ (.bool (p a))) :
    Ret W 51 [.list lk (l.map enc), .func f caps] σ (.bool (l.any p)) := by
  refine ret_of fun R hR => ?_
  rw [fn51_eq]
  unfold fn51
  refine (c119 E p hf hl h).callB ?_
  simp only [zT, zA, idxOf_ge]
  exact weakW_keep hR

theorem c111 {α : Type} {enc : α → PV} (E : EncOk enc true 2) {l : List α} (p : α → Bool) {lk : LK} {f : FuncId} {caps : List PV} {σ : St} (hf : hasBody f = true) (hl : l.length < 4611686018427387904) (h : ∀ a ∈ l, Ret W f (enc a :: caps) σ (.bool (p a))) :
    Ret W 111 [.list lk (l.map enc), .func f caps] σ (.int .i64 (idxOf p l 0)) := by
  refine ret_of fun R hR => ?_
  rw [fn111_eq]
  unfold fn111
  simp only [zZ, zA, List.length_map]
  refine Lfp_up l.length (fun i x σ' => x = lookP [(0, .list lk (l.map enc)), (1, .func f caps), (7, .int .i64 l.length), (8, .int .i64 i)] ∧ σ' = σ ∧ (l.take i).all (fun a => !p a) = true) ?_ ⟨rfl, rfl, rfl⟩
  rintro Φ i x σ' hi ⟨rfl, rfl, hp⟩ next
  simp only [zK, Nat.reduceEqDiff, if_true, if_false, zQ, zA, Int.ofNat_lt]
  by_cases hlt : i < l.length
  · have hc : l[i]? = some l[i] := by simp [hlt]
    have hmem : l[i] ∈ l := by simp
    simp only [hlt, decide_true, zD, E.index hc, zA, yB, E.part, callG_func hf, List.cons_append, List.nil_append]
    refine (h _ hmem).callB ?_
    generalize l[i] = a at hc
    cases hpa : p a with
    | true =>
      simp only [zD]
      refine weakW_keep ?_
      rw [idxOf_hit hc hpa hp] at hR
      simpa using hR
    | false =>
      simp only [zE]
      rw [vBin_add _ (by omega) (by omega)]
      exact next _ _ hlt ⟨by simp, rfl, all_take_succ hp hc (by simp [hpa])⟩
  · obtain rfl : i = l.length := by omega
    rw [List.take_length] at hp
    simp only [hlt, decide_false, zE]
    refine weakW_keep ?_
    rw [idxOf_none hp] at hR
    exact hR

theorem c35 {α : Type} {enc : α → PV} (E : EncOk enc true 2) {l : List α} (p : α → Bool) {lk : LK} {f : FuncId} {caps : List PV} {σ : St} (hf : hasBody f = true) (hl : l.length < 4611686018427387904) (h : ∀ a ∈ l, Ret W f (enc a :: caps) σ (.bool (p a))) :
    Ret W 35 [.list lk (l.map enc), .func f caps] σ (.bool (l.any p)) := by
  refine ret_of fun R hR => ?_
  rw [fn35_eq]
  unfold fn35
  refine (c111 E p hf hl h).callB ?_
  simp only [zT, zA, idxOf_ge]
  exact weakW_keep hR

theorem c120 {α : Type} {enc : α → PV} (E : EncOk enc true 2) {l : List α} (p : α → Bool) {lk : LK} {f : FuncId} {caps : List PV} {σ : St} (hf : hasBody f = true) (hl : l.length < 4611686018427387904) (h : ∀ a ∈ l, Ret W f (enc a :: caps) σ (.bool (p a))) :
    Ret W 120 [.list lk (l.map enc), .func f caps] σ (.int .i64 (idxOf p l 0)) := by
  refine ret_of fun R hR => ?_
  rw [fn120_eq]
  unfold fn120
  simp only [zZ, zA, List.length_map]
  refine Lfp_up l.length (fun i x σ' => x = lookP [(0, .list lk (l.map enc)), (1, .func f caps), (7, .int .i64 l.length), (8, .int .i64 i)] ∧ σ' = σ ∧ (l.take i).all (fun a => !p a) = true) ?_ ⟨rfl, rfl, rfl⟩
  rintro Φ i x σ' hi ⟨rfl, rfl, hp⟩ next
  simp only [zK, Nat.reduceEqDiff, if_true, if_false, zQ, zA, Int.ofNat_lt]
  by_cases hlt : i < l.length
  · have hc : l[i]? = some l[i] := by simp [hlt]
    have hmem : l[i] ∈ l := by simp
    simp only [hlt, decide_true, zD, E.index hc, zA, yB, E.part, callG_func hf, List.cons_append, List.nil_append]
    refine (h _ hmem).callB ?_
    generalize l[i] = a at hc
    cases hpa : p a with
    | true =>
      simp only [zD]
      refine weakW_keep ?_
      rw [idxOf_hit hc hpa hp] at hR
      simpa using hR
    | false =>
      simp only [zE]
      rw [vBin_add _ (by omega) (by omega)]
      exact next _ _ hlt ⟨by simp, rfl, all_take_succ hp hc (by simp [hpa])⟩
  · obtain rfl : i = l.length := by omega
    rw [List.take_length] at hp
    simp only [hlt, decide_false, zE]
    refine weakW_keep ?_
    rw [idxOf_none hp] at hR
    exact hR

theorem c53 {α : Type} {enc : α → PV} (E : EncOk enc true 2) {l : List α} (p : α → Bool) {lk : LK} {f : FuncId} {caps : List PV} {σ : St} (hf : hasBody f = true) (hl : l.length < 4611686018427387904) (h : ∀ a ∈ l, Ret W f (enc a :: caps) σ (.bool (p a))) :
    Ret W 53 [.list lk (l.map enc), .func f caps] σ (.bool (l.any p)) := by
  refine ret_of fun R hR => ?_
  rw [fn53_eq]
  unfold fn53
  refine (c120 E p hf hl h).callB ?_
  simp only [zT, zA, idxOf_ge]
  exact weakW_keep hR

end Go.Proofs.YtiniifbmeobmgaaGreatDoor

/- Grammars; what the package's Check answers. -/
set_option linter.unusedVariables false
set_option linter.unusedSimpArgs false
namespace Go.Proofs.YtiniifbmeobmgaaGreatDoor
open Go Go.Abs

/-- A slice from outside: its members, and whether it is nil. -/
abbrev Sl (α : Type) := LK × List α
def pvSl {α : Type} (enc : α → PV) (p : Sl α) : PV := .list p.1 (p.2.map enc)
abbrev Lists := Sl (Sl Part)
abbrev Meta19 := Str × Lists
abbrev Rule19 := Sl Part × Lists
abbrev Gram := Sl Meta19 × Sl Rule19
def pvParts (l : Sl Part) : PV := pvSl pvPart l
def pvLists (l : Lists) : PV := pvSl pvParts l
def pvMeta (m : Meta19) : PV := .agg [.str m.1, pvLists m.2]
def pvRule (r : Rule19) : PV := .agg [pvParts r.1, pvLists r.2]
def pvGram (g : Gram) : PV := .agg [pvSl pvMeta g.1, pvSl pvRule g.2]

theorem encParts : EncOk pvParts false 1 := ⟨fun p => ⟨_, rfl, rfl⟩, fun p => rfl⟩
theorem encMeta : EncOk pvMeta true 2 := ⟨fun p => ⟨_, rfl, rfl⟩, fun p => rfl⟩
theorem encRule : EncOk pvRule true 2 := ⟨fun p => ⟨_, rfl, rfl⟩, fun p => rfl⟩
theorem sizedParts (p : Sl Part) : Sized 1 (pvParts p) := ⟨_, rfl, rfl⟩
theorem sizedMeta (p : Meta19) : Sized 2 (pvMeta p) := ⟨_, rfl, rfl⟩
theorem sizedRule (p : Rule19) : Sized 2 (pvRule p) := ⟨_, rfl, rfl⟩
theorem underSl {α : Type} {enc : α → PV} {n : Nat} (h : ∀ a, Under n (enc a)) (p : Sl α) : Under n (pvSl enc p) := .list _ _ fun i x hx => by
  obtain ⟨a, _, rfl⟩ := List.mem_map.1 (List.mem_of_getElem? hx)
  exact h a
theorem underParts (n : Nat) (p : Sl Part) : Under n (pvParts p) := underSl (underPart n) p
theorem underLists (n : Nat) (p : Lists) : Under n (pvLists p) := underSl (underParts n) p
theorem underMeta (n : Nat) (m : Meta19) : Under n (pvMeta m) := .agg _ fun i x h => by
  match i with
  | 0 => simp at h; subst h; exact .str _
  | 1 => simp at h; subst h; exact underLists n m.2
  | i + 2 => simp at h
theorem underRule (n : Nat) (r : Rule19) : Under n (pvRule r) := .agg _ fun i x h => by
  match i with
  | 0 => simp at h; subst h; exact underParts n r.1
  | 1 => simp at h; subst h; exact underLists n r.2
  | i + 2 => simp at h

structure OkParts (l : Sl Part) : Prop where
  len : l.2.length ≤ 1048576
  txt : ∀ p ∈ l.2, p.2.length ≤ 1048576
structure OkLists (l : Lists) : Prop where
  len : l.2.length ≤ 1048576
  mem : ∀ p ∈ l.2, OkParts p
structure OkMeta (m : Meta19) : Prop where
  txt : m.1.length ≤ 1048576
  alts : OkLists m.2
structure OkRule (r : Rule19) : Prop where
  left : OkParts r.1
  right : OkLists r.2
structure OkGram (g : Gram) : Prop where
  ml : g.1.2.length ≤ 1048576
  rl : g.2.2.length ≤ 1048576
  metas : ∀ m ∈ g.1.2, OkMeta m
  rules : ∀ r ∈ g.2.2, OkRule r

theorem OkParts.okS {l : Sl Part} (h : OkParts l) : ∀ p ∈ l.2, okS p.2 := fun p hp => Nat.lt_of_le_of_lt (h.txt p hp) (by decide)

def ruleAll (r : Rule19) : List (Sl Part) := r.1 :: r.2.2

/-! ### Too long -/

def longL (l : Sl Part) : Bool := decide ((l.2.length : Int) > 64)
def longM (m : Meta19) : Bool := decide ((m.2.2.length : Int) > 64) || m.2.2.any longL
def longR (r : Rule19) : Bool := decide ((r.2.2.length : Int) > 64) || (decide ((r.1.2.length : Int) > 64) || r.2.2.any longL)

theorem c121 {l : Sl Part} (σ : St) : Ret W 121 [pvParts l] σ (.bool (longL l)) := by
  refine ret_of fun R hR => ?_
  rw [fn121_eq]
  unfold fn121
  simp only [pvParts, pvSl, List.length_map, zz, Nat.reduceEqDiff]
  exact weakW_keep hR

theorem c122 {l : Sl Part} (σ : St) : Ret W 122 [pvParts l] σ (.bool (longL l)) := by
  refine ret_of fun R hR => ?_
  rw [fn122_eq]
  unfold fn122
  simp only [pvParts, pvSl, List.length_map, zz, Nat.reduceEqDiff]
  exact weakW_keep hR

theorem hb121 : hasBody 121 = true := by kernel_rfl
theorem hb122 : hasBody 122 = true := by kernel_rfl
theorem hb55 : hasBody 55 = true := by kernel_rfl
theorem hb56 : hasBody 56 = true := by kernel_rfl
theorem hb58 : hasBody 58 = true := by kernel_rfl
theorem hb61 : hasBody 61 = true := by kernel_rfl
theorem hb63 : hasBody 63 = true := by kernel_rfl

theorem c55 {m : Meta19} (hm : OkMeta m) (σ : St) : Ret W 55 [pvMeta m] σ (.bool (longM m)) := by
  refine ret_of fun R hR => ?_
  rw [fn55_eq]
  unfold fn55
  obtain ⟨n, ls⟩ := m
  have hbox : opC.vBoxAny (.agg [.str n, pvLists ls]) = some (2, .agg [.str n, pvLists ls]) := rfl
  simp only [pvMeta, hbox, zz, Nat.reduceEqDiff]
  simp only [pvLists, pvSl, List.length_map, zz, Nat.reduceEqDiff]
  cases h1 : decide ((ls.2.length : Int) > 64) with
  | true =>
    simp only [zz, Nat.reduceEqDiff]
    refine weakW_keep ?_
    simpa [longM, h1] using hR
  | false =>
    simp only [zz, Nat.reduceEqDiff]
    refine (c51 encParts longL hb121 (Nat.lt_of_le_of_lt hm.alts.len (by decide)) fun l _ => c121 _).callB ?_
    try simp only [zz, Nat.reduceEqDiff]
    refine weakW_keep ?_
    simpa [longM, h1] using hR

theorem c56 {r : Rule19} (hr : OkRule r) (σ : St) : Ret W 56 [pvRule r] σ (.bool (longR r)) := by
  refine ret_of fun R hR => ?_
  rw [fn56_eq]
  unfold fn56
  obtain ⟨l, ls⟩ := r
  have hbox : opC.vBoxAny (.agg [pvParts l, pvLists ls]) = some (2, .agg [pvParts l, pvLists ls]) := rfl
  simp only [pvRule, hbox, zz, Nat.reduceEqDiff]
  simp only [pvLists, pvParts, pvSl, List.length_map, zz, Nat.reduceEqDiff]
  cases h1 : decide ((ls.2.length : Int) > 64) with
  | true =>
    simp only [zz, Nat.reduceEqDiff]
    refine weakW_keep ?_
    simpa [longR, h1] using hR
  | false =>
    simp only [zz, Nat.reduceEqDiff]
    cases h2 : decide ((l.2.length : Int) > 64) with
    | true =>
      simp only [zz, Nat.reduceEqDiff]
      refine weakW_keep ?_
      simpa [longR, h1, h2] using hR
    | false =>
      simp only [zz, Nat.reduceEqDiff]
      refine (c51 encParts longL hb122 (Nat.lt_of_le_of_lt hr.right.len (by decide)) fun l _ => c122 _).callB ?_
      try simp only [zz, Nat.reduceEqDiff]
      refine weakW_keep ?_
      simpa [longR, h1, h2] using hR

/-! ### Wrong parts of lists -/

def badL (d : Bool) (l : Sl Part) : Bool := l.2.any (badPart d)

theorem c58 {l : Sl Part} (hl : OkParts l) (σ : St) : Ret W 58 [pvParts l] σ (.bool (badL false l)) := by
  refine ret_of fun R hR => ?_
  rw [fn58_eq]
  unfold fn58
  refine (c59 (Nat.lt_of_le_of_lt hl.len (by decide)) hl.okS).callB ?_
  simp only [Bool.not_not, zz, Nat.reduceEqDiff]
  exact weakW_keep hR

/-- All lists of a rule, as one slice. -/
def allV (r : Rule19) : Sl (Sl Part) := (if r.2.2 = [] then .full else .part, ruleAll r)

theorem c60 {r : Rule19} (hr : OkRule r) (σ : St) : Ret W 60 [pvRule r] σ (pvLists (allV r)) := by
  refine ret_of fun R hR => ?_
  rw [fn60_eq]
  unfold fn60
  obtain ⟨l, k, ls⟩ := r
  have hbox : opC.vBoxAny (.agg [pvParts l, pvLists (k, ls)]) = some (2, .agg [pvParts l, pvLists (k, ls)]) := rfl
  simp only [pvRule, hbox, vBuildSl_one (sizedParts l), zz, Nat.reduceEqDiff]
  cases ls with
  | nil =>
    have e : vAppend 1 24 (.list .full [pvParts l]) (pvLists (k, [])) σ = some (.list .full [pvParts l], σ) := rfl
    simp only [e, zz, Nat.reduceEqDiff]
    refine weakW_keep ?_
    simpa [allV, ruleAll, pvLists, pvSl] using hR
  | cons a ls =>
    have hlen := hr.right.len
    simp only [List.length_cons] at hlen
    have e : vAppend 1 24 (.list .full [pvParts l]) (pvLists (k, a :: ls)) σ = some (.sref σ.length 0 1 0 (1 + (a :: ls).length), σ ++ [.arr 0 1 (pvParts l :: (a :: ls).map pvParts)]) := by
      have hroom : roomy (1 + (a :: ls).length) 24 = true := by simp [roomy]; omega
      simp only [vAppend, pvLists, pvSl, vElems]
      simp only [List.map_cons, List.isEmpty_cons, Bool.false_eq_true, if_false, List.length_cons, List.length_nil, List.length_map, Nat.zero_add]
      rw [if_pos ⟨by simp, hroom, rfl, rfl⟩]
      rfl
    simp only [e, zz, Nat.reduceEqDiff]
    refine weakW_clean ⟨_, rfl⟩ (v' := .list .part (pvParts l :: (a :: ls).map pvParts)) ?_ ?_
    · refine .sref _ _ _ _ _ 0 1 _ _ (new_get _ _) rfl (Nat.le_refl _) (by simp; omega) (by simp; omega) fun i x y hi hx hy => ?_
      rw [Nat.zero_add, hy] at hx
      cases hx
      refine .base _ ?_
      have hm := List.mem_of_getElem? hy
      rw [← List.map_cons] at hm
      obtain ⟨p, _, rfl⟩ := List.mem_map.1 hm
      exact underParts _ p
    · simpa [allV, ruleAll, pvLists, pvSl] using hR

/-! ### The names that are known -/

def pvKnown (seen : List Str) : List (PV × PV) := seen.map fun s => (.str s, .bool true)

theorem find_known (s : Str) : ∀ (seen : List Str) (i : Nat), ∃ o, vFind .str (.str s) (pvKnown seen) i = some o ∧ (match o with
    | some (_, v) => v = .bool true ∧ seen.contains s = true
    | none => seen.contains s = false)
  | [], i => ⟨none, rfl, rfl⟩
  | a :: l, i => by
    obtain ⟨o, h1, h2⟩ := find_known s l (i + 1)
    by_cases h : s = a
    · subst h
      exact ⟨some (i, .bool true), by simp [pvKnown, vFind, vEqS], rfl, by simp⟩
    · have hb : (s == a) = false := by simpa using h
      refine ⟨o, ?_, ?_⟩
      · simp only [pvKnown, List.map_cons, vFind, vEqS, hb]
        exact h1
      · cases o with
        | none => simp only [List.contains_cons, hb, Bool.false_or]; exact h2
        | some p => exact ⟨h2.1, by simp only [List.contains_cons, hb, Bool.false_or]; exact h2.2⟩

theorem lookup_known {σ : St} {b v : Nat} {seen : List Str} (h : σ[b]? = some (.map v (pvKnown seen))) (s : Str) : vLookup .str (.bool false) false (.mref b) (.str s) σ = some (.bool (seen.contains s)) := by
  obtain ⟨o, h1, h2⟩ := find_known s seen 0
  simp only [vLookup, h, isKey, if_true, h1]
  cases o with
  | none =>
    rw [show seen.contains s = false from h2]
    rfl
  | some p =>
    obtain ⟨i, x⟩ := p
    obtain ⟨rfl, h3⟩ := h2
    rw [h3]
    rfl

theorem set_known {σ : St} {b v : Nat} {seen : List Str} (h : σ[b]? = some (.map v (pvKnown seen))) {s : Str} (hs : seen.contains s = false) : vMapSet .str (.mref b) (.str s) (.bool true) σ = some (σ.set b (.map (v + 1) (pvKnown (seen ++ [s])))) := by
  obtain ⟨o, h1, h2⟩ := find_known s seen 0
  cases o with
  | some p => rw [hs] at h2; exact absurd h2.2 (by simp)
  | none => simp only [vMapSet, h, isKey, if_true, h1]; simp [pvKnown]

/-- A parameter whose metanotion is not known. -/
def unkPart (names : List Str) (p : Part) : Bool := p.1 && !names.contains (metaOf p.2)
def unkL (names : List Str) (l : Sl Part) : Bool := l.2.any (unkPart names)

theorem c63 {p : Part} (hp : okS p.2) {σ : St} {c b v : Nat} {names : List Str} (hc : σ[c]? = some (.arr 0 1 [.mref b])) (hb : σ[b]? = some (.map v (pvKnown names))) : Ret W 63 [pvPart p, .ptr c 0 0 0] σ (.bool (unkPart names p)) := by
  refine ret_of fun R hR => ?_
  rw [fn63_eq]
  unfold fn63
  obtain ⟨m, t⟩ := p
  have hbox : opC.vBoxAny (.agg [.bool m, .str t]) = some (2, .agg [.bool m, .str t]) := rfl
  have hld : vLoad false 1 (.ptr c 0 0 0) σ = some (.mref b) := by simp [vLoad, hc, vPart, PV.cells?]
  simp only [pvPart, hbox, zz, Nat.reduceEqDiff]
  cases m with
  | false =>
    simp only [zz, Nat.reduceEqDiff]
    refine weakW_keep ?_
    simpa [unkPart] using hR
  | true =>
    simp only [hld, zz, Nat.reduceEqDiff]
    refine (c64 hp _).callC ?_
    simp only [lookup_known hb, zz, Nat.reduceEqDiff]
    refine weakW_keep ?_
    simpa [unkPart] using hR

theorem c61 {l : Sl Part} (hl : OkParts l) {σ : St} {c b v : Nat} {names : List Str} (hc : σ[c]? = some (.arr 0 1 [.mref b])) (hb : σ[b]? = some (.map v (pvKnown names))) : Ret W 61 [pvParts l, .ptr c 0 0 0] σ (.bool (unkL names l)) := by
  refine ret_of fun R hR => ?_
  rw [fn61_eq]
  unfold fn61
  refine (c62 encPart (unkPart names) hb63 (Nat.lt_of_le_of_lt hl.len (by decide)) fun p hp => c63 (hl.okS p hp) hc hb).callB ?_
  exact weakW_keep hR

/-! ### Check -/

/-- The first error of the metarules, some names seen. -/
def metasErr : List Meta19 → List Str → Int
  | [], _ => 0
  | m :: ms, seen => if !isMeta m.1 then 8 else if seen.contains m.1 then 5 else if m.2.2.length = 0 then 12 else if m.2.2.any (badL false) then 8 else metasErr ms (seen ++ [m.1])

def listsErr : List (Sl Part) → Int
  | [] => 0
  | l :: ls => if l.2.length = 0 then 12 else if badL true l then 8 else listsErr ls

def rulesErr : List Rule19 → Int
  | [] => 0
  | r :: rs => if listsErr (ruleAll r) = 0 then rulesErr rs else listsErr (ruleAll r)

def names (g : Gram) : List Str := g.1.2.map (·.1)

def tooLong (g : Gram) : Bool := decide ((g.1.2.length : Int) > 100) || (decide ((g.2.2.length : Int) > 500) || (g.1.2.any longM || g.2.2.any longR))

def checkG (g : Gram) : Int :=
  if tooLong g then 3
  else if metasErr g.1.2 [] = 0 then
    if rulesErr g.2.2 = 0 then
      if g.1.2.any (fun m => m.2.2.any (unkL (names g))) then 4
      else if g.2.2.any (fun r => (ruleAll r).any (unkL (names g))) then 4 else 0
    else rulesErr g.2.2
  else metasErr g.1.2 []

end Go.Proofs.YtiniifbmeobmgaaGreatDoor

/- The package's Check. -/
set_option linter.unusedVariables false
set_option linter.unusedSimpArgs false
namespace Go.Proofs.YtiniifbmeobmgaaGreatDoor
open Go Go.Abs

theorem newMapW_eq (σ : St) (K : PV → St → Prop) : newMapW σ K = K (.mref σ.length) (σ ++ [Blk.map 0 []]) := rfl

theorem new_store1 {σ : St} {z x : PV} (hx : x.cells? = some [x]) (hz : z = .nilmap ∨ z = .nilfunc) : vStore 1 (.ptr σ.length 0 0 0) x (σ ++ [.arr 0 1 [z]]) = some (σ ++ [.arr 0 1 [x]]) := by
  have hp : vPut 1 z 0 x = some x := by
    unfold vPut
    rw [hx]
    simp only [List.length_singleton, if_true]
    rcases hz with rfl | rfl <;> simp
  simp [vStore, hp]

theorem drop_cons {α : Type} {l : List α} {i : Nat} {a : α} (h : l[i]? = some a) : l.drop i = a :: l.drop (i + 1) := by
  rw [List.drop_eq_getElem_cons (List.getElem?_eq_some_iff.1 h).1, (List.getElem?_eq_some_iff.1 h).2]

theorem any_take_false {α : Type} {q : α → Bool} {l : List α} {i : Nat} {a : α} (h : (l.take i).any q = false) (ha : l[i]? = some a) (hq : q a = false) : (l.take (i + 1)).any q = false := by
  rw [List.take_add_one, ha, List.any_append, h]
  simp [hq]

theorem any_of_get {α : Type} {q : α → Bool} {l : List α} {i : Nat} {a : α} (ha : l[i]? = some a) (hq : q a = true) : l.any q = true := List.any_eq_true.2 ⟨a, List.mem_of_getElem? ha, hq⟩

theorem c15 {g : Gram} (hg : OkGram g) (σ : St) : Ret W 15 [pvGram g] σ (.int .i64 (checkG g)) := by
  refine ret_of fun R hR => ?_
  rw [fn15_eq]
  unfold fn15
  have fin : ∀ (e : Int) (σ' : St), σ <+: σ' → checkG g = e → weakW σ (.int .i64 e) σ' fun v σ => R (.ret v) σ := fun e σ' hp he => weakW_clean hp (.base _ (.int _ _)) (by rw [he] at hR; exact hR)
  obtain ⟨⟨mk, ms⟩, rk, rs⟩ := g
  have hml := hg.ml
  have hrl := hg.rl
  simp only at hml hrl
  have hbox : opC.vBoxAny (.agg [pvSl pvMeta (mk, ms), pvSl pvRule (rk, rs)]) = some (2, .agg [pvSl pvMeta (mk, ms), pvSl pvRule (rk, rs)]) := rfl
  simp only [pvGram, hbox, zz, Nat.reduceEqDiff]
  have hp1 : ∀ k (l : List PV), vPart false 1 (.list k l) 0 = some (.list k l) := fun _ _ => rfl
  simp only [pvSl, List.length_map, zz, Nat.reduceEqDiff]
  -- too long
  have notlong : (decide ((ms.length : Int) > 100) || (decide ((rs.length : Int) > 500) || (ms.any longM || rs.any longR))) = true → checkG ((mk, ms), rk, rs) = 3 := fun h => by simp only [checkG, tooLong, h, if_true]
  cases h1 : decide ((ms.length : Int) > 100) with
  | true =>
    simp only [zz, Nat.reduceEqDiff]
    exact fin 3 σ List.prefix_rfl (notlong (by simp [h1]))
  | false =>
  simp only [zz, Nat.reduceEqDiff]
  cases h2 : decide ((rs.length : Int) > 500) with
  | true =>
    simp only [zz, Nat.reduceEqDiff]
    exact fin 3 σ List.prefix_rfl (notlong (by simp [h2]))
  | false =>
  simp only [zz, Nat.reduceEqDiff]
  refine (c35 encMeta longM hb55 (Nat.lt_of_le_of_lt hml (by decide)) fun m hm => c55 (hg.metas m hm) _).callB ?_
  cases h3 : ms.any longM with
  | true =>
    simp only [zz, Nat.reduceEqDiff]
    exact fin 3 σ List.prefix_rfl (notlong (by simp [h3]))
  | false =>
  simp only [zz, Nat.reduceEqDiff]
  refine (c53 encRule longR hb56 (Nat.lt_of_le_of_lt hrl (by decide)) fun r hr => c56 (hg.rules r hr) _).callB ?_
  cases h4 : rs.any longR with
  | true =>
    simp only [zz, Nat.reduceEqDiff]
    exact fin 3 σ List.prefix_rfl (notlong (by simp [h4]))
  | false =>
  have hlong : tooLong ((mk, ms), rk, rs) = false := by simp [tooLong, h1, h2, h3, h4]
  have hch : checkG ((mk, ms), rk, rs) = if metasErr ms [] = 0 then
      if rulesErr rs = 0 then
        if ms.any (fun m => m.2.2.any (unkL (ms.map (·.1)))) then 4
        else if rs.any (fun r => (ruleAll r).any (unkL (ms.map (·.1)))) then 4 else 0
      else rulesErr rs
    else metasErr ms [] := by
    simp only [checkG, hlong, Bool.false_eq_true, if_false, names]
    rfl
  simp only [newMapW_eq, newW_eq, zz, Nat.reduceEqDiff]
  have st : vStore 1 (.ptr (σ ++ [Blk.map 0 []]).length 0 0 0) (.mref σ.length) ((σ ++ [Blk.map 0 []]) ++ [Blk.arr 0 1 [.nilmap]]) = some ((σ ++ [Blk.map 0 []]) ++ [Blk.arr 0 1 [.mref σ.length]]) := new_store1 rfl (.inl rfl)
  simp only [st, zz, Nat.reduceEqDiff]
  have hc0 : ((σ ++ [Blk.map 0 []]) ++ [Blk.arr 0 1 [.mref σ.length]])[(σ ++ [Blk.map 0 []]).length]? = some (.arr 0 1 [.mref σ.length]) := new_get _ _
  have hb0 : ((σ ++ [Blk.map 0 []]) ++ [Blk.arr 0 1 [.mref σ.length]])[σ.length]? = some (.map 0 (pvKnown [])) := by
    rw [List.getElem?_append_left (by simp), new_get]
    rfl
  have hpre0 : σ <+: (σ ++ [Blk.map 0 []]) ++ [Blk.arr 0 1 [.mref σ.length]] := pre_app ⟨_, rfl⟩ _
  have hcb : (σ ++ [Blk.map 0 []]).length ≠ σ.length := by simp
  have hbl : σ.length < ((σ ++ [Blk.map 0 []]) ++ [Blk.arr 0 1 [.mref σ.length]]).length := by simp
  generalize hcdef : (σ ++ [Blk.map 0 []]).length = c at hc0 hcb ⊢
  generalize (σ ++ [Blk.map 0 []]) ++ [Blk.arr 0 1 [.mref σ.length]] = σ0 at hc0 hb0 hpre0 hbl
  -- the metarules
  refine Lfp_up ms.length (fun i x σ' => x = lookP [(3, .ptr c 0 0 0), (37, .list mk (ms.map pvMeta)), (38, .int .i64 ms.length), (39, .int .i64 i), (1, .agg [.list mk (ms.map pvMeta), .list rk (rs.map pvRule)])] ∧ σ <+: σ' ∧ σ'[c]? = some (.arr 0 1 [.mref σ.length]) ∧
      (∃ v, σ'[σ.length]? = some (.map v (pvKnown ((ms.take i).map (·.1))))) ∧ metasErr ms [] = metasErr (ms.drop i) ((ms.take i).map (·.1))) ?_ ⟨rfl, hpre0, hc0, ⟨0, hb0⟩, rfl⟩
  rintro Φ i x σ1 hi ⟨rfl, hpre, hc, ⟨v, hb⟩, hme⟩ next
  simp only [zz, Nat.reduceEqDiff]
  by_cases hlt : i < ms.length
  · have hgi : ms[i]? = some ms[i] := by simp [hlt]
    have hmem : ms[i] ∈ ms := by simp
    generalize ms[i] = m at hgi hmem
    have hm := hg.metas m hmem
    have hput : vPut 2 (.agg [.str [], .list .nil []]) 0 (pvMeta m) = some (pvMeta m) := rfl
    rw [drop_cons hgi, metasErr] at hme
    have hld : vLoad false 1 (.ptr c 0 0 0) σ1 = some (.mref σ.length) := by simp [vLoad, hc, vPart, PV.cells?]
    simp only [hlt, encMeta.index hgi, encMeta.part, hput, zz, Nat.reduceEqDiff]
    obtain ⟨n, ak, als⟩ := m
    have hn : okS n := Nat.lt_of_le_of_lt hm.txt (by decide)
    simp only [pvMeta, zz, Nat.reduceEqDiff]
    refine (c57 hn _).callB ?_
    cases e1 : isMeta n with
    | false =>
      simp only [zz, Nat.reduceEqDiff]
      refine fin 8 _ hpre ?_
      rw [hch, hme]
      simp [e1]
    | true =>
    simp only [hld, lookup_known hb, zz, Nat.reduceEqDiff]
    cases e2 : ((ms.take i).map (·.1)).contains n with
    | true =>
      simp only [zz, Nat.reduceEqDiff]
      refine fin 5 _ hpre ?_
      rw [hch, hme]
      simp only [e1, e2]
      simp
    | false =>
    simp only [pvLists, pvSl, List.length_map, zz, Nat.reduceEqDiff]
    have hlz : (((als.length : Int) == 0) = true) ↔ als.length = 0 := by simp
    cases e3 : ((als.length : Int) == 0) with
    | true =>
      have e3' := hlz.1 e3
      simp only [zz, Nat.reduceEqDiff]
      refine fin 12 _ hpre ?_
      rw [hch, hme]
      simp only [e1, e2, e3']
      simp
    | false =>
    have e3' : ¬ als.length = 0 := fun h => by rw [hlz.2 h] at e3; cases e3
    simp only [zz, Nat.reduceEqDiff]
    refine (c51 encParts (badL false) hb58 (Nat.lt_of_le_of_lt hm.alts.len (by decide)) fun l hl => c58 (hm.alts.mem l hl) _).callB ?_
    cases e4 : als.any (badL false) with
    | true =>
      simp only [zz, Nat.reduceEqDiff]
      refine fin 8 _ hpre ?_
      rw [hch, hme]
      simp only [e1, e2, e3', e4]
      simp
    | false =>
    simp only [hld, set_known hb e2, zz, Nat.reduceEqDiff]
    rw [vBin_add _ (by omega) (by omega)]
    have hbl1 : σ.length < σ1.length := (List.getElem?_eq_some_iff.1 hb).1
    have htk : (ms.take (i + 1)).map (·.1) = (ms.take i).map (·.1) ++ [n] := by rw [List.take_add_one, hgi]; simp
    refine next _ _ hlt ⟨by simp, pre_set hpre (Nat.le_refl _) _, by rw [List.getElem?_set_ne (Ne.symm hcb)]; exact hc, ⟨v + 1, by rw [htk]; simp [hbl1]⟩, ?_⟩
    rw [hme, htk]
    simp only [e1, e2, e3', e4]
    simp
  · obtain rfl : i = ms.length := by omega
    rw [List.drop_length, metasErr] at hme
    rw [List.take_length] at hb
    rw [hme] at hch
    simp only [if_true] at hch
    simp only [hlt, pvSl, List.length_map, zz, Nat.reduceEqDiff]
    -- the rules
    refine Lfp_up rs.length (fun i x σ' => x = lookP [(3, .ptr c 0 0 0), (67, .list rk (rs.map pvRule)), (68, .int .i64 rs.length), (69, .int .i64 i), (1, .agg [.list mk (ms.map pvMeta), .list rk (rs.map pvRule)])] ∧ σ' = σ1 ∧ rulesErr rs = rulesErr (rs.drop i)) ?_ ⟨rfl, rfl, rfl⟩
    rintro Φ2 i x σ2 hi ⟨rfl, rfl, hre⟩ next2
    simp only [zz, Nat.reduceEqDiff]
    by_cases hlt : i < rs.length
    · have hgi : rs[i]? = some rs[i] := by simp [hlt]
      have hmem : rs[i] ∈ rs := by simp
      generalize rs[i] = r at hgi hmem
      have hr := hg.rules r hmem
      have hput : vPut 2 (.agg [.list .nil [], .list .nil []]) 0 (pvRule r) = some (pvRule r) := rfl
      have hpt : vPart true 2 (pvRule r) 0 = some (pvRule r) := rfl
      rw [drop_cons hgi, rulesErr] at hre
      simp only [hlt, encRule.index hgi, encRule.part, hput, hpt, zz, Nat.reduceEqDiff]
      refine (c60 hr _).callB ?_
      have hall : (ruleAll r).length ≤ 1048577 := by
        have := hr.right.len
        simp only [ruleAll, List.length_cons]
        omega
      simp only [pvLists, pvSl, allV, List.length_map, zz, Nat.reduceEqDiff]
      refine Lfp_up (ruleAll r).length (fun j x σ' => x = lookP [(3, .ptr c 0 0 0), (67, .list rk (rs.map pvRule)), (68, .int .i64 rs.length), (69, .int .i64 i), (74, .list (if r.2.2 = [] then .full else .part) ((ruleAll r).map pvParts)), (75, .int .i64 (ruleAll r).length), (76, .int .i64 j), (1, .agg [.list mk (ms.map pvMeta), .list rk (rs.map pvRule)])] ∧ σ' = σ2 ∧ listsErr (ruleAll r) = listsErr ((ruleAll r).drop j)) ?_ ⟨rfl, rfl, rfl⟩
      rintro Φ3 j x σ3 hj ⟨rfl, rfl, hle⟩ next3
      simp only [zz, Nat.reduceEqDiff]
      by_cases hjlt : j < (ruleAll r).length
      · have hgj : (ruleAll r)[j]? = some (ruleAll r)[j] := by simp [hjlt]
        have hmj : (ruleAll r)[j] ∈ ruleAll r := by simp
        generalize (ruleAll r)[j] = l at hgj hmj
        have hl : OkParts l := by
          rcases List.mem_cons.1 hmj with rfl | h
          · exact hr.left
          · exact hr.right.mem l h
        rw [drop_cons hgj, listsErr] at hle
        simp only [hjlt, encParts.index hgj, encParts.part, zz, Nat.reduceEqDiff]
        obtain ⟨lk, l⟩ := l
        simp only [pvParts, pvSl, List.length_map, zz, Nat.reduceEqDiff]
        have hlz : (((l.length : Int) == 0) = true) ↔ l.length = 0 := by simp
        cases e3 : ((l.length : Int) == 0) with
        | true =>
          have e3' := hlz.1 e3
          simp only [e3', if_true] at hle
          simp only [zz, Nat.reduceEqDiff]
          refine fin 12 _ hpre ?_
          rw [hch, hre, hle]
          simp
        | false =>
        have e3' : ¬ l.length = 0 := fun h => by rw [hlz.2 h] at e3; cases e3
        simp only [e3', if_false] at hle
        simp only [zz, Nat.reduceEqDiff]
        refine (c59 (Nat.lt_of_le_of_lt hl.len (by decide)) hl.okS).callB ?_
        have hbl' : badL true (lk, l) = l.any (badPart true) := rfl
        rw [hbl'] at hle
        cases e4 : l.any (badPart true) with
        | true =>
          rw [e4] at hle
          simp only [if_true] at hle
          simp only [zz, Nat.reduceEqDiff]
          refine fin 8 _ hpre ?_
          rw [hch, hre, hle]
          simp
        | false =>
        rw [e4] at hle
        simp only [Bool.false_eq_true, if_false] at hle
        simp only [zz, Nat.reduceEqDiff]
        rw [vBin_add _ (by omega) (by omega)]
        exact next3 _ _ hjlt ⟨by simp, rfl, hle⟩
      · obtain rfl : j = (ruleAll r).length := by omega
        rw [List.drop_length, listsErr] at hle
        rw [hle] at hre
        simp only [if_true] at hre
        simp only [hjlt, zz, Nat.reduceEqDiff]
        rw [vBin_add _ (by omega) (by omega)]
        exact next2 _ _ hlt ⟨by simp, rfl, hre⟩
    · obtain rfl : i = rs.length := by omega
      rw [List.drop_length, rulesErr] at hre
      rw [hre] at hch
      simp only [if_true] at hch
      simp only [hlt, pvSl, List.length_map, zz, Nat.reduceEqDiff]
      -- names of the metarules' alternatives
      refine Lfp_up ms.length (fun i x σ' => x = lookP [(10, .func 61 [.ptr c 0 0 0]), (90, .list mk (ms.map pvMeta)), (91, .int .i64 ms.length), (92, .int .i64 i), (1, .agg [.list mk (ms.map pvMeta), .list rk (rs.map pvRule)])] ∧ σ' = σ2 ∧ (ms.take i).any (fun m => m.2.2.any (unkL (ms.map (·.1)))) = false) ?_ ⟨rfl, rfl, rfl⟩
      rintro Φ4 i x σ4 hi ⟨rfl, rfl, hno⟩ next4
      simp only [zz, Nat.reduceEqDiff]
      by_cases hlt : i < ms.length
      · have hgi : ms[i]? = some ms[i] := by simp [hlt]
        have hmem : ms[i] ∈ ms := by simp
        generalize ms[i] = m at hgi hmem
        have hm := hg.metas m hmem
        have hput : vPut 2 (.agg [.str [], .list .nil []]) 0 (pvMeta m) = some (pvMeta m) := rfl
        simp only [hlt, encMeta.index hgi, encMeta.part, hput, zz, Nat.reduceEqDiff]
        obtain ⟨n, ak, als⟩ := m
        simp only [pvMeta, pvLists, pvSl, zz, Nat.reduceEqDiff]
        refine (c51 encParts (unkL (ms.map (·.1))) hb61 (Nat.lt_of_le_of_lt hm.alts.len (by decide)) fun l hl => c61 (hm.alts.mem l hl) hc hb).callB ?_
        cases e4 : als.any (unkL (ms.map (·.1))) with
        | true =>
          simp only [zz, Nat.reduceEqDiff]
          refine fin 4 _ hpre ?_
          rw [hch, if_pos]
          exact any_of_get hgi e4
        | false =>
        simp only [zz, Nat.reduceEqDiff]
        rw [vBin_add _ (by omega) (by omega)]
        exact next4 _ _ hlt ⟨by simp, rfl, any_take_false hno hgi e4⟩
      · obtain rfl : i = ms.length := by omega
        rw [List.take_length] at hno
        rw [hno] at hch
        simp only [Bool.false_eq_true, if_false] at hch
        simp only [hlt, pvSl, List.length_map, zz, Nat.reduceEqDiff]
        -- names of the rules
        refine Lfp_up rs.length (fun i x σ' => x = lookP [(10, .func 61 [.ptr c 0 0 0]), (102, .list rk (rs.map pvRule)), (103, .int .i64 rs.length), (104, .int .i64 i)] ∧ σ' = σ4 ∧ (rs.take i).any (fun r => (ruleAll r).any (unkL (ms.map (·.1)))) = false) ?_ ⟨rfl, rfl, rfl⟩
        rintro Φ5 i x σ5 hi ⟨rfl, rfl, hno5⟩ next5
        simp only [zz, Nat.reduceEqDiff]
        by_cases hlt : i < rs.length
        · have hgi : rs[i]? = some rs[i] := by simp [hlt]
          have hmem : rs[i] ∈ rs := by simp
          generalize rs[i] = r at hgi hmem
          have hr := hg.rules r hmem
          have hput : vPut 2 (.agg [.list .nil [], .list .nil []]) 0 (pvRule r) = some (pvRule r) := rfl
          have hpt : vPart true 2 (pvRule r) 0 = some (pvRule r) := rfl
          simp only [hlt, encRule.index hgi, encRule.part, hput, hpt, zz, Nat.reduceEqDiff]
          refine (c60 hr _).callB ?_
          have hall : (ruleAll r).length ≤ 1048577 := by
            have := hr.right.len
            simp only [ruleAll, List.length_cons]
            omega
          simp only [pvLists, pvSl, allV, zz, Nat.reduceEqDiff]
          refine (c51 encParts (unkL (ms.map (·.1))) hb61 (by omega) fun l hl => c61 (by
            rcases List.mem_cons.1 hl with rfl | h
            · exact hr.left
            · exact hr.right.mem l h) hc hb).callB ?_
          cases e4 : (ruleAll r).any (unkL (ms.map (·.1))) with
          | true =>
            simp only [zz, Nat.reduceEqDiff]
            refine fin 4 _ hpre ?_
            rw [hch, if_pos]
            exact any_of_get hgi e4
          | false =>
          simp only [zz, Nat.reduceEqDiff]
          rw [vBin_add _ (by omega) (by omega)]
          exact next5 _ _ hlt ⟨by simp, rfl, any_take_false hno5 hgi e4⟩
        · obtain rfl : i = rs.length := by omega
          rw [List.take_length] at hno5
          simp only [hlt, zz, Nat.reduceEqDiff]
          refine fin 0 _ hpre ?_
          rw [hch, hno5]
          simp

end Go.Proofs.YtiniifbmeobmgaaGreatDoor

