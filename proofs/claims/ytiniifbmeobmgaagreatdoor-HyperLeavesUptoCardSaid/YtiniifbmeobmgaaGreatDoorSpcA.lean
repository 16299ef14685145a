/- What the small functions on texts answer. -/
import Derived.Test.YtiniifbmeobmgaaGreatDoorFnA
import Derived.Test.YtiniifbmeobmgaaGreatDoorAbsF
import Derived.Test.YtiniifbmeobmgaaGreatDoorAbsZ
set_option linter.unusedVariables false
set_option linter.unusedSimpArgs false
namespace Go.Proofs.YtiniifbmeobmgaaGreatDoor
open Go Go.Abs

abbrev W : CallP := callW Tryz.prog annF

theorem ret_of {f : FuncId} {args : List PV} {σ : St} {v : PV} (h : ∀ R : Res → St → Prop, R (.ret v) σ → bodyC (algP W) Tryz.prog annF f args σ R) : Ret W f args σ v := fun R hR => callW_fold (h R hR)

def inR (a b : Int) (s : List UInt8) : Bool := s.all fun c => decide (a ≤ (c.toNat : Int)) && decide ((c.toNat : Int) ≤ b)
def within (a b : Int) (s : List UInt8) : Bool := inR a b s && (decide (1 ≤ s.length) && decide (s.length ≤ 40))

theorem inR_take {a b : Int} {s : List UInt8} {i : Nat} {c : UInt8} (h : inR a b (s.take i) = true) (hc : s[i]? = some c) : inR a b (s.take (i + 1)) = (decide (a ≤ (c.toNat : Int)) && decide ((c.toNat : Int) ≤ b)) := by
  unfold inR at *
  rw [List.take_add_one, hc, List.all_append, h]
  simp

theorem inR_false {a b : Int} {s : List UInt8} {i : Nat} (h : inR a b (s.take i) = false) : inR a b s = false := by
  unfold inR at *
  rw [← List.take_append_drop i s, List.all_append, h]
  rfl

theorem c123 {s : List UInt8} (hs : s.length < 4611686018427387904) (a b : Int) (σ : St) : Ret W 123 [.str s, .int .u8 a, .int .u8 b] σ (.bool (within a b s)) := by
  refine ret_of fun R hR => ?_
  rw [fn123_eq]
  unfold fn123
  simp only [zY, zA]
  refine Lfp_up s.length (fun i x σ' => x = lookP [(0, .str s), (1, .int .u8 a), (2, .int .u8 b), (9, .int .i64 s.length), (10, .int .i64 i)] ∧ σ' = σ ∧ inR a b (s.take i) = true) ?_ ⟨rfl, rfl, rfl⟩
  rintro Φ i x σ' hi ⟨rfl, rfl, hp⟩ next
  simp only [zK, Nat.reduceEqDiff, if_true, if_false, zQ, zA, Int.ofNat_lt]
  by_cases hlt : i < s.length
  · have hc : s[i]? = some s[i] := by simp [hlt]
    have htk := inR_take hp hc
    simp only [hlt, decide_true, zD, vStrAt_nat _ hc, zA, zQ, zS]
    generalize s[i] = c at hc htk
    by_cases h1 : (c.toNat : Int) < a
    · have : inR a b s = false := inR_false (i := i + 1) (by rw [htk]; simp; omega)
      simp only [h1, decide_true, zH, pv_v, zM, zA, zD]
      refine weakW_keep ?_
      simpa [within, this] using hR
    · by_cases h2 : (c.toNat : Int) > b
      · have : inR a b s = false := inR_false (i := i + 1) (by rw [htk]; simp; omega)
        simp only [h1, h2, decide_true, decide_false, zG, zL, Nat.reduceEqDiff, if_true, if_false, pv_v, zN, zA, zD]
        refine weakW_keep ?_
        simpa [within, this] using hR
      · simp only [h1, h2, decide_true, decide_false, zG, zL, Nat.reduceEqDiff, if_true, if_false, pv_v, zN, zA, zE]
        rw [vBin_add _ (by omega) (by omega)]
        refine next _ _ hlt ⟨?_, rfl, by rw [htk]; simp; omega⟩
        simp
  · obtain rfl : i = s.length := by omega
    rw [List.take_length] at hp
    simp only [hlt, decide_false, zE, zY, zA, zT, zR]
    by_cases h1 : (s.length : Int) ≥ 1
    · simp only [h1, decide_true, zF, zL, Nat.reduceEqDiff, if_true, if_false, pv_v, zM, zA]
      refine weakW_keep ?_
      have e1 : 1 ≤ s.length := by omega
      have e2 : decide (s.length ≤ 40) = decide ((s.length : Int) ≤ 40) := decide_eq_decide.2 (by omega)
      simpa [within, hp, e1, e2] using hR
    · simp only [h1, decide_false, zI, pv_v, zN, zA]
      refine weakW_keep ?_
      have e1 : ¬ 1 ≤ s.length := by omega
      simpa [within, hp, e1] using hR

end Go.Proofs.YtiniifbmeobmgaaGreatDoor

/- IndexFunc and ContainsFunc at several types (printed by wip/tools/SpecB.py). -/
set_option linter.unusedVariables false
set_option linter.unusedSimpArgs false
namespace Go.Proofs.YtiniifbmeobmgaaGreatDoor
open Go Go.Abs

def hasBodyP (P : Program) (f : FuncId) : Bool := match P.funcs[f]? with
  | some fn => fn.body.isSome
  | none => false

noncomputable abbrev hasBody (f : FuncId) : Bool := hasBodyP Tryz.prog f

theorem callG_func {f : FuncId} (h : hasBody f = true) (caps args : List PV) (σ : St) (K X : PV → St → Prop) : callG (algP W) Tryz.prog false (.func f caps) args σ K X = callB W f (args ++ caps) σ K X := by
  unfold hasBody hasBodyP at h
  unfold callG
  simp only
  cases hf : Tryz.prog.funcs[f]? with
  | none => simp [hf] at h
  | some fn =>
    rw [hf] at h
    simp only at h ⊢
    cases hb : fn.body with
    | none => simp [hb] at h
    | some c => rfl

def idxOf {α : Type} (p : α → Bool) : List α → Nat → Int
  | [], _ => -1
  | a :: l, i => if p a then i else idxOf p l (i + 1)

theorem idxOf_hit {α : Type} {p : α → Bool} : ∀ {l : List α} {i n : Nat} {a : α}, l[i]? = some a → p a = true → (l.take i).all (fun a => !p a) = true → idxOf p l n = ((n + i : Nat) : Int)
  | b :: l, 0, n, a, h, hp, hn => by
    simp at h
    subst h
    simp [idxOf, hp]
  | b :: l, i + 1, n, a, h, hp, hn => by
    simp only [List.take_succ_cons, List.all_cons, Bool.and_eq_true, Bool.not_eq_true'] at hn
    have := idxOf_hit (l := l) (n := n + 1) (by simpa using h) hp hn.2
    simp only [idxOf, hn.1, Bool.false_eq_true, if_false, this]
    omega

theorem idxOf_none {α : Type} {p : α → Bool} : ∀ {l : List α} {n : Nat}, l.all (fun a => !p a) = true → idxOf p l n = -1
  | [], n, h => rfl
  | b :: l, n, h => by
    simp only [List.all_cons, Bool.and_eq_true, Bool.not_eq_true'] at h
    simp only [idxOf, h.1, Bool.false_eq_true, if_false, idxOf_none h.2]

theorem idxOf_ge {α : Type} {p : α → Bool} : ∀ (l : List α) (n : Nat), decide (idxOf p l n ≥ 0) = l.any p
  | [], n => rfl
  | b :: l, n => by
    simp only [idxOf, List.any_cons]
    by_cases hb : p b = true
    · simp [hb]
    · simp only [hb, Bool.false_or, if_false]
      exact idxOf_ge l (n + 1)

/-- How the members of a slice are laid out. -/
structure EncOk {α : Type} (enc : α → PV) (ag : Bool) (sz : Nat) : Prop where
  cells : ∀ a, ∃ cs, (enc a).cells? = some cs ∧ cs.length = sz
  part : ∀ a, vPart ag sz (enc a) 0 = some (enc a)

theorem EncOk.index {α : Type} {enc : α → PV} {ag : Bool} {sz : Nat} (h : EncOk enc ag sz) {l : List α} {i : Nat} {a : α} (ha : l[i]? = some a) {lk : LK} {k : IntKind} : vIndex sz (.list lk (l.map enc)) (.int k i) = some (.eptr (enc a) 0) := by
  obtain ⟨cs, h1, h2⟩ := h.cells a
  exact vIndex_list k (by rw [List.getElem?_map, ha]; rfl) h1 h2

theorem all_take_succ {α : Type} {q : α → Bool} {l : List α} {i : Nat} {a : α} (h : (l.take i).all q = true) (ha : l[i]? = some a) (hq : q a = true) : (l.take (i + 1)).all q = true := by
  rw [List.take_add_one, ha, List.all_append, h]
  simp [hq]

theorem c127 {α : Type} {enc : α → PV} (E : EncOk enc true 2) {l : List α} (p : α → Bool) {lk : LK} {f : FuncId} {caps : List PV} {σ : St} (hf : hasBody f = true) (hl : l.length < 4611686018427387904) (h : ∀ a ∈ l, Ret W f (enc a :: caps) σ (.bool (p a))) :
    Ret W 127 [.list lk (l.map enc), .func f caps] σ (.int .i64 (idxOf p l 0)) := by
  refine ret_of fun R hR => ?_
  rw [fn127_eq]
  unfold fn127
  simp only [zZ, zA, List.length_map]
  refine Lfp_up l.length (fun i x σ' => x = lookP [(0, .list lk (l.map enc)), (1, .func f caps), (7, .int .i64 l.length), (8, .int .i64 i)] ∧ σ' = σ ∧ (l.take i).all (fun a => !p a) = true) ?_ ⟨rfl, rfl, rfl⟩
  rintro Φ i x σ' hi ⟨rfl, rfl, hp⟩ next
  simp only [zK, Nat.reduceEqDiff, if_true, if_false, zQ, zA, Int.ofNat_lt]
  by_cases hlt : i < l.length
  · have hc : l[i]? = some l[i] := by simp [hlt]
    have hmem : l[i] ∈ l := by simp
    simp only [hlt, decide_true, zD, E.index hc, zA, yB, E.part, callG_func hf, List.cons_append, List.nil_append]
    refine (h _ hmem).callB ?_
    generalize l[i] = a at hc
    cases hpa : p a with
    | true =>
      simp only [zD]
      refine weakW_keep ?_
      rw [idxOf_hit hc hpa hp] at hR
      simpa using hR
    | false =>
      simp only [zE]
      rw [vBin_add _ (by omega) (by omega)]
      exact next _ _ hlt ⟨by simp, rfl, all_take_succ hp hc (by simp [hpa])⟩
  · obtain rfl : i = l.length := by omega
    rw [List.take_length] at hp
    simp only [hlt, decide_false, zE]
    refine weakW_keep ?_
    rw [idxOf_none hp] at hR
    exact hR

theorem c62 {α : Type} {enc : α → PV} (E : EncOk enc true 2) {l : List α} (p : α → Bool) {lk : LK} {f : FuncId} {caps : List PV} {σ : St} (hf : hasBody f = true) (hl : l.length < 4611686018427387904) (h : ∀ a ∈ l, Ret W f (enc a :: caps) σ (.bool (p a))) :
    Ret W 62 [.list lk (l.map enc), .func f caps] σ (.bool (l.any p)) := by
  refine ret_of fun R hR => ?_
  rw [fn62_eq]
  unfold fn62
  refine (c127 E p hf hl h).callB ?_
  simp only [zT, zA, idxOf_ge]
  exact weakW_keep hR

theorem c96 {α : Type} {enc : α → PV} (E : EncOk enc true 2) {l : List α} (p : α → Bool) {lk : LK} {f : FuncId} {caps : List PV} {σ : St} (hf : hasBody f = true) (hl : l.length < 4611686018427387904) (h : ∀ a ∈ l, Ret W f (enc a :: caps) σ (.bool (p a))) :
    Ret W 96 [.list lk (l.map enc), .func f caps] σ (.int .i64 (idxOf p l 0)) := by
  refine ret_of fun R hR => ?_
  rw [fn96_eq]
  unfold fn96
  simp only [zZ, zA, List.length_map]
  refine Lfp_up l.length (fun i x σ' => x = lookP [(0, .list lk (l.map enc)), (1, .func f caps), (7, .int .i64 l.length), (8, .int .i64 i)] ∧ σ' = σ ∧ (l.take i).all (fun a => !p a) = true) ?_ ⟨rfl, rfl, rfl⟩
  rintro Φ i x σ' hi ⟨rfl, rfl, hp⟩ next
  simp only [zK, Nat.reduceEqDiff, if_true, if_false, zQ, zA, Int.ofNat_lt]
  by_cases hlt : i < l.length
  · have hc : l[i]? = some l[i] := by simp [hlt]
    have hmem : l[i] ∈ l := by simp
    simp only [hlt, decide_true, zD, E.index hc, zA, yB, E.part, callG_func hf, List.cons_append, List.nil_append]
    refine (h _ hmem).callB ?_
    generalize l[i] = a at hc
    cases hpa : p a with
    | true =>
      simp only [zD]
      refine weakW_keep ?_
      rw [idxOf_hit hc hpa hp] at hR
      simpa using hR
    | false =>
      simp only [zE]
      rw [vBin_add _ (by omega) (by omega)]
      exact next _ _ hlt ⟨by simp, rfl, all_take_succ hp hc (by simp [hpa])⟩
  · obtain rfl : i = l.length := by omega
    rw [List.take_length] at hp
    simp only [hlt, decide_false, zE]
    refine weakW_keep ?_
    rw [idxOf_none hp] at hR
    exact hR

theorem c166 {α : Type} {enc : α → PV} (E : EncOk enc false 1) {l : List α} (p : α → Bool) {lk : LK} {f : FuncId} {caps : List PV} {σ : St} (hf : hasBody f = true) (hl : l.length < 4611686018427387904) (h : ∀ a ∈ l, Ret W f (enc a :: caps) σ (.bool (p a))) :
    Ret W 166 [.list lk (l.map enc), .func f caps] σ (.int .i64 (idxOf p l 0)) := by
  refine ret_of fun R hR => ?_
  rw [fn166_eq]
  unfold fn166
  simp only [zZ, zA, List.length_map]
  refine Lfp_up l.length (fun i x σ' => x = lookP [(0, .list lk (l.map enc)), (1, .func f caps), (7, .int .i64 l.length), (8, .int .i64 i)] ∧ σ' = σ ∧ (l.take i).all (fun a => !p a) = true) ?_ ⟨rfl, rfl, rfl⟩
  rintro Φ i x σ' hi ⟨rfl, rfl, hp⟩ next
  simp only [zK, Nat.reduceEqDiff, if_true, if_false, zQ, zA, Int.ofNat_lt]
  by_cases hlt : i < l.length
  · have hc : l[i]? = some l[i] := by simp [hlt]
    have hmem : l[i] ∈ l := by simp
    simp only [hlt, decide_true, zD, E.index hc, zA, yB, E.part, callG_func hf, List.cons_append, List.nil_append]
    refine (h _ hmem).callB ?_
    generalize l[i] = a at hc
    cases hpa : p a with
    | true =>
      simp only [zD]
      refine weakW_keep ?_
      rw [idxOf_hit hc hpa hp] at hR
      simpa using hR
    | false =>
      simp only [zE]
      rw [vBin_add _ (by omega) (by omega)]
      exact next _ _ hlt ⟨by simp, rfl, all_take_succ hp hc (by simp [hpa])⟩
  · obtain rfl : i = l.length := by omega
    rw [List.take_length] at hp
    simp only [hlt, decide_false, zE]
    refine weakW_keep ?_
    rw [idxOf_none hp] at hR
    exact hR

theorem c132 {α : Type} {enc : α → PV} (E : EncOk enc false 1) {l : List α} (p : α → Bool) {lk : LK} {f : FuncId} {caps : List PV} {σ : St} (hf : hasBody f = true) (hl : l.length < 4611686018427387904) (h : ∀ a ∈ l, Ret W f (enc a :: caps) σ (.bool (p a))) :
    Ret W 132 [.list lk (l.map enc), .func f caps] σ (.bool (l.any p)) := by
  refine ret_of fun R hR => ?_
  rw [fn132_eq]
  unfold fn132
  refine (c166 E p hf hl h).callB ?_
  simp only [zT, zA, idxOf_ge]
  exact weakW_keep hR

end Go.Proofs.YtiniifbmeobmgaaGreatDoor

/- What the functions on words, metanotions and parts answer. -/
set_option linter.unusedVariables false
set_option linter.unusedSimpArgs false
namespace Go.Proofs.YtiniifbmeobmgaaGreatDoor
open Go Go.Abs

abbrev Str := List UInt8
def isWord (s : Str) : Bool := within 97 122 s
def isMeta (s : Str) : Bool := !(s == [69, 77, 80, 84, 89]) && within 65 90 s
/-- A digit ends the text. -/
def digitEnd (s : Str) : Bool := match s.getLast? with
  | some c => decide ((c.toNat : Int) ≥ 49) && decide ((c.toNat : Int) ≤ 57)
  | none => false
def metaOf (s : Str) : Str := if digitEnd s then s.dropLast else s
def isParam (s : Str) : Bool := isMeta (metaOf s)

theorem c125 {s : Str} (hs : s.length < 4611686018427387904) (σ : St) : Ret W 125 [.str s] σ (.bool (isWord s)) := by
  refine ret_of fun R hR => ?_
  rw [fn125_eq]
  unfold fn125
  refine (c123 hs _ _ _).callB ?_
  exact weakW_keep hR

theorem c57 {s : Str} (hs : s.length < 4611686018427387904) (σ : St) : Ret W 57 [.str s] σ (.bool (isMeta s)) := by
  refine ret_of fun R hR => ?_
  rw [fn57_eq]
  unfold fn57
  simp only [zz, Nat.reduceEqDiff]
  cases he : (s == [69, 77, 80, 84, 89]) with
  | true =>
    simp only [zz, Nat.reduceEqDiff]
    refine weakW_keep ?_
    simpa [isMeta, he] using hR
  | false =>
    simp only [zz, Nat.reduceEqDiff]
    refine (c123 hs _ _ _).callB ?_
    refine weakW_keep ?_
    simpa [isMeta, he] using hR

theorem getLast_at {s : Str} {c : UInt8} (h : s.getLast? = some c) : s ≠ [] ∧ s[s.length - 1]? = some c := by
  cases s with
  | nil => simp at h
  | cons a l =>
    refine ⟨by simp, ?_⟩
    rw [List.getLast?_eq_getElem?] at h
    exact h

theorem take_dropLast (s : Str) : vSubStr (.str s) none (some (.int .i64 ((s.length - 1 : Nat) : Int))) = some (.str s.dropLast) := by
  simp [vSubStr, bound, List.dropLast_eq_take]

theorem c64 {s : Str} (hs : s.length < 4611686018427387904) (σ : St) : Ret W 64 [.str s] σ (.str (metaOf s)) := by
  refine ret_of fun R hR => ?_
  rw [fn64_eq]
  unfold fn64
  simp only [zz, Nat.reduceEqDiff]
  cases hl : s.getLast? with
  | none =>
    have : s = [] := by simpa using hl
    subst this
    simp only [List.length_nil, zz, Nat.reduceEqDiff]
    exact weakW_keep hR
  | some c =>
    obtain ⟨hne, hc⟩ := getLast_at hl
    have hpos : 0 < s.length := List.length_pos_iff.2 hne
    have h1 : (s.length : Int) > 0 := by omega
    have h2 : ((s.length : Int) - 1) = ((s.length - 1 : Nat) : Int) := by omega
    simp only [h1, zz, Nat.reduceEqDiff]
    rw [vBin_sub _ (by omega) (by omega), h2]
    simp only [vStrAt_nat _ hc, zz, Nat.reduceEqDiff]
    have hm : metaOf s = if decide ((c.toNat : Int) ≥ 49) && decide ((c.toNat : Int) ≤ 57) then s.dropLast else s := by
      unfold metaOf digitEnd
      rw [hl]
    rw [hm] at hR
    cases h3 : decide ((c.toNat : Int) ≥ 49) with
    | false =>
      simp only [zz, Nat.reduceEqDiff]
      refine weakW_keep ?_
      simpa [h3] using hR
    | true =>
      simp only [vStrAt_nat _ hc, zz, Nat.reduceEqDiff]
      cases h4 : decide ((c.toNat : Int) ≤ 57) with
      | false =>
        simp only [zz, Nat.reduceEqDiff]
        refine weakW_keep ?_
        simpa [h3, h4] using hR
      | true =>
        simp only [take_dropLast, zz, Nat.reduceEqDiff]
        refine weakW_keep ?_
        simpa [h3, h4] using hR

theorem metaOf_len (s : Str) : (metaOf s).length ≤ s.length := by
  unfold metaOf
  split
  · simp
  · exact Nat.le_refl _

theorem c126 {s : Str} (hs : s.length < 4611686018427387904) (σ : St) : Ret W 126 [.str s] σ (.bool (isParam s)) := by
  refine ret_of fun R hR => ?_
  rw [fn126_eq]
  unfold fn126
  refine (c64 hs _).callB ?_
  refine (c57 (Nat.lt_of_le_of_lt (metaOf_len s) hs) _).callB ?_
  exact weakW_keep hR

/-! ### The reference's -/

theorem c128 {s : Str} (hs : s.length < 4611686018427387904) (a b : Int) (σ : St) : Ret W 128 [.str s, .int .u8 a, .int .u8 b] σ (.bool (within a b s)) := by
  refine ret_of fun R hR => ?_
  rw [fn128_eq]
  unfold fn128
  refine CutW_of ?_
  refine Lfp_up s.length (fun i x σ' => x = lookP [(0, .str s), (1, .int .u8 a), (2, .int .u8 b), (7, .int .i64 i)] ∧ σ' = σ ∧ inR a b (s.take i) = true) ?_ ⟨rfl, rfl, rfl⟩
  rintro Φ i x σ' hi ⟨rfl, rfl, hp⟩ next
  simp only [zz, Nat.reduceEqDiff]
  by_cases hlt : i < s.length
  · have hc : s[i]? = some s[i] := by simp [hlt]
    have htk := inR_take hp hc
    simp only [hlt, vStrAt_nat _ hc, zz, Nat.reduceEqDiff]
    generalize s[i] = c at hc htk
    by_cases h1 : (c.toNat : Int) < a
    · have : inR a b s = false := inR_false (i := i + 1) (by rw [htk]; simp; omega)
      simp only [h1, zz, Nat.reduceEqDiff]
      refine weakW_keep ?_
      simpa [within, this] using hR
    · by_cases h2 : (c.toNat : Int) > b
      · have : inR a b s = false := inR_false (i := i + 1) (by rw [htk]; simp; omega)
        simp only [h1, h2, zz, Nat.reduceEqDiff]
        refine weakW_keep ?_
        simpa [within, this] using hR
      · simp only [h1, h2, zz, Nat.reduceEqDiff]
        rw [vBin_add _ (by omega) (by omega)]
        refine next _ _ hlt ⟨?_, rfl, by rw [htk]; simp; omega⟩
        simp
  · obtain rfl : i = s.length := by omega
    rw [List.take_length] at hp
    simp only [hlt, zz, Nat.reduceEqDiff]
    by_cases h1 : (s.length : Int) ≥ 1
    · simp only [h1, zz, Nat.reduceEqDiff]
      refine weakW_keep ?_
      have e1 : 1 ≤ s.length := by omega
      have e2 : decide (s.length ≤ 40) = decide ((s.length : Int) ≤ 40) := decide_eq_decide.2 (by omega)
      simpa [within, hp, e1, e2] using hR
    · simp only [h1, zz, Nat.reduceEqDiff]
      refine weakW_keep ?_
      have e1 : ¬ 1 ≤ s.length := by omega
      simpa [within, hp, e1] using hR

theorem c130 {s : Str} (hs : s.length < 4611686018427387904) (σ : St) : Ret W 130 [.str s] σ (.bool (isWord s)) := by
  refine ret_of fun R hR => ?_
  rw [fn130_eq]
  unfold fn130
  refine (c128 hs _ _ _).callB ?_
  exact weakW_keep hR

theorem c66 {s : Str} (hs : s.length < 4611686018427387904) (σ : St) : Ret W 66 [.str s] σ (.bool (isMeta s)) := by
  refine ret_of fun R hR => ?_
  rw [fn66_eq]
  unfold fn66
  refine (c128 hs _ _ _).callB ?_
  cases hw : within 65 90 s with
  | true =>
    simp only [zz, Nat.reduceEqDiff]
    refine weakW_keep ?_
    simpa [isMeta, hw] using hR
  | false =>
    simp only [zz, Nat.reduceEqDiff]
    refine weakW_keep ?_
    simpa [isMeta, hw] using hR

/-- The metanotion of a parameter, as the reference has it: none: the empty text. -/
def base (s : Str) : Str := if isMeta (if decide (1 < s.length) && digitEnd s then s.dropLast else s) then (if decide (1 < s.length) && digitEnd s then s.dropLast else s) else []

theorem c129 {s : Str} (hs : s.length < 4611686018427387904) (σ : St) : Ret W 129 [.str s] σ (.str (base s)) := by
  refine ret_of fun R hR => ?_
  rw [fn129_eq]
  unfold fn129
  refine CutW_by (fun x σ' => x 0 = .str (if decide (1 < s.length) && digitEnd s then s.dropLast else s) ∧ σ' = σ) ?_ ?_
  · rintro x σ' ⟨hx, rfl⟩
    rw [hx]
    have hle : (if decide (1 < s.length) && digitEnd s then s.dropLast else s).length < 4611686018427387904 := by
      split
      · simp; omega
      · exact hs
    unfold base at hR
    generalize (if decide (1 < s.length) && digitEnd s then s.dropLast else s) = t at hR hle
    refine (c66 hle _).callB ?_
    cases hm : isMeta t with
    | true =>
      simp only [zz, Nat.reduceEqDiff]
      refine weakW_keep ?_
      simpa [hm] using hR
    | false =>
      simp only [zz, Nat.reduceEqDiff]
      refine weakW_keep ?_
      simpa [hm] using hR
  · simp only [zz, Nat.reduceEqDiff]
    rw [vBin_sub _ (by omega) (by omega)]
    simp only [zz, Nat.reduceEqDiff]
    by_cases h1 : ((s.length : Int) - 1) > 0
    · have h2 : ((s.length : Int) - 1) = ((s.length - 1 : Nat) : Int) := by omega
      have e1 : 1 < s.length := by omega
      simp only [h1, zz, Nat.reduceEqDiff]
      rw [h2]
      have hc : s[s.length - 1]? = some (s[s.length - 1]'(by omega)) := by simp [show s.length - 1 < s.length by omega]
      have hl : s.getLast? = some (s[s.length - 1]'(by omega)) := by rw [List.getLast?_eq_getElem?]; exact hc
      generalize s[s.length - 1]'(by omega) = c at hc hl
      have hd : digitEnd s = (decide ((c.toNat : Int) ≥ 49) && decide ((c.toNat : Int) ≤ 57)) := by unfold digitEnd; rw [hl]
      simp only [vStrAt_nat _ hc, hd, e1, zz, Nat.reduceEqDiff]
      cases h3 : decide ((c.toNat : Int) ≥ 49) with
      | false => simp [zz, Nat.reduceEqDiff]
      | true =>
        simp only [vStrAt_nat _ hc, zz, Nat.reduceEqDiff]
        cases h4 : decide ((c.toNat : Int) ≤ 57) with
        | false => simp [zz, Nat.reduceEqDiff]
        | true =>
          simp only [take_dropLast, zz, Nat.reduceEqDiff]
          simp
    · have e1 : ¬ 1 < s.length := by omega
      simp only [h1, e1, zz, Nat.reduceEqDiff]
      simp

end Go.Proofs.YtiniifbmeobmgaaGreatDoor

/- What the functions on parts, binds and lists of words answer. -/
set_option linter.unusedVariables false
set_option linter.unusedSimpArgs false
namespace Go.Proofs.YtiniifbmeobmgaaGreatDoor
open Go Go.Abs

abbrev Part := Bool × Str
abbrev Bind := Str × Str
def pvPart (p : Part) : PV := .agg [.bool p.1, .str p.2]
def pvBind (b : Bind) : PV := .agg [.str b.1, .str b.2]

/-- A text that is no longer than texts may be. -/
abbrev okS (s : Str) : Prop := s.length < 4611686018427387904

theorem encPart : EncOk pvPart true 2 := ⟨fun p => ⟨_, rfl, rfl⟩, fun p => rfl⟩
theorem encBind : EncOk pvBind true 2 := ⟨fun p => ⟨_, rfl, rfl⟩, fun p => rfl⟩
theorem encStr : EncOk PV.str false 1 := ⟨fun p => ⟨_, rfl, rfl⟩, fun p => rfl⟩
theorem sizedPart (p : Part) : Sized 2 (pvPart p) := ⟨_, rfl, rfl⟩
theorem sizedBind (p : Bind) : Sized 2 (pvBind p) := ⟨_, rfl, rfl⟩
theorem sizedStr (p : Str) : Sized 1 (.str p) := ⟨_, rfl, rfl⟩
theorem underPart (n : Nat) (p : Part) : Under n (pvPart p) := .agg _ fun i x h => by
  match i with
  | 0 => simp at h; subst h; exact .bool _
  | 1 => simp at h; subst h; exact .str _
  | i + 2 => simp at h
/-! ### Wrong parts -/

def badPart (d : Bool) (p : Part) : Bool := !p.1 && !isWord p.2 || p.1 && !isMeta p.2 && (!d || !isParam p.2)

theorem c124 {p : Part} (hs : okS p.2) {σ : St} {b : Nat} {d : Bool} (hb : σ[b]? = some (.arr 0 1 [.bool d])) : Ret W 124 [pvPart p, .ptr b 0 0 0] σ (.bool (badPart d p)) := by
  obtain ⟨m, t⟩ := p
  have hs : okS t := hs
  refine ret_of fun R hR => ?_
  rw [fn124_eq]
  unfold fn124
  have hbox : opC.vBoxAny (.agg [.bool m, .str t]) = some (2, .agg [.bool m, .str t]) := rfl
  have hld : vLoad false 1 (.ptr b 0 0 0) σ = some (.bool d) := by simp [vLoad, hb, vPart, PV.cells?]
  simp only [pvPart, hbox, zz, Nat.reduceEqDiff]
  cases m with
  | false =>
    simp only [zz, Nat.reduceEqDiff]
    refine (c125 hs _).callB ?_
    cases hw : isWord t with
    | true =>
      try simp only [zz, Nat.reduceEqDiff]
      refine weakW_keep ?_
      simpa [badPart, hw] using hR
    | false =>
      try simp only [zz, Nat.reduceEqDiff]
      refine weakW_keep ?_
      simpa [badPart, hw] using hR
  | true =>
    simp only [zz, Nat.reduceEqDiff]
    refine (c57 hs _).callB ?_
    cases hm : isMeta t with
    | true =>
      try simp only [zz, Nat.reduceEqDiff]
      refine weakW_keep ?_
      simpa [badPart, hm] using hR
    | false =>
      simp only [hld, zz, Nat.reduceEqDiff]
      cases d with
      | false =>
        try simp only [zz, Nat.reduceEqDiff]
        refine weakW_keep ?_
        simpa [badPart, hm] using hR
      | true =>
        simp only [zz, Nat.reduceEqDiff]
        refine (c126 hs _).callB ?_
        try simp only [zz, Nat.reduceEqDiff]
        refine weakW_keep ?_
        simpa [badPart, hm] using hR

theorem hb124 : hasBody 124 = true := by kernel_rfl
theorem hb97 : hasBody 97 = true := by kernel_rfl
theorem hb133 : hasBody 133 = true := by kernel_rfl

theorem c59 {l : List Part} (hl : l.length < 4611686018427387904) (hs : ∀ p ∈ l, okS p.2) {lk : LK} {d : Bool} {σ : St} : Ret W 59 [.list lk (l.map pvPart), .bool d] σ (.bool (!l.any (badPart d))) := by
  refine ret_of fun R hR => ?_
  rw [fn59_eq]
  unfold fn59
  have hbox : opC.vBoxAny (.bool d) = some (1, .bool d) := rfl
  simp only [hbox, zz, Nat.reduceEqDiff]
  rw [if_pos (by decide), newW_eq]
  refine (c62 encPart (badPart d) hb124 hl fun p hp => c124 (hs p hp) (new_get _ _)).callB ?_
  simp only [zz, Nat.reduceEqDiff]
  exact weakW_clean ⟨_, rfl⟩ (.base _ (.bool _)) hR

/-- Wrong parts, as the reference has them. -/
def badRef (d : Bool) (p : Part) : Bool := p.1 && !isMeta p.2 && !(d && base p.2 != []) || !p.1 && !isWord p.2

theorem base_param (s : Str) : (base s != []) = isParam s := by
  unfold base isParam metaOf
  have hne : isMeta [] = false := rfl
  have hm : ∀ t : Str, ((if isMeta t = true then t else []) != []) = isMeta t := by
    intro t
    cases h : isMeta t with
    | false => rfl
    | true =>
      cases t with
      | nil => rw [hne] at h; cases h
      | cons a t => rfl
  rw [hm]
  by_cases h1 : 1 < s.length
  · simp [h1]
  · match s, h1 with
    | [], _ => rfl
    | a :: b :: l, h => exact absurd (by simp) h
    | [c], _ =>
      simp only [List.length_singleton, Nat.lt_irrefl, decide_false, Bool.false_and, Bool.false_eq_true, if_false]
      cases hd : digitEnd [c] with
      | false => rfl
      | true =>
        simp only [if_true, List.dropLast_singleton, hne]
        simp only [digitEnd, List.getLast?_singleton, Bool.and_eq_true, decide_eq_true_eq] at hd
        have : inR 65 90 [c] = false := by
          simp [inR]
          omega
        simp [isMeta, within, this]

theorem badRef_eq (d : Bool) (p : Part) : badRef d p = badPart d p := by
  unfold badRef badPart
  rw [base_param]
  cases p.1 <;> cases isMeta p.2 <;> cases d <;> cases isParam p.2 <;> cases isWord p.2 <;> rfl

theorem c68 {l : List Part} (hl : l.length < 4611686018427387904) (hs : ∀ p ∈ l, okS p.2) {x : PV} {d : Bool} {σ : St} (hx : Elems σ 2 x (l.map pvPart)) : Ret W 68 [x, .bool d] σ (.int .i64 (if l.any (badPart d) then 8 else 0)) := by
  refine ret_of fun R hR => ?_
  rw [fn68_eq]
  unfold fn68
  refine CutW_of ?_
  refine Lfp_up l.length (fun i y σ' => y = lookP [(0, x), (1, .bool d), (5, .int .i64 i)] ∧ σ' = σ ∧ (l.take i).all (fun a => !badPart d a) = true) ?_ ⟨rfl, rfl, rfl⟩
  rintro Φ i y σ' hi ⟨rfl, rfl, hp⟩ next
  have hxl := hx.len σ'
  simp only [hxl, List.length_map, zz, Nat.reduceEqDiff]
  by_cases hlt : i < l.length
  · have hc : l[i]? = some l[i] := by simp [hlt]
    have hmem : l[i] ∈ l := by simp
    generalize l[i] = p at hc hmem
    have hsp := hs p hmem
    obtain ⟨q, q1, q2, q3⟩ := hx.at_ (i := i) (k := .i64) (by rw [List.getElem?_map, hc]; rfl) (show (pvPart p).cells? = some _ from rfl) rfl
    obtain ⟨m, t⟩ := p
    have hsp : okS t := hsp
    have hput : vPut 2 (.agg [.bool false, .str []]) 0 (pvPart (m, t)) = some (pvPart (m, t)) := rfl
    have hall : ∀ v, badRef d (m, t) = v → badPart d (m, t) = v := fun v h => by rw [← badRef_eq]; exact h
    have hit : badRef d (m, t) = true → l.any (badPart d) = true := fun h => List.any_eq_true.2 ⟨_, hmem, hall _ h⟩
    have on : badRef d (m, t) = false → (l.take (i + 1)).all (fun a => !badPart d a) = true := fun h => all_take_succ hp hc (by rw [hall _ h]; rfl)
    simp only [hlt, q1, q2, encPart.part, hput, zz, Nat.reduceEqDiff]
    simp only [pvPart, zz, Nat.reduceEqDiff]
    cases m with
    | true =>
      simp only [zz, Nat.reduceEqDiff]
      refine (c66 hsp _).callB ?_
      cases hm : isMeta t with
      | true =>
        simp only [zz, Nat.reduceEqDiff]
        rw [vBin_add _ (by omega) (by omega)]
        exact next _ _ hlt ⟨by simp, rfl, on (by simp [badRef, hm])⟩
      | false =>
        simp only [zz, Nat.reduceEqDiff]
        cases d with
        | false =>
          simp only [zz, Nat.reduceEqDiff]
          refine weakW_keep ?_
          rw [hit (by simp [badRef, hm])] at hR
          exact hR
        | true =>
          simp only [zz, Nat.reduceEqDiff]
          refine (c129 hsp _).callB ?_
          simp only [zz, Nat.reduceEqDiff]
          cases hbt : (base t == []) with
          | true =>
            simp only [zz, Nat.reduceEqDiff]
            refine weakW_keep ?_
            rw [hit (by simp [badRef, hm]; simpa using hbt)] at hR
            exact hR
          | false =>
            simp only [zz, Nat.reduceEqDiff]
            rw [vBin_add _ (by omega) (by omega)]
            exact next _ _ hlt ⟨by simp, rfl, on (by simp [badRef, hm]; simpa using hbt)⟩
    | false =>
      simp only [zz, Nat.reduceEqDiff]
      refine (c130 hsp _).callB ?_
      cases hw : isWord t with
      | true =>
        simp only [zz, Nat.reduceEqDiff]
        rw [vBin_add _ (by omega) (by omega)]
        exact next _ _ hlt ⟨by simp, rfl, on (by simp [badRef, hw])⟩
      | false =>
        simp only [zz, Nat.reduceEqDiff]
        refine weakW_keep ?_
        rw [hit (by simp [badRef, hw])] at hR
        exact hR
  · obtain rfl : i = l.length := by omega
    rw [List.take_length] at hp
    have hno : l.any (badPart d) = false := by
      rw [List.any_eq_false]
      intro a ha
      have := List.all_eq_true.1 hp a ha
      simpa using this
    simp only [hlt, zz, Nat.reduceEqDiff]
    refine weakW_keep ?_
    rw [hno] at hR
    exact hR

/-! ### Words -/

def wordsL (s : Str) : List Str := if s == [] then [] else splitB 32 s
def wordsOk (s : Str) : Bool := (wordsL s).all isWord
def wordsPV (s : Str) : PV := if s == [] then .list .nil [] else .list .full ((splitB 32 s).map .str)

theorem c133 {s : Str} (hs : okS s) (σ : St) : Ret W 133 [.str s] σ (.bool (!isWord s)) := by
  refine ret_of fun R hR => ?_
  rw [fn133_eq]
  unfold fn133
  refine (c125 hs _).callB ?_
  simp only [zz, Nat.reduceEqDiff]
  exact weakW_keep hR

theorem c131 {s : Str} (hs : s.length < 4294967281) {c : UInt8} (σ : St) : Ret W 131 [.str s, .str [c]] σ (.list .full ((splitB c s).map .str)) := by
  refine ret_of fun R hR => ?_
  show bindO False (extSplit _ _) _
  simp only [extSplit, if_pos hs, zz, Nat.reduceEqDiff]
  exact hR

theorem splitB_len (c : UInt8) : ∀ s : Str, (splitB c s).length ≤ s.length + 1 ∧ ∀ w ∈ splitB c s, w.length ≤ s.length
  | [] => by simp [splitB]
  | b :: l => by
    obtain ⟨h1, h2⟩ := splitB_len c l
    simp only [splitB]
    split
    · refine ⟨by simp; omega, fun w hw => ?_⟩
      rcases List.mem_cons.1 hw with rfl | hw
      · simp
      · have := h2 w hw; simp; omega
    · split
      · rename_i x xs hx
        rw [hx] at h1 h2
        refine ⟨by simpa using Nat.le_succ_of_le h1, fun w hw => ?_⟩
        rcases List.mem_cons.1 hw with rfl | hw
        · have := h2 x (by simp); simp; omega
        · have := h2 w (by simp [hw]); simp; omega
      · simp

theorem c71 {s : Str} (hs : s.length < 4294967281) (σ : St) : Ret W 71 [.str s] σ (.tuple [wordsPV s, .bool (wordsOk s)]) := by
  refine ret_of fun R hR => ?_
  rw [fn71_eq]
  unfold fn71
  simp only [zz, Nat.reduceEqDiff]
  cases he : (s == []) with
  | true =>
    simp only [zz, Nat.reduceEqDiff]
    refine weakW_keep ?_
    simpa [wordsPV, wordsOk, wordsL, he] using hR
  | false =>
    simp only [zz, Nat.reduceEqDiff]
    refine (c131 hs _).callB ?_
    obtain ⟨h1, h2⟩ := splitB_len 32 s
    refine (c132 encStr (fun w => !isWord w) hb133 (by omega) fun w hw => c133 (by have := h2 w hw; show w.length < _; omega) _).callB ?_
    simp only [zz, Nat.reduceEqDiff]
    refine weakW_keep ?_
    have : wordsOk s = !((splitB 32 s).any fun w => !isWord w) := by
      simp [wordsOk, wordsL, he, List.all_eq_not_any_not]
    rw [this] at hR
    simpa [wordsPV, he] using hR

end Go.Proofs.YtiniifbmeobmgaaGreatDoor

