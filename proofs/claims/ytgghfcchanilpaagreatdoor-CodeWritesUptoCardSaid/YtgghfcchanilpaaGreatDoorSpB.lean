import Derived.Test.YtgghfcchanilpaaGreatDoorFnB
set_option linter.unusedVariables false
set_option linter.unusedSimpArgs false
namespace Go.Proofs.YtgghfcchanilpaaGreatDoor
open Go Go.Abs
def hasBodyP (P : Program) (f : FuncId) : Bool := match P.funcs[f]? with
 | some fn => fn.body.isSome
 | none => false
noncomputable abbrev hasBody (f : FuncId) : Bool := hasBodyP Tryz.prog f
theorem callG_funcP {P : Program} {call : CallP} {f k : Nat} (h : hasBodyP P f = true) (caps args : List PV) (σ : St) (K X : PV → St → Prop) : callG (algP call) P false (.func f k caps) args σ K X = callB call f (argsF k args caps) σ K X := by
 unfold hasBodyP at h
 unfold callG
 simp only
 cases hf : P.funcs[f]? with
 | none => simp [hf] at h
 | some fn =>
  rw [hf] at h
  simp only at h ⊢
  cases hb : fn.body with
  | none => simp [hb] at h
  | some c => rfl
theorem callG_func {f k : Nat} (h : hasBody f = true) (caps args : List PV) (σ : St) (K X : PV → St → Prop) : callG (algP W) Tryz.prog false (.func f k caps) args σ K X = callB W f (argsF k args caps) σ K X := callG_funcP h caps args σ K X
def idxOf {α : Type} (p : α → Bool) : List α → Nat → Int
 | [],_ => -1
 | a :: l,i => if p a then i else idxOf p l (i + 1)
theorem idxOf_hit {α : Type} {p : α → Bool} : ∀ {l : List α} {i n : Nat} {a : α},l[i]? = some a → p a = true → (l.take i).all (fun a => !p a) = true → idxOf p l n = ((n + i : Nat) : Int)
 | b :: l,0,n,a,h,hp,hn => by
  simp at h
  subst h
  simp [idxOf,hp]
 | b :: l,i + 1,n,a,h,hp,hn => by
  simp only [List.take_succ_cons,List.all_cons,Bool.and_eq_true,Bool.not_eq_true'] at hn
  have := idxOf_hit (l := l) (n := n + 1) (by simpa using h) hp hn.2
  simp only [idxOf,hn.1,Bool.false_eq_true,if_false,this]
  omega
theorem idxOf_none {α : Type} {p : α → Bool} : ∀ {l : List α} {n : Nat},l.all (fun a => !p a) = true → idxOf p l n = -1
 | [],n,h => rfl
 | b :: l,n,h => by
  simp only [List.all_cons,Bool.and_eq_true,Bool.not_eq_true'] at h
  simp only [idxOf,h.1,Bool.false_eq_true,if_false,idxOf_none h.2]
theorem idxOf_ge {α : Type} {p : α → Bool} : ∀ (l : List α) (n : Nat),decide (idxOf p l n ≥ 0) = l.any p
 | [],n => rfl
 | b :: l,n => by
  simp only [idxOf,List.any_cons]
  by_cases hb : p b = true
  ·simp [hb]
  ·simp only [hb,Bool.false_or,if_false]
   exact idxOf_ge l (n + 1)
structure EncOk {α : Type} (enc : α → PV) (ag : Bool) (sz : Nat) : Prop where
 cells : ∀ a,∃ cs,(enc a).cells? = some cs ∧ cs.length = sz
 part : ∀ a,vPart ag sz (enc a) 0 = some (enc a)
theorem EncOk.index {α : Type} {enc : α → PV} {ag : Bool} {sz : Nat} (h : EncOk enc ag sz) {l : List α} {i : Nat} {a : α} (ha : l[i]? = some a) {lk : LK} {k : IntKind} : vIndex sz (.list lk (l.map enc)) (.int k i) = some (.eptr (enc a) 0) := by
 obtain ⟨cs,h1,h2⟩ := h.cells a
 exact vIndex_list k (by rw [List.getElem?_map,ha]; rfl) h1 h2
theorem all_take_succ {α : Type} {q : α → Bool} {l : List α} {i : Nat} {a : α} (h : (l.take i).all q = true) (ha : l[i]? = some a) (hq : q a = true) : (l.take (i + 1)).all q = true := by
 rw [List.take_add_one,ha,List.all_append,h]
 simp [hq]
theorem c136 {α : Type} {enc : α → PV} (E : EncOk enc true 9) {l : List α} (p : α → Bool) {lk : LK} {g k : Nat} {caps : List PV} {σ : St} (hf : hasBody g = true) (hl : l.length < 4611686018427387904) (h : ∀ a ∈ l,Ret W g (argsF k [enc a] caps) σ (.bool (p a))) :
  Ret W 136 [.list lk (l.map enc),.func g k caps] σ (.int .i64 (idxOf p l 0)) := by
 refine ret_of fun R hR => ?_
 rw [fn136_eq]
 unfold fn136
 simp only [List.length_map,zz,Nat.reduceEqDiff]
 refine Lfp_up l.length (fun i x σ' => x = lookP [(0,.list lk (l.map enc)),(1,.func g k caps),(7,.int .i64 l.length),(8,.int .i64 i)] ∧ σ' = σ ∧ (l.take i).all (fun a => !p a) = true) ?_ ⟨rfl,rfl,rfl⟩
 rintro Φ i x σ' hi ⟨rfl,rfl,hp⟩ next
 simp only [zz,Nat.reduceEqDiff]
 by_cases hlt : i < l.length
 ·have hc : l[i]? = some l[i] := by simp [hlt]
  have hmem : l[i] ∈ l := by simp
  simp only [hlt,E.index hc,E.part,callG_func hf,zz,Nat.reduceEqDiff]
  refine (h _ hmem).callB ?_
  generalize l[i] = a at hc
  cases hpa : p a with
  | true =>
   simp only [zz,Nat.reduceEqDiff]
   refine weakW_keep ?_
   rw [idxOf_hit hc hpa hp] at hR
   simpa using hR
  | false =>
   simp only [zz,Nat.reduceEqDiff]
   rw [vBin_add _ (by omega) (by omega)]
   simp only [zz,Nat.reduceEqDiff]
   exact next _ _ hlt ⟨by simp,rfl,all_take_succ hp hc (by simp [hpa])⟩
 ·obtain rfl : i = l.length := by omega
  rw [List.take_length] at hp
  simp only [hlt,zz,Nat.reduceEqDiff]
  refine weakW_keep ?_
  rw [idxOf_none hp] at hR
  exact hR
theorem c221 {α : Type} {enc : α → PV} (E : EncOk enc true 1) {l : List α} (p : α → Bool) {lk : LK} {g k : Nat} {caps : List PV} {σ : St} (hf : hasBody g = true) (hl : l.length < 4611686018427387904) (h : ∀ a ∈ l,Ret W g (argsF k [enc a] caps) σ (.bool (p a))) :
  Ret W 221 [.list lk (l.map enc),.func g k caps] σ (.int .i64 (idxOf p l 0)) := by
 refine ret_of fun R hR => ?_
 rw [fn221_eq]
 unfold fn221
 simp only [List.length_map,zz,Nat.reduceEqDiff]
 refine Lfp_up l.length (fun i x σ' => x = lookP [(0,.list lk (l.map enc)),(1,.func g k caps),(7,.int .i64 l.length),(8,.int .i64 i)] ∧ σ' = σ ∧ (l.take i).all (fun a => !p a) = true) ?_ ⟨rfl,rfl,rfl⟩
 rintro Φ i x σ' hi ⟨rfl,rfl,hp⟩ next
 simp only [zz,Nat.reduceEqDiff]
 by_cases hlt : i < l.length
 ·have hc : l[i]? = some l[i] := by simp [hlt]
  have hmem : l[i] ∈ l := by simp
  simp only [hlt,E.index hc,E.part,callG_func hf,zz,Nat.reduceEqDiff]
  refine (h _ hmem).callB ?_
  generalize l[i] = a at hc
  cases hpa : p a with
  | true =>
   simp only [zz,Nat.reduceEqDiff]
   refine weakW_keep ?_
   rw [idxOf_hit hc hpa hp] at hR
   simpa using hR
  | false =>
   simp only [zz,Nat.reduceEqDiff]
   rw [vBin_add _ (by omega) (by omega)]
   simp only [zz,Nat.reduceEqDiff]
   exact next _ _ hlt ⟨by simp,rfl,all_take_succ hp hc (by simp [hpa])⟩
 ·obtain rfl : i = l.length := by omega
  rw [List.take_length] at hp
  simp only [hlt,zz,Nat.reduceEqDiff]
  refine weakW_keep ?_
  rw [idxOf_none hp] at hR
  exact hR
theorem c222 {α : Type} {enc : α → PV} (E : EncOk enc false 1) {l : List α} (p : α → Bool) {lk : LK} {g k : Nat} {caps : List PV} {σ : St} (hf : hasBody g = true) (hl : l.length < 4611686018427387904) (h : ∀ a ∈ l,Ret W g (argsF k [enc a] caps) σ (.bool (p a))) :
  Ret W 222 [.list lk (l.map enc),.func g k caps] σ (.int .i64 (idxOf p l 0)) := by
 refine ret_of fun R hR => ?_
 rw [fn222_eq]
 unfold fn222
 simp only [List.length_map,zz,Nat.reduceEqDiff]
 refine Lfp_up l.length (fun i x σ' => x = lookP [(0,.list lk (l.map enc)),(1,.func g k caps),(7,.int .i64 l.length),(8,.int .i64 i)] ∧ σ' = σ ∧ (l.take i).all (fun a => !p a) = true) ?_ ⟨rfl,rfl,rfl⟩
 rintro Φ i x σ' hi ⟨rfl,rfl,hp⟩ next
 simp only [zz,Nat.reduceEqDiff]
 by_cases hlt : i < l.length
 ·have hc : l[i]? = some l[i] := by simp [hlt]
  have hmem : l[i] ∈ l := by simp
  simp only [hlt,E.index hc,E.part,callG_func hf,zz,Nat.reduceEqDiff]
  refine (h _ hmem).callB ?_
  generalize l[i] = a at hc
  cases hpa : p a with
  | true =>
   simp only [zz,Nat.reduceEqDiff]
   refine weakW_keep ?_
   rw [idxOf_hit hc hpa hp] at hR
   simpa using hR
  | false =>
   simp only [zz,Nat.reduceEqDiff]
   rw [vBin_add _ (by omega) (by omega)]
   simp only [zz,Nat.reduceEqDiff]
   exact next _ _ hlt ⟨by simp,rfl,all_take_succ hp hc (by simp [hpa])⟩
 ·obtain rfl : i = l.length := by omega
  rw [List.take_length] at hp
  simp only [hlt,zz,Nat.reduceEqDiff]
  refine weakW_keep ?_
  rw [idxOf_none hp] at hR
  exact hR
theorem c223 {α : Type} {enc : α → PV} (E : EncOk enc false 1) {l : List α} (p : α → Bool) {lk : LK} {g k : Nat} {caps : List PV} {σ : St} (hf : hasBody g = true) (hl : l.length < 4611686018427387904) (h : ∀ a ∈ l,Ret W g (argsF k [enc a] caps) σ (.bool (p a))) :
  Ret W 223 [.list lk (l.map enc),.func g k caps] σ (.int .i64 (idxOf p l 0)) := by
 refine ret_of fun R hR => ?_
 rw [fn223_eq]
 unfold fn223
 simp only [List.length_map,zz,Nat.reduceEqDiff]
 refine Lfp_up l.length (fun i x σ' => x = lookP [(0,.list lk (l.map enc)),(1,.func g k caps),(7,.int .i64 l.length),(8,.int .i64 i)] ∧ σ' = σ ∧ (l.take i).all (fun a => !p a) = true) ?_ ⟨rfl,rfl,rfl⟩
 rintro Φ i x σ' hi ⟨rfl,rfl,hp⟩ next
 simp only [zz,Nat.reduceEqDiff]
 by_cases hlt : i < l.length
 ·have hc : l[i]? = some l[i] := by simp [hlt]
  have hmem : l[i] ∈ l := by simp
  simp only [hlt,E.index hc,E.part,callG_func hf,zz,Nat.reduceEqDiff]
  refine (h _ hmem).callB ?_
  generalize l[i] = a at hc
  cases hpa : p a with
  | true =>
   simp only [zz,Nat.reduceEqDiff]
   refine weakW_keep ?_
   rw [idxOf_hit hc hpa hp] at hR
   simpa using hR
  | false =>
   simp only [zz,Nat.reduceEqDiff]
   rw [vBin_add _ (by omega) (by omega)]
   simp only [zz,Nat.reduceEqDiff]
   exact next _ _ hlt ⟨by simp,rfl,all_take_succ hp hc (by simp [hpa])⟩
 ·obtain rfl : i = l.length := by omega
  rw [List.take_length] at hp
  simp only [hlt,zz,Nat.reduceEqDiff]
  refine weakW_keep ?_
  rw [idxOf_none hp] at hR
  exact hR
theorem c224 {α : Type} {enc : α → PV} (E : EncOk enc false 1) {l : List α} (p : α → Bool) {lk : LK} {g k : Nat} {caps : List PV} {σ : St} (hf : hasBody g = true) (hl : l.length < 4611686018427387904) (h : ∀ a ∈ l,Ret W g (argsF k [enc a] caps) σ (.bool (p a))) :
  Ret W 224 [.list lk (l.map enc),.func g k caps] σ (.int .i64 (idxOf p l 0)) := by
 refine ret_of fun R hR => ?_
 rw [fn224_eq]
 unfold fn224
 simp only [List.length_map,zz,Nat.reduceEqDiff]
 refine Lfp_up l.length (fun i x σ' => x = lookP [(0,.list lk (l.map enc)),(1,.func g k caps),(7,.int .i64 l.length),(8,.int .i64 i)] ∧ σ' = σ ∧ (l.take i).all (fun a => !p a) = true) ?_ ⟨rfl,rfl,rfl⟩
 rintro Φ i x σ' hi ⟨rfl,rfl,hp⟩ next
 simp only [zz,Nat.reduceEqDiff]
 by_cases hlt : i < l.length
 ·have hc : l[i]? = some l[i] := by simp [hlt]
  have hmem : l[i] ∈ l := by simp
  simp only [hlt,E.index hc,E.part,callG_func hf,zz,Nat.reduceEqDiff]
  refine (h _ hmem).callB ?_
  generalize l[i] = a at hc
  cases hpa : p a with
  | true =>
   simp only [zz,Nat.reduceEqDiff]
   refine weakW_keep ?_
   rw [idxOf_hit hc hpa hp] at hR
   simpa using hR
  | false =>
   simp only [zz,Nat.reduceEqDiff]
   rw [vBin_add _ (by omega) (by omega)]
   simp only [zz,Nat.reduceEqDiff]
   exact next _ _ hlt ⟨by simp,rfl,all_take_succ hp hc (by simp [hpa])⟩
 ·obtain rfl : i = l.length := by omega
  rw [List.take_length] at hp
  simp only [hlt,zz,Nat.reduceEqDiff]
  refine weakW_keep ?_
  rw [idxOf_none hp] at hR
  exact hR
theorem c104 {α : Type} {enc : α → PV} (E : EncOk enc true 1) {l : List α} (p : α → Bool) {lk : LK} {g k : Nat} {caps : List PV} {σ : St} (hf : hasBody g = true) (hl : l.length < 4611686018427387904) (h : ∀ a ∈ l,Ret W g (argsF k [enc a] caps) σ (.bool (p a))) :
  Ret W 104 [.list lk (l.map enc),.func g k caps] σ (.bool (l.any p)) := by
 refine ret_of fun R hR => ?_
 rw [fn104_eq]
 unfold fn104
 refine (c221 E p hf hl h).callB ?_
 simp only [idxOf_ge,zz,Nat.reduceEqDiff]
 exact weakW_keep hR
theorem c106 {α : Type} {enc : α → PV} (E : EncOk enc true 9) {l : List α} (p : α → Bool) {lk : LK} {g k : Nat} {caps : List PV} {σ : St} (hf : hasBody g = true) (hl : l.length < 4611686018427387904) (h : ∀ a ∈ l,Ret W g (argsF k [enc a] caps) σ (.bool (p a))) :
  Ret W 106 [.list lk (l.map enc),.func g k caps] σ (.bool (l.any p)) := by
 refine ret_of fun R hR => ?_
 rw [fn106_eq]
 unfold fn106
 refine (c136 E p hf hl h).callB ?_
 simp only [idxOf_ge,zz,Nat.reduceEqDiff]
 exact weakW_keep hR
theorem c108 {α : Type} {enc : α → PV} (E : EncOk enc false 1) {l : List α} (p : α → Bool) {lk : LK} {g k : Nat} {caps : List PV} {σ : St} (hf : hasBody g = true) (hl : l.length < 4611686018427387904) (h : ∀ a ∈ l,Ret W g (argsF k [enc a] caps) σ (.bool (p a))) :
  Ret W 108 [.list lk (l.map enc),.func g k caps] σ (.bool (l.any p)) := by
 refine ret_of fun R hR => ?_
 rw [fn108_eq]
 unfold fn108
 refine (c222 E p hf hl h).callB ?_
 simp only [idxOf_ge,zz,Nat.reduceEqDiff]
 exact weakW_keep hR
theorem c110 {α : Type} {enc : α → PV} (E : EncOk enc false 1) {l : List α} (p : α → Bool) {lk : LK} {g k : Nat} {caps : List PV} {σ : St} (hf : hasBody g = true) (hl : l.length < 4611686018427387904) (h : ∀ a ∈ l,Ret W g (argsF k [enc a] caps) σ (.bool (p a))) :
  Ret W 110 [.list lk (l.map enc),.func g k caps] σ (.bool (l.any p)) := by
 refine ret_of fun R hR => ?_
 rw [fn110_eq]
 unfold fn110
 refine (c223 E p hf hl h).callB ?_
 simp only [idxOf_ge,zz,Nat.reduceEqDiff]
 exact weakW_keep hR
theorem c113 {α : Type} {enc : α → PV} (E : EncOk enc false 1) {l : List α} (p : α → Bool) {lk : LK} {g k : Nat} {caps : List PV} {σ : St} (hf : hasBody g = true) (hl : l.length < 4611686018427387904) (h : ∀ a ∈ l,Ret W g (argsF k [enc a] caps) σ (.bool (p a))) :
  Ret W 113 [.list lk (l.map enc),.func g k caps] σ (.bool (l.any p)) := by
 refine ret_of fun R hR => ?_
 rw [fn113_eq]
 unfold fn113
 refine (c224 E p hf hl h).callB ?_
 simp only [idxOf_ge,zz,Nat.reduceEqDiff]
 exact weakW_keep hR
end Go.Proofs.YtgghfcchanilpaaGreatDoor
