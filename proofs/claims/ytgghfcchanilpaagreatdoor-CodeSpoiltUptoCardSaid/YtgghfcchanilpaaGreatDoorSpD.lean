import Derived.Test.YtgghfcchanilpaaGreatDoorFnB
import Derived.KernelRfl
import Derived.Test.YtgghfcchanilpaaGreatDoorAnn
import Derived.Test.YtgghfcchanilpaaGreatDoorProg
import Derived.Lib.ItoaLen
import Derived.Test.YtgghfcchanilpaaGreatDoorPlJ
set_option linter.unusedVariables false
set_option linter.unusedSimpArgs false
namespace Go.Proofs.YtgghfcchanilpaaGreatDoor
open Go Go.Abs
def hasBodyP (P : Program) (f : FuncId) : Bool := match P.funcs[f]? with
 | some fn => fn.body.isSome
 | none => false
noncomputable abbrev hasBody (f : FuncId) : Bool := hasBodyP Tryz.prog f
theorem callG_funcP {P : Program} {call : CallP} {f k : Nat} (h : hasBodyP P f = true) (caps args : List PV) (σ : St) (K X : PV → St → Prop) : callG (algP call) P false (.func f k caps) args σ K X = callB call f (argsF k args caps) σ K X := by
 unfold hasBodyP at h
 unfold callG
 simp only
 cases hf : P.funcs[f]? with
 | none => simp [hf] at h
 | some fn =>
  rw [hf] at h
  simp only at h ⊢
  cases hb : fn.body with
  | none => simp [hb] at h
  | some c => rfl
theorem callG_func {f k : Nat} (h : hasBody f = true) (caps args : List PV) (σ : St) (K X : PV → St → Prop) : callG (algP W) Tryz.prog false (.func f k caps) args σ K X = callB W f (argsF k args caps) σ K X := callG_funcP h caps args σ K X
def idxOf {α : Type} (p : α → Bool) : List α → Nat → Int
 | [],_ => -1
 | a :: l,i => if p a then i else idxOf p l (i + 1)
theorem idxOf_hit {α : Type} {p : α → Bool} : ∀ {l : List α} {i n : Nat} {a : α},l[i]? = some a → p a = true → (l.take i).all (fun a => !p a) = true → idxOf p l n = ((n + i : Nat) : Int)
 | b :: l,0,n,a,h,hp,hn => by
  simp at h
  subst h
  simp [idxOf,hp]
 | b :: l,i + 1,n,a,h,hp,hn => by
  simp only [List.take_succ_cons,List.all_cons,Bool.and_eq_true,Bool.not_eq_true'] at hn
  have := idxOf_hit (l := l) (n := n + 1) (by simpa using h) hp hn.2
  simp only [idxOf,hn.1,Bool.false_eq_true,if_false,this]
  omega
theorem idxOf_none {α : Type} {p : α → Bool} : ∀ {l : List α} {n : Nat},l.all (fun a => !p a) = true → idxOf p l n = -1
 | [],n,h => rfl
 | b :: l,n,h => by
  simp only [List.all_cons,Bool.and_eq_true,Bool.not_eq_true'] at h
  simp only [idxOf,h.1,Bool.false_eq_true,if_false,idxOf_none h.2]
theorem idxOf_ge {α : Type} {p : α → Bool} : ∀ (l : List α) (n : Nat),decide (idxOf p l n ≥ 0) = l.any p
 | [],n => rfl
 | b :: l,n => by
  simp only [idxOf,List.any_cons]
  by_cases hb : p b = true
  ·simp [hb]
  ·simp only [hb,Bool.false_or,if_false]
   exact idxOf_ge l (n + 1)
structure EncOk {α : Type} (enc : α → PV) (ag : Bool) (sz : Nat) : Prop where
 cells : ∀ a,∃ cs,(enc a).cells? = some cs ∧ cs.length = sz
 part : ∀ a,vPart ag sz (enc a) 0 = some (enc a)
theorem EncOk.index {α : Type} {enc : α → PV} {ag : Bool} {sz : Nat} (h : EncOk enc ag sz) {l : List α} {i : Nat} {a : α} (ha : l[i]? = some a) {lk : LK} {k : IntKind} : vIndex sz (.list lk (l.map enc)) (.int k i) = some (.eptr (enc a) 0) := by
 obtain ⟨cs,h1,h2⟩ := h.cells a
 exact vIndex_list k (by rw [List.getElem?_map,ha]; rfl) h1 h2
theorem all_take_succ {α : Type} {q : α → Bool} {l : List α} {i : Nat} {a : α} (h : (l.take i).all q = true) (ha : l[i]? = some a) (hq : q a = true) : (l.take (i + 1)).all q = true := by
 rw [List.take_add_one,ha,List.all_append,h]
 simp [hq]
theorem c136 {α : Type} {enc : α → PV} (E : EncOk enc true 9) {l : List α} (p : α → Bool) {lk : LK} {g k : Nat} {caps : List PV} {σ : St} (hf : hasBody g = true) (hl : l.length < 4611686018427387904) (h : ∀ a ∈ l,Ret W g (argsF k [enc a] caps) σ (.bool (p a))) :
  Ret W 136 [.list lk (l.map enc),.func g k caps] σ (.int .i64 (idxOf p l 0)) := by
 refine ret_of fun R hR => ?_
 rw [fn136_eq]
 delta fn136 bF kF nI
 simp only [List.length_map,zz,Nat.reduceEqDiff]
 refine Lfp_up l.length (fun i x σ' => x = lookP [(0,.list lk (l.map enc)),(1,.func g k caps),(7,.int .i64 l.length),(8,.int .i64 i)] ∧ σ' = σ ∧ (l.take i).all (fun a => !p a) = true) ?_ ⟨rfl,rfl,rfl⟩
 rintro Φ i x σ' hi ⟨rfl,rfl,hp⟩ next
 simp only [zz,Nat.reduceEqDiff]
 by_cases hlt : i < l.length
 ·have hc : l[i]? = some l[i] := by simp [hlt]
  have hmem : l[i] ∈ l := by simp
  simp only [hlt,E.index hc,E.part,callG_func hf,zz,Nat.reduceEqDiff]
  refine (h _ hmem).callB ?_
  generalize l[i] = a at hc
  cases hpa : p a with
  | true =>
   simp only [zz,Nat.reduceEqDiff]
   refine weakW_keep ?_
   rw [idxOf_hit hc hpa hp] at hR
   simpa using hR
  | false =>
   simp only [zz,Nat.reduceEqDiff]
   rw [vBin_add _ (by omega) (by omega)]
   simp only [zz,Nat.reduceEqDiff]
   exact next _ _ hlt ⟨by simp,rfl,all_take_succ hp hc (by simp [hpa])⟩
 ·obtain rfl : i = l.length := by omega
  rw [List.take_length] at hp
  simp only [hlt,zz,Nat.reduceEqDiff]
  refine weakW_keep ?_
  rw [idxOf_none hp] at hR
  exact hR
theorem c221 {α : Type} {enc : α → PV} (E : EncOk enc true 1) {l : List α} (p : α → Bool) {lk : LK} {g k : Nat} {caps : List PV} {σ : St} (hf : hasBody g = true) (hl : l.length < 4611686018427387904) (h : ∀ a ∈ l,Ret W g (argsF k [enc a] caps) σ (.bool (p a))) :
  Ret W 221 [.list lk (l.map enc),.func g k caps] σ (.int .i64 (idxOf p l 0)) := by
 refine ret_of fun R hR => ?_
 rw [fn221_eq]
 delta fn221 bF kF nI
 simp only [List.length_map,zz,Nat.reduceEqDiff]
 refine Lfp_up l.length (fun i x σ' => x = lookP [(0,.list lk (l.map enc)),(1,.func g k caps),(7,.int .i64 l.length),(8,.int .i64 i)] ∧ σ' = σ ∧ (l.take i).all (fun a => !p a) = true) ?_ ⟨rfl,rfl,rfl⟩
 rintro Φ i x σ' hi ⟨rfl,rfl,hp⟩ next
 simp only [zz,Nat.reduceEqDiff]
 by_cases hlt : i < l.length
 ·have hc : l[i]? = some l[i] := by simp [hlt]
  have hmem : l[i] ∈ l := by simp
  simp only [hlt,E.index hc,E.part,callG_func hf,zz,Nat.reduceEqDiff]
  refine (h _ hmem).callB ?_
  generalize l[i] = a at hc
  cases hpa : p a with
  | true =>
   simp only [zz,Nat.reduceEqDiff]
   refine weakW_keep ?_
   rw [idxOf_hit hc hpa hp] at hR
   simpa using hR
  | false =>
   simp only [zz,Nat.reduceEqDiff]
   rw [vBin_add _ (by omega) (by omega)]
   simp only [zz,Nat.reduceEqDiff]
   exact next _ _ hlt ⟨by simp,rfl,all_take_succ hp hc (by simp [hpa])⟩
 ·obtain rfl : i = l.length := by omega
  rw [List.take_length] at hp
  simp only [hlt,zz,Nat.reduceEqDiff]
  refine weakW_keep ?_
  rw [idxOf_none hp] at hR
  exact hR
theorem c222 {α : Type} {enc : α → PV} (E : EncOk enc false 1) {l : List α} (p : α → Bool) {lk : LK} {g k : Nat} {caps : List PV} {σ : St} (hf : hasBody g = true) (hl : l.length < 4611686018427387904) (h : ∀ a ∈ l,Ret W g (argsF k [enc a] caps) σ (.bool (p a))) :
  Ret W 222 [.list lk (l.map enc),.func g k caps] σ (.int .i64 (idxOf p l 0)) := by
 refine ret_of fun R hR => ?_
 rw [fn222_eq]
 delta fn222 bF kF nI
 simp only [List.length_map,zz,Nat.reduceEqDiff]
 refine Lfp_up l.length (fun i x σ' => x = lookP [(0,.list lk (l.map enc)),(1,.func g k caps),(7,.int .i64 l.length),(8,.int .i64 i)] ∧ σ' = σ ∧ (l.take i).all (fun a => !p a) = true) ?_ ⟨rfl,rfl,rfl⟩
 rintro Φ i x σ' hi ⟨rfl,rfl,hp⟩ next
 simp only [zz,Nat.reduceEqDiff]
 by_cases hlt : i < l.length
 ·have hc : l[i]? = some l[i] := by simp [hlt]
  have hmem : l[i] ∈ l := by simp
  simp only [hlt,E.index hc,E.part,callG_func hf,zz,Nat.reduceEqDiff]
  refine (h _ hmem).callB ?_
  generalize l[i] = a at hc
  cases hpa : p a with
  | true =>
   simp only [zz,Nat.reduceEqDiff]
   refine weakW_keep ?_
   rw [idxOf_hit hc hpa hp] at hR
   simpa using hR
  | false =>
   simp only [zz,Nat.reduceEqDiff]
   rw [vBin_add _ (by omega) (by omega)]
   simp only [zz,Nat.reduceEqDiff]
   exact next _ _ hlt ⟨by simp,rfl,all_take_succ hp hc (by simp [hpa])⟩
 ·obtain rfl : i = l.length := by omega
  rw [List.take_length] at hp
  simp only [hlt,zz,Nat.reduceEqDiff]
  refine weakW_keep ?_
  rw [idxOf_none hp] at hR
  exact hR
theorem c223 {α : Type} {enc : α → PV} (E : EncOk enc false 1) {l : List α} (p : α → Bool) {lk : LK} {g k : Nat} {caps : List PV} {σ : St} (hf : hasBody g = true) (hl : l.length < 4611686018427387904) (h : ∀ a ∈ l,Ret W g (argsF k [enc a] caps) σ (.bool (p a))) :
  Ret W 223 [.list lk (l.map enc),.func g k caps] σ (.int .i64 (idxOf p l 0)) := by
 refine ret_of fun R hR => ?_
 rw [fn223_eq]
 delta fn223 bF kF nI
 simp only [List.length_map,zz,Nat.reduceEqDiff]
 refine Lfp_up l.length (fun i x σ' => x = lookP [(0,.list lk (l.map enc)),(1,.func g k caps),(7,.int .i64 l.length),(8,.int .i64 i)] ∧ σ' = σ ∧ (l.take i).all (fun a => !p a) = true) ?_ ⟨rfl,rfl,rfl⟩
 rintro Φ i x σ' hi ⟨rfl,rfl,hp⟩ next
 simp only [zz,Nat.reduceEqDiff]
 by_cases hlt : i < l.length
 ·have hc : l[i]? = some l[i] := by simp [hlt]
  have hmem : l[i] ∈ l := by simp
  simp only [hlt,E.index hc,E.part,callG_func hf,zz,Nat.reduceEqDiff]
  refine (h _ hmem).callB ?_
  generalize l[i] = a at hc
  cases hpa : p a with
  | true =>
   simp only [zz,Nat.reduceEqDiff]
   refine weakW_keep ?_
   rw [idxOf_hit hc hpa hp] at hR
   simpa using hR
  | false =>
   simp only [zz,Nat.reduceEqDiff]
   rw [vBin_add _ (by omega) (by omega)]
   simp only [zz,Nat.reduceEqDiff]
   exact next _ _ hlt ⟨by simp,rfl,all_take_succ hp hc (by simp [hpa])⟩
 ·obtain rfl : i = l.length := by omega
  rw [List.take_length] at hp
  simp only [hlt,zz,Nat.reduceEqDiff]
  refine weakW_keep ?_
  rw [idxOf_none hp] at hR
  exact hR
theorem c224 {α : Type} {enc : α → PV} (E : EncOk enc false 1) {l : List α} (p : α → Bool) {lk : LK} {g k : Nat} {caps : List PV} {σ : St} (hf : hasBody g = true) (hl : l.length < 4611686018427387904) (h : ∀ a ∈ l,Ret W g (argsF k [enc a] caps) σ (.bool (p a))) :
  Ret W 224 [.list lk (l.map enc),.func g k caps] σ (.int .i64 (idxOf p l 0)) := by
 refine ret_of fun R hR => ?_
 rw [fn224_eq]
 delta fn224 bF kF nI
 simp only [List.length_map,zz,Nat.reduceEqDiff]
 refine Lfp_up l.length (fun i x σ' => x = lookP [(0,.list lk (l.map enc)),(1,.func g k caps),(7,.int .i64 l.length),(8,.int .i64 i)] ∧ σ' = σ ∧ (l.take i).all (fun a => !p a) = true) ?_ ⟨rfl,rfl,rfl⟩
 rintro Φ i x σ' hi ⟨rfl,rfl,hp⟩ next
 simp only [zz,Nat.reduceEqDiff]
 by_cases hlt : i < l.length
 ·have hc : l[i]? = some l[i] := by simp [hlt]
  have hmem : l[i] ∈ l := by simp
  simp only [hlt,E.index hc,E.part,callG_func hf,zz,Nat.reduceEqDiff]
  refine (h _ hmem).callB ?_
  generalize l[i] = a at hc
  cases hpa : p a with
  | true =>
   simp only [zz,Nat.reduceEqDiff]
   refine weakW_keep ?_
   rw [idxOf_hit hc hpa hp] at hR
   simpa using hR
  | false =>
   simp only [zz,Nat.reduceEqDiff]
   rw [vBin_add _ (by omega) (by omega)]
   simp only [zz,Nat.reduceEqDiff]
   exact next _ _ hlt ⟨by simp,rfl,all_take_succ hp hc (by simp [hpa])⟩
 ·obtain rfl : i = l.length := by omega
  rw [List.take_length] at hp
  simp only [hlt,zz,Nat.reduceEqDiff]
  refine weakW_keep ?_
  rw [idxOf_none hp] at hR
  exact hR
theorem c104 {α : Type} {enc : α → PV} (E : EncOk enc true 1) {l : List α} (p : α → Bool) {lk : LK} {g k : Nat} {caps : List PV} {σ : St} (hf : hasBody g = true) (hl : l.length < 4611686018427387904) (h : ∀ a ∈ l,Ret W g (argsF k [enc a] caps) σ (.bool (p a))) :
  Ret W 104 [.list lk (l.map enc),.func g k caps] σ (.bool (l.any p)) := by
 refine ret_of fun R hR => ?_
 rw [fn104_eq]
 delta fn104 bF nI
 refine (c221 E p hf hl h).callB ?_
 simp only [idxOf_ge,zz,Nat.reduceEqDiff]
 exact weakW_keep hR
theorem c106 {α : Type} {enc : α → PV} (E : EncOk enc true 9) {l : List α} (p : α → Bool) {lk : LK} {g k : Nat} {caps : List PV} {σ : St} (hf : hasBody g = true) (hl : l.length < 4611686018427387904) (h : ∀ a ∈ l,Ret W g (argsF k [enc a] caps) σ (.bool (p a))) :
  Ret W 106 [.list lk (l.map enc),.func g k caps] σ (.bool (l.any p)) := by
 refine ret_of fun R hR => ?_
 rw [fn106_eq]
 delta fn106 bF nI
 refine (c136 E p hf hl h).callB ?_
 simp only [idxOf_ge,zz,Nat.reduceEqDiff]
 exact weakW_keep hR
theorem c108 {α : Type} {enc : α → PV} (E : EncOk enc false 1) {l : List α} (p : α → Bool) {lk : LK} {g k : Nat} {caps : List PV} {σ : St} (hf : hasBody g = true) (hl : l.length < 4611686018427387904) (h : ∀ a ∈ l,Ret W g (argsF k [enc a] caps) σ (.bool (p a))) :
  Ret W 108 [.list lk (l.map enc),.func g k caps] σ (.bool (l.any p)) := by
 refine ret_of fun R hR => ?_
 rw [fn108_eq]
 delta fn108 bF nI
 refine (c222 E p hf hl h).callB ?_
 simp only [idxOf_ge,zz,Nat.reduceEqDiff]
 exact weakW_keep hR
theorem c110 {α : Type} {enc : α → PV} (E : EncOk enc false 1) {l : List α} (p : α → Bool) {lk : LK} {g k : Nat} {caps : List PV} {σ : St} (hf : hasBody g = true) (hl : l.length < 4611686018427387904) (h : ∀ a ∈ l,Ret W g (argsF k [enc a] caps) σ (.bool (p a))) :
  Ret W 110 [.list lk (l.map enc),.func g k caps] σ (.bool (l.any p)) := by
 refine ret_of fun R hR => ?_
 rw [fn110_eq]
 delta fn110 bF nI
 refine (c223 E p hf hl h).callB ?_
 simp only [idxOf_ge,zz,Nat.reduceEqDiff]
 exact weakW_keep hR
theorem c113 {α : Type} {enc : α → PV} (E : EncOk enc false 1) {l : List α} (p : α → Bool) {lk : LK} {g k : Nat} {caps : List PV} {σ : St} (hf : hasBody g = true) (hl : l.length < 4611686018427387904) (h : ∀ a ∈ l,Ret W g (argsF k [enc a] caps) σ (.bool (p a))) :
  Ret W 113 [.list lk (l.map enc),.func g k caps] σ (.bool (l.any p)) := by
 refine ret_of fun R hR => ?_
 rw [fn113_eq]
 delta fn113 bF nI
 refine (c224 E p hf hl h).callB ?_
 simp only [idxOf_ge,zz,Nat.reduceEqDiff]
 exact weakW_keep hR
end Go.Proofs.YtgghfcchanilpaaGreatDoor
namespace Go.Proofs.YtgghfcchanilpaaGreatDoor
open Go Go.Abs
theorem awakeB : bodyC (algB Tryz.prog annF 3000 60) Tryz.prog annF 12 [] [] (fun r σ => match r with
  | .ret (.bool true) => beqS σ []
  | _ => false) = true := by kernel_rfl
end Go.Proofs.YtgghfcchanilpaaGreatDoor
namespace Go.Proofs.YtgghfcchanilpaaGreatDoor
open Go Go.Abs
theorem c12 : Ret W 12 [] [] (.bool true) := fun R hR => by
 refine callW_of_reckoned (R' := R) (fun r σ hr => ?_) awakeB
 split at hr
 ·rw [beqS_sound _ _ hr]
  exact hR
 ·cases hr
theorem known_iff {n : Int} : knownS n = true ↔ 0 ≤ n ∧ n < 40 := by simp [knownS]
theorem arrOff {n : Int} (h : knownS n = true) : vArrOff 2 40 (.int .i64 n) = some (n.toNat * 2) := by
 have := known_iff.1 h
 simp only [vArrOff]
 rw [if_pos (by omega)]
theorem ops_name {n : Int} (h : knownS n = true) : opsPV[n.toNat * 2]? = some (.str (entryS n).1) ∧ opsPV[n.toNat * 2 + 1]? = some (.str (entryS n).2) := by
 have h' := known_iff.1 h
 have := ops_at ⟨n.toNat,by omega⟩
 simp only [Int.toNat_of_nonneg h'.1] at this
 rw [Nat.mul_comm]
 exact this
theorem frz_same {σ : St} {n : Nat} {v : PV} (h : Under n v) : Frz σ n v v := .base v h
end Go.Proofs.YtgghfcchanilpaaGreatDoor
namespace Go.Proofs.YtgghfcchanilpaaGreatDoor
open Go Go.Abs
def fn42 (Pr : Program) (W : CallP) (a0 a1 : PV) (σ : St) (R : Res → St → Prop) : Prop :=
bF .geq a0 (nI 0) fun a =>
guardG False a true (fun b =>
bF .lss a0 a1 fun c =>
b (lookE [(8,(.v a0)),(9,(.v a1)),(10,(.v c))]) σ) σ (fun b c =>
oF (vPick a (b 10).pv (.bool false)) fun a =>
wkR σ a c R)
theorem fn42_eq (W : CallP) (a0 a1 : PV) (σ : St) (R : Res → St → Prop) : bodyC (algP W) Tryz.prog annF 42 [a0,a1] σ R = fn42 Tryz.prog W a0 a1 σ R := by kernel_rfl
end Go.Proofs.YtgghfcchanilpaaGreatDoor
namespace Go.Proofs.YtgghfcchanilpaaGreatDoor
open Go Go.Abs
open Go.Lib (decDigits itoa)
theorem c42 (n m : Int) (σ : St) : Ret W 42 [.int .i64 n,.int .i64 m] σ (.bool (inS n m)) := by
 refine ret_of fun R hR => ?_
 rw [fn42_eq]
 delta fn42 bF nI
 unfold inS at hR
 simp only [zz,Nat.reduceEqDiff]
 cases h : decide (n ≥ 0) with
 | true =>
  rw [h] at hR
  simp only [zz,Nat.reduceEqDiff]
  exact weakW_keep (by simpa using hR)
 | false =>
  rw [h] at hR
  simp only [zz,Nat.reduceEqDiff]
  exact weakW_keep (by simpa using hR)
theorem wrap_u64 (n : Int) : IntKind.wrap .u64 n = n % 18446744073709551616 := by
 show (if (false && decide (n % (2 ^ 64 : Int) ≥ (2 ^ 63 : Int))) = true then n % (2 ^ 64 : Int) - (2 ^ 64 : Int) else n % (2 ^ 64 : Int)) = _
 have e1 : (2 ^ 64 : Int) = 18446744073709551616 := by decide
 rw [e1]
 rfl
theorem wrap_u8 (n : Int) : IntKind.wrap .u8 n = n % 256 := by
 show (if (false && decide (n % (2 ^ 8 : Int) ≥ (2 ^ 7 : Int))) = true then n % (2 ^ 8 : Int) - (2 ^ 8 : Int) else n % (2 ^ 8 : Int)) = _
 have e1 : (2 ^ 8 : Int) = 256 := by decide
 rw [e1]
 rfl
theorem b1_u8 (x : Int) : vBuildSl 1 (List.replicate 1 (.int .u8 0)) [(0,.int .u8 x)] = some [.int .u8 x] := rfl
end Go.Proofs.YtgghfcchanilpaaGreatDoor
