import Derived.Test.YteikomnahelckaaGreatDoorSpA
import Derived.Test.YteikomnahelckaaGreatDoorFnC
import Derived.Test.YteikomnahelckaaGreatDoorOpsC
set_option linter.unusedVariables false
set_option linter.unusedSimpArgs false
namespace Go.Proofs.YteikomnahelckaaGreatDoor
open Go Go.Abs
def hasBodyP (P : Program) (f : FuncId) : Bool := match P.funcs[f]? with
 | some fn => fn.body.isSome
 | none => false
noncomputable abbrev hasBody (f : FuncId) : Bool := hasBodyP Tryz.prog f
theorem callG_funcP {P : Program} {call : CallP} {f k : Nat} (h : hasBodyP P f = true) (caps args : List PV) (σ : St) (K X : PV → St → Prop) : callG (algP call) P false (.func f k caps) args σ K X = callB call f (argsF k args caps) σ K X := by
 unfold hasBodyP at h
 unfold callG
 simp only
 cases hf : P.funcs[f]? with
 | none => simp [hf] at h
 | some fn =>
  rw [hf] at h
  simp only at h ⊢
  cases hb : fn.body with
  | none => simp [hb] at h
  | some c => rfl
theorem callG_func {f k : Nat} (h : hasBody f = true) (caps args : List PV) (σ : St) (K X : PV → St → Prop) : callG (algP W) Tryz.prog false (.func f k caps) args σ K X = callB W f (argsF k args caps) σ K X := callG_funcP h caps args σ K X
def idxOf {α : Type} (p : α → Bool) : List α → Nat → Int
 | [],_ => -1
 | a :: l,i => if p a then i else idxOf p l (i + 1)
theorem idxOf_hit {α : Type} {p : α → Bool} : ∀ {l : List α} {i n : Nat} {a : α},l[i]? = some a → p a = true → (l.take i).all (fun a => !p a) = true → idxOf p l n = ((n + i : Nat) : Int)
 | b :: l,0,n,a,h,hp,hn => by
  simp at h
  subst h
  simp [idxOf,hp]
 | b :: l,i + 1,n,a,h,hp,hn => by
  simp only [List.take_succ_cons,List.all_cons,Bool.and_eq_true,Bool.not_eq_true'] at hn
  have := idxOf_hit (l := l) (n := n + 1) (by simpa using h) hp hn.2
  simp only [idxOf,hn.1,Bool.false_eq_true,if_false,this]
  omega
theorem idxOf_none {α : Type} {p : α → Bool} : ∀ {l : List α} {n : Nat},l.all (fun a => !p a) = true → idxOf p l n = -1
 | [],n,h => rfl
 | b :: l,n,h => by
  simp only [List.all_cons,Bool.and_eq_true,Bool.not_eq_true'] at h
  simp only [idxOf,h.1,Bool.false_eq_true,if_false,idxOf_none h.2]
theorem idxOf_ge {α : Type} {p : α → Bool} : ∀ (l : List α) (n : Nat),decide (idxOf p l n ≥ 0) = l.any p
 | [],n => rfl
 | b :: l,n => by
  simp only [idxOf,List.any_cons]
  by_cases hb : p b = true
  ·simp [hb]
  ·simp only [hb,Bool.false_or,if_false]
   exact idxOf_ge l (n + 1)
structure EncOk {α : Type} (enc : α → PV) (ag : Bool) (sz : Nat) : Prop where
 cells : ∀ a,∃ cs,(enc a).cells? = some cs ∧ cs.length = sz
 part : ∀ a,vPart ag sz (enc a) 0 = some (enc a)
theorem EncOk.index {α : Type} {enc : α → PV} {ag : Bool} {sz : Nat} (h : EncOk enc ag sz) {l : List α} {i : Nat} {a : α} (ha : l[i]? = some a) {lk : LK} {k : IntKind} : vIndex sz (.list lk (l.map enc)) (.int k i) = some (.eptr (enc a) 0) := by
 obtain ⟨cs,h1,h2⟩ := h.cells a
 exact vIndex_list k (by rw [List.getElem?_map,ha]; rfl) h1 h2
theorem all_take_succ {α : Type} {q : α → Bool} {l : List α} {i : Nat} {a : α} (h : (l.take i).all q = true) (ha : l[i]? = some a) (hq : q a = true) : (l.take (i + 1)).all q = true := by
 rw [List.take_add_one,ha,List.all_append,h]
 simp [hq]
theorem c106 {α : Type} {enc : α → PV} (E : EncOk enc false 1) {l : List α} (p : α → Bool) {lk : LK} {g k : Nat} {caps : List PV} {σ : St} (hf : hasBody g = true) (hl : l.length < 4611686018427387904) (h : ∀ a ∈ l,Ret W g (argsF k [enc a] caps) σ (.bool (p a))) :
  Ret W 106 [.list lk (l.map enc),.func g k caps] σ (.int .i64 (idxOf p l 0)) := by
 refine ret_of fun R hR => ?_
 rw [fn106_eq]
 delta fn106 bF kF nI
 simp only [List.length_map,zz,Nat.reduceEqDiff]
 refine Lfp_up l.length (fun i x σ' => x = lookP [(0,.list lk (l.map enc)),(1,.func g k caps),(7,.int .i64 l.length),(8,.int .i64 i)] ∧ σ' = σ ∧ (l.take i).all (fun a => !p a) = true) ?_ ⟨rfl,rfl,rfl⟩
 rintro Φ i x σ' hi ⟨rfl,rfl,hp⟩ next
 simp only [zz,Nat.reduceEqDiff]
 by_cases hlt : i < l.length
 ·have hc : l[i]? = some l[i] := by simp [hlt]
  have hmem : l[i] ∈ l := by simp
  simp only [hlt,E.index hc,E.part,callG_func hf,zz,Nat.reduceEqDiff]
  refine (h _ hmem).callB ?_
  generalize l[i] = a at hc
  cases hpa : p a with
  | true =>
   simp only [zz,Nat.reduceEqDiff]
   refine weakW_keep ?_
   rw [idxOf_hit hc hpa hp] at hR
   simpa using hR
  | false =>
   simp only [zz,Nat.reduceEqDiff]
   rw [vBin_add _ (by omega) (by omega)]
   simp only [zz,Nat.reduceEqDiff]
   exact next _ _ hlt ⟨by simp,rfl,all_take_succ hp hc (by simp [hpa])⟩
 ·obtain rfl : i = l.length := by omega
  rw [List.take_length] at hp
  simp only [hlt,zz,Nat.reduceEqDiff]
  refine weakW_keep ?_
  rw [idxOf_none hp] at hR
  exact hR
theorem c190 {α : Type} {enc : α → PV} (E : EncOk enc false 1) {l : List α} (p : α → Bool) {lk : LK} {g k : Nat} {caps : List PV} {σ : St} (hf : hasBody g = true) (hl : l.length < 4611686018427387904) (h : ∀ a ∈ l,Ret W g (argsF k [enc a] caps) σ (.bool (p a))) :
  Ret W 190 [.list lk (l.map enc),.func g k caps] σ (.int .i64 (idxOf p l 0)) := by
 refine ret_of fun R hR => ?_
 rw [fn190_eq]
 delta fn190 bF kF nI
 simp only [List.length_map,zz,Nat.reduceEqDiff]
 refine Lfp_up l.length (fun i x σ' => x = lookP [(0,.list lk (l.map enc)),(1,.func g k caps),(7,.int .i64 l.length),(8,.int .i64 i)] ∧ σ' = σ ∧ (l.take i).all (fun a => !p a) = true) ?_ ⟨rfl,rfl,rfl⟩
 rintro Φ i x σ' hi ⟨rfl,rfl,hp⟩ next
 simp only [zz,Nat.reduceEqDiff]
 by_cases hlt : i < l.length
 ·have hc : l[i]? = some l[i] := by simp [hlt]
  have hmem : l[i] ∈ l := by simp
  simp only [hlt,E.index hc,E.part,callG_func hf,zz,Nat.reduceEqDiff]
  refine (h _ hmem).callB ?_
  generalize l[i] = a at hc
  cases hpa : p a with
  | true =>
   simp only [zz,Nat.reduceEqDiff]
   refine weakW_keep ?_
   rw [idxOf_hit hc hpa hp] at hR
   simpa using hR
  | false =>
   simp only [zz,Nat.reduceEqDiff]
   rw [vBin_add _ (by omega) (by omega)]
   simp only [zz,Nat.reduceEqDiff]
   exact next _ _ hlt ⟨by simp,rfl,all_take_succ hp hc (by simp [hpa])⟩
 ·obtain rfl : i = l.length := by omega
  rw [List.take_length] at hp
  simp only [hlt,zz,Nat.reduceEqDiff]
  refine weakW_keep ?_
  rw [idxOf_none hp] at hR
  exact hR
theorem c73 {α : Type} {enc : α → PV} (E : EncOk enc false 1) {l : List α} (p : α → Bool) {lk : LK} {g k : Nat} {caps : List PV} {σ : St} (hf : hasBody g = true) (hl : l.length < 4611686018427387904) (h : ∀ a ∈ l,Ret W g (argsF k [enc a] caps) σ (.bool (p a))) :
  Ret W 73 [.list lk (l.map enc),.func g k caps] σ (.bool (l.any p)) := by
 refine ret_of fun R hR => ?_
 rw [fn73_eq]
 delta fn73 bF nI
 refine (c106 E p hf hl h).callB ?_
 simp only [idxOf_ge,zz,Nat.reduceEqDiff]
 exact weakW_keep hR
theorem c113 {α : Type} {enc : α → PV} (E : EncOk enc false 1) {l : List α} (p : α → Bool) {lk : LK} {g k : Nat} {caps : List PV} {σ : St} (hf : hasBody g = true) (hl : l.length < 4611686018427387904) (h : ∀ a ∈ l,Ret W g (argsF k [enc a] caps) σ (.bool (p a))) :
  Ret W 113 [.list lk (l.map enc),.func g k caps] σ (.bool (l.any p)) := by
 refine ret_of fun R hR => ?_
 rw [fn113_eq]
 delta fn113 bF nI
 refine (c190 E p hf hl h).callB ?_
 simp only [idxOf_ge,zz,Nat.reduceEqDiff]
 exact weakW_keep hR
end Go.Proofs.YteikomnahelckaaGreatDoor
namespace Go.Proofs.YteikomnahelckaaGreatDoor
open Go Go.Abs
def Err (f : FuncId) (args : List PV) (σ : St) (p : Prop) : Prop := ∀ R : Res → St → Prop,(∀ e : Int,(e = 0 ↔ p) → R (.ret (.int .i64 e)) σ) → W f args σ R
theorem Err.callB {f : FuncId} {args : List PV} {σ : St} {p : Prop} (h : Err f args σ p) {K X : PV → St → Prop} (k : ∀ e : Int,(e = 0 ↔ p) → K (.int .i64 e) σ) : callB W f args σ K X := h _ k
theorem err_of {f : FuncId} {args : List PV} {σ : St} {p : Prop} (h : ∀ R : Res → St → Prop,(∀ e : Int,(e = 0 ↔ p) → R (.ret (.int .i64 e)) σ) → bodyC (algP W) Tryz.prog annF f args σ R) : Err f args σ p := fun R hR => callW_fold (h R hR)
def leastE (m : ModeS) : Int := if refK m || rowK m then 1 else if structK m || procK m then 1 else if unionK m then 2 else 0
def mostE (m : ModeS) : Int := if refK m || rowK m then 1 else if structK m || (procK m || unionK m) then m.elems.2.length else 0
def nmE (m : ModeS) : Int := if structK m then m.elems.2.length else 0
theorem parts_iff (m : ModeS) : partsOk m = true ↔ leastE m ≤ m.elems.2.length ∧ (m.elems.2.length : Int) ≤ mostE m := by
 unfold partsOk leastE mostE
 cases refK m <;> cases rowK m <;> cases structK m <;> cases procK m <;> cases unionK m <;> simp <;> omega
theorem names_iff (m : ModeS) : namesOkM m = true ↔ (m.names.2.length : Int) = nmE m := by
 unfold namesOkM nmE
 cases structK m <;> simp <;> omega
theorem c110 (m : ModeS) (σ : St) : Err 110 [pvMode m] σ (shapeOk m = true) := by
 refine err_of fun R hR => ?_
 rw [fn110_eq]
 delta fn110 bF pF gF kF nI
 have hbox : opC.vBoxAny (pvMode m) = some (6,pvMode m) := rfl
 have p0 : vPart false 1 (pvMode m) 0 = some (.int .i64 m.kind) := rfl
 have p1 : vPart false 1 (pvMode m) 1 = some (.int .i64 m.size) := rfl
 have p2 : vPart false 1 (pvMode m) 2 = some (.list m.elems.1 (m.elems.2.map pvI)) := rfl
 have p3 : vPart false 1 (pvMode m) 3 = some (.list m.names.1 (m.names.2.map PV.str)) := rfl
 have p4 : vPart false 1 (pvMode m) 4 = some (.int .i64 m.dims) := rfl
 have p5 : vPart false 1 (pvMode m) 5 = some (.bool m.flex) := rfl
 simp only [hbox,p0,zz,Nat.reduceEqDiff]
 refine orG (decide (m.kind ≥ 14)) (fun hb J next => ?_) ?_
 ·exact next _ rfl
 refine condB (fun h => ?_) (fun hk => ?_)
 ·refine weakW_keep (hR 13 ?_)
  simp only [Bool.or_eq_true,decide_eq_true_eq] at h
  simp only [shapeOk,Bool.and_eq_true,decide_eq_true_eq]
  omega
 have hkk : 0 ≤ m.kind ∧ m.kind < 14 := by
  simp only [Bool.or_eq_false_iff,decide_eq_false_iff_not] at hk
  omega
 refine CutW_by (fun x σ' => σ' = σ ∧ x = lookP [(3,.int .i64 (leastE m)),(4,.int .i64 (mostE m)),(1,pvMode m)]) ?_ ?_
 rotate_left
 ·simp only [p2,List.length_map,zz,Nat.reduceEqDiff]
  repeat' refine condB (fun h => ?_) (fun h => ?_)
  all_goals refine ⟨trivial,?_⟩
  all_goals simp_all [leastE,mostE,refK,rowK,structK,procK,unionK]
 rintro x σ' ⟨rfl,rfl⟩
 simp only [p0,zz,Nat.reduceEqDiff]
 refine orG (m.kind == 4) (fun hb J next => ?_) ?_
 ·exact next _ rfl
 refine orG (m.kind == 5) (fun hb J next => ?_) ?_
 ·exact next _ rfl
 have hs : (m.kind == 3 || m.kind == 4 || m.kind == 5) = sizedK m := rfl
 have hr : (m.kind == 10) = rowK m := rfl
 have ht : (m.kind == 11) = structK m := rfl
 rw [hs,hr,ht]
 refine CutW_by (fun x σ'' => σ'' = σ' ∧ x = lookP [(3,.int .i64 (leastE m)),(4,.int .i64 (mostE m)),(5,.int .i64 (nmE m)),(6,.bool (rowK m)),(7,.bool (sizedK m)),(1,pvMode m)]) ?_ ?_
 rotate_left
 ·simp only [p2,List.length_map,zz,Nat.reduceEqDiff]
  refine condB (fun h => ?_) (fun h => ?_)
  all_goals refine ⟨trivial,?_⟩
  all_goals simp only [nmE,h,if_true,Bool.false_eq_true,if_false]
 rintro x σ'' ⟨rfl,rfl⟩
 simp only [p2,List.length_map,zz,Nat.reduceEqDiff]
 refine orG (decide ((m.elems.2.length : Int) > mostE m)) (fun hb J next => ?_) ?_
 ·exact next _ rfl
 refine condB (fun h => ?_) (fun hp => ?_)
 ·refine condB (fun _ => ?_) (fun h' => by rw [h] at h'; cases h')
  refine weakW_keep (hR 14 ?_)
  simp only [shapeOk,Bool.and_eq_true,parts_iff,decide_eq_true_eq]
  simp only [Bool.or_eq_true,decide_eq_true_eq] at h
  omega
 have hp' : partsOk m = true := by
  rw [parts_iff]
  simp only [Bool.or_eq_false_iff,decide_eq_false_iff_not] at hp
  omega
 simp only [p3,List.length_map,zz,Nat.reduceEqDiff]
 refine condB (fun h => ?_) (fun hn => ?_)
 ·refine weakW_keep (hR 14 ?_)
  simp only [shapeOk,Bool.and_eq_true,names_iff,decide_eq_true_eq]
  simp only [bne_iff_ne,ne_eq] at h
  omega
 have hn' : namesOkM m = true := by
  rw [names_iff]
  simpa using hn
 have bad14 : shapeOk m = false → ((14 : Int) = 0 ↔ shapeOk m = true) := fun h => by rw [h]; decide
 cases hd : dimsOk m with
 | false =>
  have hx : shapeOk m = false := by simp [shapeOk,hd]
  have key : weakW σ'' (.int .i64 14) σ'' fun v σ => R (.ret v) σ := weakW_keep (hR 14 (bad14 hx))
  cases hrow : rowK m with
  | true =>
   simp only [dimsOk,hrow,if_true] at hd
   simp only [p4,zz,Nat.reduceEqDiff]
   cases h1 : decide (m.dims < 1) with
   | true =>
    simp only [zz,Nat.reduceEqDiff]
    exact key
   | false =>
    have h2 : decide (m.dims > 3) = true := by
     simp only [decide_eq_false_iff_not,Bool.and_eq_false_iff,decide_eq_true_eq] at h1 hd ⊢
     omega
    simp only [h2,zz,Nat.reduceEqDiff]
    exact key
  | false =>
   simp only [dimsOk,hrow,Bool.false_eq_true,if_false] at hd
   have h2 : (m.dims != 0) = true := by simpa using hd
   simp only [p4,h2,zz,Nat.reduceEqDiff]
   exact key
 | true =>
 have hdr : (rowK m = true ∧ decide (m.dims < 1) = false ∧ decide (m.dims > 3) = false) ∨ (rowK m = false ∧ (m.dims != 0) = false ∧ True) := by
  unfold dimsOk at hd
  cases hrow : rowK m with
  | true =>
   simp only [hrow,if_true,Bool.and_eq_true,decide_eq_true_eq] at hd
   refine .inl ⟨rfl,?_,?_⟩ <;> simp only [decide_eq_false_iff_not] <;> omega
  | false =>
   simp only [hrow,Bool.false_eq_true,if_false,beq_iff_eq] at hd
   exact .inr ⟨rfl,by simp [hd],trivial⟩
 have hzr : sizeOk m = true → (sizedK m = true ∧ decide (m.size < -1) = false ∧ decide (m.size > 1) = false) ∨ (sizedK m = false ∧ (m.size != 0) = false ∧ True) := by
  intro hz
  unfold sizeOk at hz
  cases hsz : sizedK m with
  | true =>
   simp only [hsz,if_true,Bool.and_eq_true,decide_eq_true_eq] at hz
   refine .inl ⟨rfl,?_,?_⟩ <;> simp only [decide_eq_false_iff_not] <;> omega
  | false =>
   simp only [hsz,Bool.false_eq_true,if_false,beq_iff_eq] at hz
   exact .inr ⟨rfl,by simp [hz],trivial⟩
 have hbad : ∀ c : Bool,c = false → (shapeOk m = true → c = true) → weakW σ'' (.int .i64 14) σ'' fun v σ => R (.ret v) σ := by
  intro c hc hx
  refine weakW_keep (hR 14 (bad14 ?_))
  cases h : shapeOk m with
  | false => rfl
  | true => rw [hx h] at hc; cases hc
 have hsz2 : sizeOk m = false → (sizedK m = true ∧ (decide (m.size < -1) = true ∨ decide (m.size < -1) = false ∧ decide (m.size > 1) = true)) ∨ (sizedK m = false ∧ (m.size != 0) = true) := by
  intro hz
  unfold sizeOk at hz
  cases hsz : sizedK m with
  | true =>
   simp only [hsz,if_true,Bool.and_eq_false_iff,decide_eq_false_iff_not] at hz
   refine .inl ⟨rfl,?_⟩
   simp only [decide_eq_true_eq,decide_eq_false_iff_not]
   omega
  | false =>
   simp only [hsz,Bool.false_eq_true,if_false,beq_eq_false_iff_ne] at hz
   exact .inr ⟨rfl,by simpa using hz⟩
 have hshape : shapeOk m = true → sizeOk m = true ∧ (!m.flex || rowK m) = true ∧ decide (m.elems.2.length ≤ 64) = true := by
  intro h
  simp only [shapeOk,Bool.and_eq_true] at h
  exact ⟨h.1.1.2,h.1.2,h.2⟩
 have hall : sizeOk m = true → (!m.flex || rowK m) = true → decide (m.elems.2.length ≤ 64) = true → shapeOk m = true := by
  intro h1 h2 h3
  simp [shapeOk,hkk,hp',hn',hd,h1]
  refine ⟨by simpa using h2,by simpa using h3⟩
 rcases hdr with ⟨hrow,e1,e2⟩ | ⟨hrow,e1,e2⟩
 all_goals simp only [hrow,p4,e1,e2,zz,Nat.reduceEqDiff]
 all_goals cases hz : sizeOk m with
  | false =>
   rcases hsz2 hz with ⟨hs1,hs2 | ⟨hs2,hs3⟩⟩ | ⟨hs1,hs2⟩
   all_goals simp only [hs1,p1,hs2,zz,Nat.reduceEqDiff]
   all_goals first
    | exact hbad _ hz fun h => (hshape h).1
    | (simp only [hs3,zz,Nat.reduceEqDiff]; exact hbad _ hz fun h => (hshape h).1)
  | true =>
   rcases hzr hz with ⟨hs1,hs2,hs3⟩ | ⟨hs1,hs2,hs3⟩
   all_goals simp only [hs1,p1,hs2,hs3,p5,zz,Nat.reduceEqDiff]
   all_goals cases hf : m.flex with
    | true =>
     try simp only [zz,Nat.reduceEqDiff]
     first
      | exact hbad (!m.flex || rowK m) (by simp [hf,hrow]) fun h => (hshape h).2.1
      | (try simp only [p2,List.length_map,zz,Nat.reduceEqDiff]
         refine condB (fun h => ?_) (fun h => ?_)
         · refine weakW_keep (hR 3 ?_)
           have : shapeOk m = false := by
             cases hx : shapeOk m with
             | false => rfl
             | true =>
               have := (hshape hx).2.2
               simp only [decide_eq_true_eq] at this h
               omega
           rw [this]
           decide
         · refine weakW_keep (hR 0 ?_)
           refine iff_of_true rfl (hall hz (by simp [hf,hrow]) ?_)
           simp only [decide_eq_true_eq,decide_eq_false_iff_not] at h ⊢
           omega)
    | false =>
     try simp only [p2,List.length_map,zz,Nat.reduceEqDiff]
     refine condB (fun h => ?_) (fun h => ?_)
     ·refine weakW_keep (hR 3 ?_)
      have : shapeOk m = false := by
       cases hx : shapeOk m with
       | false => rfl
       | true =>
        have := (hshape hx).2.2
        simp only [decide_eq_true_eq] at this h
        omega
      rw [this]
      decide
     ·refine weakW_keep (hR 0 ?_)
      refine iff_of_true rfl (hall hz (by simp [hf]) ?_)
      simp only [decide_eq_true_eq,decide_eq_false_iff_not] at h ⊢
      omega
end Go.Proofs.YteikomnahelckaaGreatDoor
