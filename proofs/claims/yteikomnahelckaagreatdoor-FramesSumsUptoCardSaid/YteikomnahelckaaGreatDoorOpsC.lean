import Derived.Test.YteikomnahelckaaGreatDoorGrd
import Derived.Test.YteikomnahelckaaGreatDoorAbsTabE
import Derived.Test.YteikomnahelckaaGreatDoorOpsG
set_option linter.unusedVariables false
set_option linter.unusedSimpArgs false
namespace Go.Abs
inductive Rch (st : Nat → Nat → Prop) : Nat → Nat → Prop where
 | one {a b : Nat} : st a b → Rch st a b
 | more {a b c : Nat} : Rch st a b → st b c → Rch st a c
theorem Rch.trans {st : Nat → Nat → Prop} {a b c : Nat} (h : Rch st a b) (k : Rch st b c) : Rch st a c := by
 induction k with
 | one k => exact .more h k
 | more _ k ih => exact .more ih k
theorem Rch.mono {st st' : Nat → Nat → Prop} (h : ∀ a b,st a b → st' a b) {a b : Nat} (k : Rch st a b) : Rch st' a b := by
 induction k with
 | one k => exact .one (h _ _ k)
 | more _ k ih => exact .more ih (h _ _ k)
theorem countP_lt {p q : Nat → Bool} : ∀ l : List Nat,(∀ x ∈ l,p x = true → q x = true) → (∃ x ∈ l,q x = true ∧ p x = false) → l.countP p < l.countP q
 | [],_,⟨x,hx,_⟩ => by simp at hx
 | y :: l,h,⟨x,hx,h1,h2⟩ => by
  have hle : l.countP p ≤ l.countP q := List.countP_mono_left fun x hx => h x (by simp [hx])
  rcases List.mem_cons.1 hx with rfl | hx
  ·rw [List.countP_cons_of_neg (by simp [h2]),List.countP_cons_of_pos h1]
   omega
  ·have := countP_lt l (fun x hx => h x (by simp [hx])) ⟨x,hx,h1,h2⟩
   rw [List.countP_cons,List.countP_cons]
   cases hp : p y with
   | true => simp [h y (by simp) hp]; omega
   | false => cases q y <;> simp <;> omega
open Classical in
theorem acyclic_wf {st : Nat → Nat → Prop} {n : Nat} (hn : ∀ a b,st a b → b < n) (h : ∀ a,a < n → ¬ Rch st a a) : WellFounded fun b a => st a b := by
 let μ : Nat → Nat := fun a => (List.range n).countP fun c => decide (Rch st a c)
 refine Subrelation.wf (r := fun b a => μ b < μ a) (fun {b a} hs => ?_) (measure μ).wf
 refine countP_lt _ (fun c _ hc => ?_) ⟨b,List.mem_range.2 (hn a b hs),?_,?_⟩
 ·have hc : Rch st b c := of_decide_eq_true hc
  exact decide_eq_true ((Rch.one hs).trans hc)
 ·exact decide_eq_true (.one hs)
 ·exact decide_eq_false (h b (hn a b hs))
structure Look (st : Nat → Nat → Prop) (m n : Nat) (seen : List Bool) (todo : Nat → Prop) (rest : Nat → Nat → Prop) : Prop where
 len : seen.length = n
 sound : ∀ i : Nat,seen[i]? = some true → Rch st m i
 from_ : ∀ a,todo a → a = m ∨ seen[a]? = some true
 closed : ∀ a,(a = m ∨ seen[a]? = some true) → todo a ∨ ∀ b,st a b → seen[b]? = some true ∨ rest a b
theorem Look.done {st : Nat → Nat → Prop} {m n : Nat} {seen : List Bool} (h : Look st m n seen (fun _ => False) fun _ _ => False) (i : Nat) : seen[i]? = some true ↔ Rch st m i := by
 refine ⟨h.sound i,fun hr => ?_⟩
 have step : ∀ a,(a = m ∨ seen[a]? = some true) → ∀ b,st a b → seen[b]? = some true := fun a ha b hb => by
  rcases h.closed a ha with h1 | h1
  ·exact h1.elim
  ·rcases h1 b hb with h2 | h2
   ·exact h2
   ·exact h2.elim
 induction hr with
 | one hs => exact step m (.inl rfl) _ hs
 | more _ hs ih => exact step _ (.inr ih) _ hs
def unseen (seen : List Bool) : Nat := seen.count false
theorem unseen_set : ∀ {seen : List Bool} {i : Nat},seen[i]? = some false → unseen (seen.set i true) + 1 = unseen seen
 | [],i,h => by simp at h
 | b :: l,0,h => by
  simp at h
  subst h
  simp [unseen]
 | b :: l,i + 1,h => by
  have := unseen_set (seen := l) (i := i) (by simpa using h)
  unfold unseen at this ⊢
  simp only [List.set_cons_succ,List.count_cons]
  omega
theorem Look.find {st : Nat → Nat → Prop} {m n : Nat} {seen : List Bool} {todo todo' : Nat → Prop} {rest rest' : Nat → Nat → Prop} {i : Nat} (h : Look st m n seen todo rest) (hi : i < n) (hs : Rch st m i)
  (h1 : ∀ a,todo' a ↔ todo a ∨ a = i) (h2 : ∀ a b,rest a b → b = i ∨ rest' a b) : Look st m n (seen.set i true) todo' rest' where
 len := by simpa using h.len
 sound := fun k hk => by
  rw [List.getElem?_set] at hk
  split at hk
  ·rename_i he
   subst he
   exact hs
  ·exact h.sound k hk
 from_ := fun a ha => by
  rcases (h1 a).1 ha with ha | rfl
  ·rcases h.from_ a ha with rfl | ha
   ·exact .inl rfl
   ·right
    rw [List.getElem?_set]
    split
    ·rw [if_pos (by have := h.len; omega)]
    ·exact ha
  ·right
   rw [List.getElem?_set_self (by rw [h.len]; exact hi)]
 closed := fun a ha => by
  by_cases hai : a = i
  ·exact .inl ((h1 a).2 (.inr hai))
  ·have ha' : a = m ∨ seen[a]? = some true := by
    rcases ha with ha | ha
    ·exact .inl ha
    ·rw [List.getElem?_set_ne (Ne.symm hai)] at ha
     exact .inr ha
   rcases h.closed a ha' with hq | hq
   ·exact .inl ((h1 a).2 (.inl hq))
   ·right
    intro b hb
    by_cases hbi : b = i
    ·left
     rw [hbi,List.getElem?_set_self (by rw [h.len]; exact hi)]
    ·rcases hq b hb with h3 | h3
     ·left
      rw [List.getElem?_set_ne (Ne.symm hbi)]
      exact h3
     ·rcases h2 a b h3 with h4 | h4
      ·exact absurd h4 hbi
      ·exact .inr h4
theorem Look.skip {st : Nat → Nat → Prop} {m n : Nat} {seen : List Bool} {todo : Nat → Prop} {rest rest' : Nat → Nat → Prop} {i : Nat} (h : Look st m n seen todo rest) (hs : seen[i]? = some true)
  (h2 : ∀ a b,rest a b → b = i ∨ rest' a b) : Look st m n seen todo rest' where
 len := h.len
 sound := h.sound
 from_ := h.from_
 closed := fun a ha => by
  rcases h.closed a ha with hq | hq
  ·exact .inl hq
  ·right
   intro b hb
   rcases hq b hb with h3 | h3
   ·exact .inl h3
   ·rcases h2 a b h3 with rfl | h4
    ·exact .inl hs
    ·exact .inr h4
theorem Look.take {st : Nat → Nat → Prop} {m n : Nat} {seen : List Bool} {todo todo' : Nat → Prop} {c : Nat} {el : Nat → Prop} (h : Look st m n seen todo fun _ _ => False) (h1 : ∀ a,todo a → todo' a ∨ a = c) (h2 : ∀ a,todo' a → todo a)
  (he : ∀ b,st c b → el b) : Look st m n seen todo' fun a b => a = c ∧ el b where
 len := h.len
 sound := h.sound
 from_ := fun a ha => h.from_ a (h2 a ha)
 closed := fun a ha => by
  rcases h.closed a ha with hq | hq
  ·rcases h1 a hq with hq | rfl
   ·exact .inl hq
   ·exact .inr fun b hb => .inr ⟨rfl,he b hb⟩
  ·exact .inr fun b hb => by
    rcases hq b hb with h3 | h3
    ·exact .inl h3
    ·exact h3.elim
theorem Look.start {st : Nat → Nat → Prop} {m n : Nat} : Look st m n (List.replicate n false) (fun a => a = m) fun _ _ => False where
 len := by simp
 sound := fun i h => by
  rw [List.getElem?_replicate] at h
  split at h <;> simp at h
 from_ := fun a ha => .inl ha
 closed := fun a ha => by
  rcases ha with ha | ha
  ·exact .inl ha
  ·rw [List.getElem?_replicate] at ha
   split at ha <;> simp at ha
end Go.Abs
namespace Go.Abs
abbrev Sl (α : Type) := LK × List α
def pvSl {α : Type} (enc : α → PV) (l : Sl α) : PV := .list l.1 (l.2.map enc)
def pvI (n : Int) : PV := .int .i64 n
structure ModeS where
 kind : Int
 size : Int
 elems : Sl Int
 names : Sl Str
 dims : Int
 flex : Bool
def pvMode (m : ModeS) : PV := .agg [.int .i64 m.kind,.int .i64 m.size,pvSl pvI m.elems,pvSl PV.str m.names,.int .i64 m.dims,.bool m.flex]
def zeroM : ModeS := ⟨0,0,(.nil,[]),(.nil,[]),0,false⟩
instance : Inhabited ModeS := ⟨zeroM⟩
structure SlotS where
 kind : Int
 size : Int
 map : Int
 dims : Int
 flex : Bool
 deriving DecidableEq
def pvSlot (s : SlotS) : PV := .agg [.int .i64 s.kind,.int .i64 s.size,.int .i64 s.map,.int .i64 s.dims,.bool s.flex]
def letterB (c : UInt8) : Bool := decide (97 ≤ c.toNat) && decide (c.toNat ≤ 122)
def digitB (c : UInt8) : Bool := decide (48 ≤ c.toNat) && decide (c.toNat ≤ 57)
def wordB : Str → Bool
 | [] => false
 | c :: s => letterB c && s.all (fun c => letterB c || digitB c)
def tagB (s : Str) : Bool := wordB s && decide (s.length ≤ 40)
def rowK (m : ModeS) : Bool := m.kind == 10
def structK (m : ModeS) : Bool := m.kind == 11
def unionK (m : ModeS) : Bool := m.kind == 12
def procK (m : ModeS) : Bool := m.kind == 13
def refK (m : ModeS) : Bool := m.kind == 9
def sizedK (m : ModeS) : Bool := m.kind == 3 || m.kind == 4 || m.kind == 5
def partsOk (m : ModeS) : Bool :=
 if refK m || rowK m then m.elems.2.length == 1
 else if structK m || procK m then decide (1 ≤ m.elems.2.length)
 else if unionK m then decide (2 ≤ m.elems.2.length)
 else m.elems.2.length == 0
def namesOkM (m : ModeS) : Bool := m.names.2.length == if structK m then m.elems.2.length else 0
def dimsOk (m : ModeS) : Bool := if rowK m then decide (1 ≤ m.dims) && decide (m.dims ≤ 3) else m.dims == 0
def sizeOk (m : ModeS) : Bool := if sizedK m then decide (-1 ≤ m.size) && decide (m.size ≤ 1) else m.size == 0
def shapeOk (m : ModeS) : Bool := decide (0 ≤ m.kind) && decide (m.kind < 14) && partsOk m && namesOkM m && dimsOk m && sizeOk m && (!m.flex || rowK m) && decide (m.elems.2.length ≤ 64)
def inN (n : Nat) (i : Int) : Bool := decide (0 ≤ i) && decide (i < n)
def onceB : List Str → Bool
 | [] => true
 | s :: l => !l.contains s && onceB l
def plainOk (n : Nat) (m : ModeS) : Bool := shapeOk m && m.elems.2.all (inN n) && m.names.2.all tagB && onceB m.names.2
theorem shapeOk_kind {m : ModeS} (h : shapeOk m = true) : 0 ≤ m.kind ∧ m.kind < 14 := by
 simp only [shapeOk,Bool.and_eq_true,decide_eq_true_eq] at h
 exact ⟨h.1.1.1.1.1.1.1,h.1.1.1.1.1.1.2⟩
theorem shapeOk_parts {m : ModeS} (h : shapeOk m = true) : partsOk m = true := by
 simp only [shapeOk,Bool.and_eq_true] at h
 exact h.1.1.1.1.1.2
abbrev Tbl := List ModeS
def mAtM (l : Tbl) (i : Nat) : ModeS := l.getD i zeroM
def elemsN (m : ModeS) : List Nat := m.elems.2.map Int.toNat
def solidE (m : ModeS) : List Int := if unionK m then [] else if procK m then m.elems.2.dropLast else m.elems.2
def voidsB (l : Tbl) (m : ModeS) : Bool := (solidE m).any fun i => (mAtM l i.toNat).kind == 0
def yinB (m : ModeS) : Bool := refK m || procK m
def yangB (m : ModeS) : Bool := structK m || procK m && decide (m.elems.2.length > 1)
def stepM (l : Tbl) (shield : ModeS → Bool) (a b : Nat) : Prop := a < l.length ∧ shield (mAtM l a) = false ∧ b ∈ elemsN (mAtM l a)
def BadM (l : Tbl) (m : Nat) : Prop := Rch (stepM l yinB) m m ∨ Rch (stepM l yangB) m m
def layM (l : Tbl) (a b : Nat) : Prop := a < l.length ∧ (rowK (mAtM l a) || structK (mAtM l a)) = true ∧ b ∈ elemsN (mAtM l a)
inductive FlexM (l : Tbl) : Nat → Prop where
 | here {m : Nat} : rowK (mAtM l m) = true → (mAtM l m).flex = true → FlexM l m
 | in_ {m e : Nat} : layM l m e → FlexM l e → FlexM l m
structure OkT (l : Tbl) : Prop where
 few : l.length ≤ 512
 plain : ∀ m ∈ l,plainOk l.length m = true
 solid : ∀ m ∈ l,voidsB l m = false
 good : ∀ m,m < l.length → ¬ BadM l m
 firm : ∀ m ∈ l,(unionK m || procK m) = true → ∀ e ∈ elemsN m,¬ FlexM l e
theorem mAtM_mem {l : Tbl} {i : Nat} (h : i < l.length) : mAtM l i ∈ l := by
 unfold mAtM
 rw [List.getD_eq_getElem?_getD,List.getElem?_eq_getElem h]
 exact List.getElem_mem h
theorem plain_elem {l : Tbl} (h : ∀ m ∈ l,plainOk l.length m = true) {m : ModeS} (hm : m ∈ l) {i : Int} (hi : i ∈ m.elems.2) : 0 ≤ i ∧ i.toNat < l.length ∧ (i.toNat : Int) = i := by
 have h1 := h m hm
 simp only [plainOk,Bool.and_eq_true,List.all_eq_true] at h1
 have h2 := h1.1.1.2 i hi
 simp only [inN,Bool.and_eq_true,decide_eq_true_eq] at h2
 omega
theorem plain_elemN {l : Tbl} (h : ∀ m ∈ l,plainOk l.length m = true) {m : ModeS} (hm : m ∈ l) {b : Nat} (hb : b ∈ elemsN m) : b < l.length := by
 obtain ⟨i,hi,rfl⟩ := List.mem_map.1 hb
 exact (plain_elem h hm hi).2.1
theorem lay_wf {l : Tbl} (hp : ∀ m ∈ l,plainOk l.length m = true) (hg : ∀ m,m < l.length → ¬ BadM l m) : WellFounded fun b a => layM l a b :=
 acyclic_wf (n := l.length) (fun a b h => plain_elemN hp (mAtM_mem h.1) h.2.2) fun a ha hr => hg a ha (.inl (hr.mono fun x y h => by
  refine ⟨h.1,?_,h.2.2⟩
  have := h.2.1
  simp only [rowK,structK,Bool.or_eq_true,beq_iff_eq] at this
  simp only [yinB,refK,procK,Bool.or_eq_false_iff,beq_eq_false_iff_ne]
  omega))
theorem FlexM.kind {l : Tbl} {m : Nat} (h : FlexM l m) : (rowK (mAtM l m) || structK (mAtM l m)) = true := by
 cases h with
 | here h1 h2 => simp [h1]
 | in_ h1 h2 => exact h1.2.1
end Go.Abs
namespace Go.Proofs.YteikomnahelckaaGreatDoor
open Go Go.Abs Go.ChangeShapes Go.WideShapes Go.ChangeAt Go.RowKit
section
variable {H : Type} {encH : TypeId × Value → H} {W : World}
abbrev dBool (b : Bool) (d : DataW H) : Prop := d = .lit (.bool b)
abbrev dStr (s : Str) (d : DataW H) : Prop := d = .lit (.string s)
abbrev dInt (n : Int) (d : DataW H) : Prop := d = .lit (.int .i64 n) ∧ (Lit.int .i64 n).wf = true
theorem oBool : Opens encH Tryz.prog W PV.bool dBool 4 1 := opens_bool Tryz.underlying4 (by kernel_rfl)
theorem oStr : Opens encH Tryz.prog W PV.str dStr 9 1 := opens_str Tryz.underlying9 (by kernel_rfl)
theorem oInt : Opens encH Tryz.prog W (PV.int .i64) dInt 3 1 := opens_int Tryz.underlying3 (by kernel_rfl)
theorem dat_iff {α : Type} {enc : α → PV} {dat dat' : α → DataW H → Prop} {t sz : Nat} (O : Opens encH Tryz.prog W enc dat t sz) (h : ∀ a d,dat a d → dat' a d) : Opens encH Tryz.prog W enc dat' t sz where
 cells := O.cells
 sized := O.sized
 open_ := by
  intro fuel cs x hl hx
  obtain ⟨a,v,h1,h2,h3,h4⟩ := O.open_ fuel cs x hl hx
  exact ⟨a,v,h1,h2,h3,h _ _ h4⟩
theorem bulk_mem {d : DataW H} : ∀ {l : List (DataW H)},d ∈ l → Rows.uptoBulk d ≤ Rows.uptoBulkAll l
 | x :: r,h => by
  simp only [Rows.uptoBulkAll]
  rcases List.mem_cons.1 h with rfl | h
  ·omega
  ·have := bulk_mem h
   omega
theorem bulk_one : ∀ d : DataW H,1 ≤ Rows.uptoBulk d
 | .lit (.string b) => by simp [Rows.uptoBulk]
 | .lit (.bool _) => by simp [Rows.uptoBulk]
 | .lit (.int _ _) => by simp [Rows.uptoBulk]
 | .lit (.float _ _) => by simp [Rows.uptoBulk]
 | .lit .nil => by simp [Rows.uptoBulk]
 | .nil => by simp [Rows.uptoBulk]
 | .ptr _ => by simp [Rows.uptoBulk]
 | .slice _ _ => by simp [Rows.uptoBulk]
 | .agg _ => by simp [Rows.uptoBulk]
 | .iface _ _ => by simp [Rows.uptoBulk]
 | .map _ => by simp [Rows.uptoBulk]
 | .held _ => by simp [Rows.uptoBulk]
theorem bulk_len : ∀ l : List (DataW H),l.length ≤ Rows.uptoBulkAll l
 | [] => Nat.zero_le _
 | d :: l => by
  have h1 := bulk_one d
  have h2 := bulk_len l
  simp only [Rows.uptoBulkAll,List.length_cons]
  omega
theorem bulk_sl {α : Type} {dat : α → DataW H → Prop} {p : Sl α} {d : DataW H} {n : Nat} (h : datSl dat p d) (hb : Rows.uptoBulk d ≤ n) : p.2.length ≤ n ∧ ∀ a ∈ p.2,∃ e,dat a e ∧ Rows.uptoBulk e ≤ n := by
 rcases h with ⟨rfl,rfl⟩ | ⟨es,sp,rfl,_,hl,hr⟩
 ·exact ⟨Nat.zero_le _,fun a ha => by cases ha⟩
 ·simp only [Rows.uptoBulk] at hb
  refine ⟨?_,fun a ha => ?_⟩
  ·have := bulk_len es
   omega
  ·obtain ⟨i,hi⟩ := List.getElem?_of_mem ha
   have hil : i < es.length := by rw [← hl]; exact (List.getElem?_eq_some_iff.1 hi).1
   have he : es[i]? = some es[i] := by simp [hil]
   refine ⟨es[i],hr i a _ hi he,?_⟩
   have := bulk_mem (List.mem_of_getElem? he)
   omega
theorem bulk_str {s : Str} {d : DataW H} {n : Nat} (h : dStr s d) (hb : Rows.uptoBulk d ≤ n) : s.length ≤ n := by
 subst h
 simp only [Rows.uptoBulk] at hb
 omega
theorem bulk_agg {d : DataW H} {l : List (DataW H)} {n : Nat} (hb : Rows.uptoBulk (.agg l : DataW H) ≤ n) (hd : d ∈ l) : Rows.uptoBulk d ≤ n := by
 simp only [Rows.uptoBulk] at hb
 have := bulk_mem hd
 omega
abbrev dMode (s : ModeS) (d : DataW H) : Prop := ∃ a b c e f g,d = .agg [a,b,c,e,f,g] ∧ dInt s.kind a ∧ dInt s.size b ∧ datSl dInt s.elems c ∧ datSl dStr s.names e ∧ dInt s.dims f ∧ dBool s.flex g
theorem oInts : Opens encH Tryz.prog W (pvSl pvI) (datSl dInt) 38 1 := opens_slice Tryz.underlying38 (by kernel_rfl) (by decide) oInt
theorem oStrs : Opens encH Tryz.prog W (pvSl PV.str) (datSl dStr) 39 1 := opens_slice Tryz.underlying39 (by kernel_rfl) (by decide) oStr
theorem oMode : Opens encH Tryz.prog W pvMode dMode 41 6 :=
 dat_iff (Opens'.iso (opens_struct Tryz.underlying41 (by kernel_rfl) (fields_cons rfl rfl oInt (fields_cons rfl rfl oInt (fields_cons rfl rfl oInts (fields_cons rfl rfl oStrs (fields_cons rfl rfl oInt (fields_cons rfl rfl oBool fields_nil)))))))
  (fun p => ModeS.mk p.1 p.2.1 p.2.2.1 p.2.2.2.1 p.2.2.2.2.1 p.2.2.2.2.2.1) (fun s => (s.kind,s.size,s.elems,s.names,s.dims,s.flex,())) (fun _ => rfl) (fun _ => rfl)) (by
   rintro a d ⟨ds,rfl,x,ds1,rfl,hx,y,ds2,rfl,hy,z,ds3,rfl,hz,u,ds4,rfl,hu,v,ds5,rfl,hv,w,ds6,rfl,hw,rfl⟩
   exact ⟨_,_,_,_,_,_,rfl,hx,hy,hz,hu,hv,hw⟩)
theorem oModes : Opens encH Tryz.prog W (pvSl pvMode) (datSl dMode) 22 1 := opens_slice Tryz.underlying22 (by kernel_rfl) (by decide) oMode
end
end Go.Proofs.YteikomnahelckaaGreatDoor
