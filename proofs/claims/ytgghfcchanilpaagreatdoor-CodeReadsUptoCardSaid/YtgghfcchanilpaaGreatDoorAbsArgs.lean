import Derived.ChangeArms
import Derived.ChangeSame
import Derived.DataReads
import Derived.Carry
import Derived.Lib.LaidTab
import Derived.Test.YtgghfcchanilpaaGreatDoorAbsE
set_option linter.unusedVariables false
set_option linter.unusedSimpArgs false
namespace Go.Abs
def Gh.all (w : World) : Gh := { I := fun B o => w.cell? ⟨B,o,none⟩,μ := fun _ _ => none,H := fun _ _ => none,n0 := w.heap.size }
def X4.all (w : World) (hg : ∀ g,Q7 (Gh.all w) (Zy g) (.pointer (some ⟨g,0,none⟩))) : X4 := ⟨w.heap.size,fun k => w.heap[k]?,Gh.all w,hg,rfl⟩
theorem Ns (w : World) (hg : ∀ g,Q7 (Gh.all w) (Zy g) (.pointer (some ⟨g,0,none⟩))) : Inv (Gh.all w) (X4.all w hg) [] w where
 imm B o v h := h
 dom b g y h := by cases h
 blk b k h := by simp at h
 inj b b' k k' B h := by simp at h
 sep B o h := by
  obtain ⟨b,k,hk,_⟩ := h
  simp at hk
 big := Nat.le_refl _
 gen b g z xs h := by simp at h
 domH b n y h := by cases h
 genH b v es h := by simp at h
 old k hk := rfl
 bas := .refl _
theorem SH {w w' : World} {hg : ∀ g,Q7 (Gh.all w) (Zy g) (.pointer (some ⟨g,0,none⟩))} {G' : Gh} {σ' : St} (hI : Inv G' (X4.all w hg) σ' w') (h : Ext (Gh.all w) [] w G' σ' w') : Go.RowKit.Below w.heap.size w w' :=
 ⟨h.os,h.tape,h.output,h.size,fun k hk => hI.old k hk⟩
section
variable {H : Type} {encH : TypeId × Value → H} {P : Program} {W : World}
def Ui (x : PV) : List PV := match x.cells? with
 | some cs => cs
 | none => []
structure UN (held : Bool) (encH : TypeId × Value → H) (P : Program) (W : World) {α : Type} (enc : α → PV) (dat : α → DataW H → Prop) (t : TypeId) (sz : Nat) : Prop where
 cells : P.cellsOf t = sz
 sized : ∀ a,∃ cs,(enc a).cells? = some cs ∧ cs.length = sz
 open_ : ∀ (fuel : Nat) (cs : List Value) (x : DataW H × List MemPlace),cs.length = sz → DataW.trod encH P W 0 (fun _ => true) held fuel t cs = some x →
  ∃ a v,v.cells.toList = cs ∧ Q7 (Gh.all W) (enc a) v ∧ (∀ u ∈ cs,u.oneCell' = true) ∧ dat a x.1
abbrev IM (encH : TypeId × Value → H) (P : Program) (W : World) {α : Type} (enc : α → PV) (dat : α → DataW H → Prop) (t : TypeId) (sz : Nat) : Prop := UN true encH P W enc dat t sz
theorem Iz {held : Bool} {t : TypeId} (ht : P.underlying t = some .bool) (hc : P.cellsOf t = 1) : UN held encH P W PV.bool (fun b d => d = .lit (.bool b)) t 1 where
 cells := hc
 sized a := ⟨_,rfl,rfl⟩
 open_ := by
  intro fuel cs x hl h
  obtain ⟨c,rfl⟩ := List.length_eq_one_iff.1 hl
  ·clear hl
   cases fuel with
   | zero => simp [DataW.trod] at h
   | succ n =>
    unfold DataW.trod at h
    rw [ht] at h
    cases c <;> simp at h
    rename_i b
    subst h
    exact ⟨b,.bool b,rfl,.bool b,by simp [Value.oneCell'],rfl⟩
theorem SB {held : Bool} {t : TypeId} (ht : P.underlying t = some .string) (hc : P.cellsOf t = 1) : UN held encH P W PV.str (fun s d => d = .lit (.string s)) t 1 where
 cells := hc
 sized a := ⟨_,rfl,rfl⟩
 open_ := by
  intro fuel cs x hl h
  obtain ⟨c,rfl⟩ := List.length_eq_one_iff.1 hl
  ·clear hl
   cases fuel with
   | zero => simp [DataW.trod] at h
   | succ n =>
    unfold DataW.trod at h
    rw [ht] at h
    cases c <;> simp at h
    rename_i s
    obtain ⟨_,rfl⟩ := h
    exact ⟨s.data.toList,.string s,rfl,.str s,by simp [Value.oneCell'],rfl⟩
theorem HY {held : Bool} {t : TypeId} {k : IntKind} (ht : P.underlying t = some (.int k)) (hc : P.cellsOf t = 1) : UN held encH P W (PV.int k) (fun n d => d = .lit (.int k n) ∧ (Lit.int k n).wf = true) t 1 where
 cells := hc
 sized a := ⟨_,rfl,rfl⟩
 open_ := by
  intro fuel cs x hl h
  obtain ⟨c,rfl⟩ := List.length_eq_one_iff.1 hl
  ·clear hl
   cases fuel with
   | zero => simp [DataW.trod] at h
   | succ n =>
    unfold DataW.trod at h
    rw [ht] at h
    cases c <;> simp at h
    rename_i k' m
    obtain ⟨⟨rfl,h1⟩,rfl⟩ := h
    exact ⟨m,.int k' m,rfl,.int _ _,by simp [Value.oneCell'],rfl,h1⟩
theorem F0 {G : Gh} {x y : PV} {xs ys : List PV} {v u : Value} (rx : Q7 G x v) (ry : Q7 G y u) (hx : x.cells? = some xs) (hy : y.cells? = some ys) : Q7 G (.agg (xs ++ ys)) (.agg (v.cells ++ u.cells)) := by
 obtain ⟨a1,a2,a3⟩ := rx.cells hx
 obtain ⟨b1,b2,b3⟩ := ry.cells hy
 obtain ⟨p1,p2⟩ := Tl a1 a2 b1 b2
 refine .agg _ _ p1 p2 fun i w hw => ?_
 rcases Nat.lt_or_ge i v.cells.size with h | h
 ·rw [Array.getElem?_append_left h] at hw
  exact a3 i w hw
 ·rw [Array.getElem?_append_right h] at hw
  exact b3 _ w hw
def Kc {α β : Type} (e0 : α → PV) (e1 : β → PV) (p : α × β) : PV := .agg (Ui (e0 p.1) ++ Ui (e1 p.2))
theorem IC {held : Bool} {α β : Type} {e0 : α → PV} {e1 : β → PV} {d0 : α → DataW H → Prop} {d1 : β → DataW H → Prop} {t t0 t1 : TypeId} {f0 f1 : Field} {s0 s1 : Nat} (ht : P.underlying t = some (.struct #[f0,f1])) (hc : P.cellsOf t = s0 + s1)
  (h0 : f0.type = t0) (h1 : f1.type = t1) (o0 : f0.offset = 0) (o1 : f1.offset = s0) (O0 : UN held encH P W e0 d0 t0 s0) (O1 : UN held encH P W e1 d1 t1 s1) :
  UN held encH P W (Kc e0 e1) (fun p d => ∃ x y,d = .agg [x,y] ∧ d0 p.1 x ∧ d1 p.2 y) t (s0 + s1) where
 cells := hc
 sized := by
  rintro ⟨a,b⟩
  obtain ⟨c0,q0,l0⟩ := O0.sized a
  obtain ⟨c1,q1,l1⟩ := O1.sized b
  exact ⟨_,rfl,by simp [Ui,q0,q1,l0,l1]⟩
 open_ := by
  intro fuel cs x hl h
  obtain ⟨y0,y1,n,rfl,hlen,t0',t1'⟩ := Go.ChangeShapes.trod_struct2 ht h
  rw [h0,o0,O0.cells] at t0'
  rw [h1,o1,O1.cells] at t1'
  obtain ⟨a,v,hv,rv,cv,dv⟩ := O0.open_ _ _ _ (by simp; omega) t0'
  obtain ⟨b,u,hu,ru,cu,du⟩ := O1.open_ _ _ _ (by simp; omega) t1'
  obtain ⟨c0,q0,l0⟩ := O0.sized a
  obtain ⟨c1,q1,l1⟩ := O1.sized b
  have hcs : cs = v.cells.toList ++ u.cells.toList := by
   rw [hv,hu,List.drop_zero]
   have : (cs.drop s0).take s1 = cs.drop s0 := List.take_of_length_le (by simp; omega)
   rw [this,List.take_append_drop]
  refine ⟨(a,b),.agg (v.cells ++ u.cells),?_,?_,fun w hw => ?_,_,_,rfl,dv,du⟩
  ·rw [hcs]; simp [Value.cells]
  ·have := F0 rv ru q0 q1
   simpa [Kc,Ui,q0,q1] using this
  ·rw [hcs,List.mem_append,hv,hu] at hw
   rcases hw with hw | hw
   ·exact cv w hw
   ·exact cu w hw
theorem OO {α β : Type} (R : Nat → β → α → Prop) : ∀ (l : List β) (n : Nat),(∀ i b,l[i]? = some b → ∃ a,R (n + i) b a) → ∃ as : List α,as.length = l.length ∧ ∀ (i : Nat) b a,l[i]? = some b → as[i]? = some a → R (n + i) b a
 | [],n,h => ⟨[],rfl,fun i b a hb => by simp at hb⟩
 | b :: l,n,h => by
  obtain ⟨a,ha⟩ := h 0 b rfl
  obtain ⟨as,h1,h2⟩ := OO R l (n + 1) fun i b' hb => by
   have := h (i + 1) b' (by simpa using hb)
   rw [show n + 1 + i = n + (i + 1) by omega]
   exact this
  refine ⟨a :: as,by simp [h1],fun i b' a' hb ha' => ?_⟩
  cases i with
  | zero => simp at hb ha'; subst hb ha'; exact ha
  | succ i =>
   have := h2 i b' a' (by simpa using hb) (by simpa using ha')
   rw [show n + (i + 1) = n + 1 + i by omega]
   exact this
theorem MJ {G : Gh} {xs ys : List PV} {vs us : List Value} (h : VK G xs vs) (k : VK G ys us) : VK G (xs ++ ys) (vs ++ us) := by
 obtain ⟨a1,a2,a3⟩ := h
 obtain ⟨b1,b2,b3⟩ := k
 refine ⟨by simp [a1,b1],fun i x v hx hv => ?_,fun v hv => ?_⟩
 ·rw [List.getElem?_append] at hx hv
  rw [a1] at hx
  split at hx
  ·rename_i hlt
   rw [if_pos hlt] at hv
   exact a2 i x v hx hv
  ·rename_i hlt
   rw [if_neg hlt] at hv
   exact b2 _ x v hx hv
 ·rcases List.mem_append.1 hv with h | h
  ·exact a3 v h
  ·exact b3 v h
theorem NC {α : Type} {G : Gh} {enc : α → PV} {sz : Nat} (hs : ∀ a,∃ cs,(enc a).cells? = some cs ∧ cs.length = sz) : ∀ (as : List α) (cs : List Value),cs.length = as.length * sz →
  (∀ i a,as[i]? = some a → ∃ v : Value,v.cells.toList = (cs.drop (i * sz)).take sz ∧ Q7 G (enc a) v) → VK G (as.flatMap fun a => Ui (enc a)) cs
 | [],cs,hl,_ => by
  obtain rfl : cs = [] := List.length_eq_zero_iff.1 (by simpa using hl)
  exact ⟨rfl,fun i x v hx => by simp at hx,fun v hv => by simp at hv⟩
 | a :: as,cs,hl,h => by
  obtain ⟨v,hv,rv⟩ := h 0 a rfl
  obtain ⟨q,hq,_⟩ := hs a
  have hpc : Ui (enc a) = q := by simp [Ui,hq]
  have e : cs = v.cells.toList ++ cs.drop sz := by
   rw [hv,Nat.zero_mul,List.drop_zero,List.take_append_drop]
  rw [List.flatMap_cons,hpc,e]
  refine MJ (rv.NV hq) (NC hs as _ ?_ fun i b hb => ?_)
  ·rw [List.length_cons,Nat.add_mul] at hl
   rw [List.length_drop]
   omega
  ·obtain ⟨u,hu,ru⟩ := h (i + 1) b (by simpa using hb)
   refine ⟨u,?_,ru⟩
   rw [hu,List.drop_drop]
   congr 2
   rw [Nat.add_mul]
   omega
def SV {α : Type} {n : Nat} (enc : α → PV) (l : { l : List α // l.length = n }) : PV := .agg (l.1.flatMap fun a => Ui (enc a))
theorem TV {held : Bool} {α : Type} {enc : α → PV} {dat : α → DataW H → Prop} {t e : TypeId} {n sz : Nat} (ht : P.underlying t = some (.array n e)) (hc : P.cellsOf t = n * sz) (O : UN held encH P W enc dat e sz) :
  UN held encH P W (SV (n := n) enc) (fun l d => ∃ es,d = .agg es ∧ es.length = n ∧ ∀ (i : Nat) a e,l.1[i]? = some a → es[i]? = some e → dat a e) t (n * sz) where
 cells := hc
 sized := by
  rintro ⟨l,hl⟩
  refine ⟨_,rfl,?_⟩
  have : ∀ l : List α,(l.flatMap fun a => Ui (enc a)).length = l.length * sz := by
   intro l
   induction l with
   | nil => simp
   | cons a l ih =>
    obtain ⟨q,hq,hql⟩ := O.sized a
    rw [List.flatMap_cons,List.length_append,ih,List.length_cons,Nat.add_mul]
    simp [Ui,hq,hql]
    omega
  rw [this,hl]
 open_ := by
  intro fuel cs x hl h
  cases fuel with
  | zero => simp [DataW.trod] at h
  | succ fuel =>
   unfold DataW.trod at h
   rw [ht] at h
   simp only [hc,hl,if_true,O.cells,Option.map_eq_some_iff] at h
   obtain ⟨xs,hm,rfl⟩ := h
   have hlen : xs.length = n := by have := Go.Lib.mapM_length hm; simpa using this
   obtain ⟨as,hal,hR⟩ := OO (fun i (b : DataW H × List MemPlace) (a : α) => ∃ v : Value,v.cells.toList = (cs.drop (i * sz)).take sz ∧ Q7 (Gh.all W) (enc a) v ∧ dat a b.1) xs 0 fun i b hb => by
    have hi : i < n := by rw [← hlen]; exact (List.getElem?_eq_some_iff.1 hb).1
    obtain ⟨b',hb',hf⟩ := Go.Lib.mapM_at hm i i (by simp [hi])
    obtain rfl : b' = b := Option.some.inj (hb'.symm.trans hb)
    have hle : (i + 1) * sz ≤ n * sz := Nat.mul_le_mul_right _ hi
    rw [Nat.add_mul] at hle
    obtain ⟨a,v,hv,rv,_,dv⟩ := O.open_ _ _ _ (by simp; omega) hf
    exact ⟨a,v,by rw [Nat.zero_add]; exact hv,rv,dv⟩
   have hcr : VK (Gh.all W) (as.flatMap fun a => Ui (enc a)) cs := NC O.sized as cs (by rw [hl,hal,hlen]) fun i a ha => by
    have hi : i < xs.length := by rw [← hal]; exact (List.getElem?_eq_some_iff.1 ha).1
    obtain ⟨v,hv,rv,_⟩ := hR i xs[i] a (by simp [hi]) ha
    exact ⟨v,by rw [Nat.zero_add] at hv; exact hv,rv⟩
   obtain ⟨c1,c2,c3⟩ := hcr
   refine ⟨⟨as,by rw [hal,hlen]⟩,.agg cs.toArray,by simp [Value.cells],.agg _ _ (by simpa using c1) (fun i x v hx hv => c2 i x v hx (by simpa using hv)) (fun i v hv => c3 v (List.mem_of_getElem? (by simpa using hv))),c3,xs.map (·.1),rfl,by simp [hlen],fun i a e ha he => ?_⟩
   rw [List.getElem?_map,Option.map_eq_some_iff] at he
   obtain ⟨b,hb,rfl⟩ := he
   exact (hR i b a hb ha).choose_spec.2.2
theorem IM.arg {α : Type} {enc : α → PV} {dat : α → DataW H → Prop} {t : TypeId} {sz : Nat} (O : IM encH P W enc dat t sz) {v : Value} {d : DataW H} {ps : List MemPlace} (hsz : v.cells.toList.length = sz) (hone : v.oneCell' = true ∨ ∃ cs,v = .agg cs)
  (h : DataW.Trod encH P W 0 (fun _ => true) true t v d ps) (hag : (∃ cs,v = .agg cs) → ∀ a,∃ cs,enc a = .agg cs) (hna : v.oneCell' = true → ∀ a cs,enc a ≠ .agg cs) : ∃ a,Q7 (Gh.all W) (enc a) v ∧ dat a d := by
 obtain ⟨fuel,h⟩ := h
 obtain ⟨a,u,hu,ru,cu,du⟩ := O.open_ _ _ _ hsz h
 refine ⟨a,?_,du⟩
 have : u = v := by
  rcases hone with h1 | ⟨cs,rfl⟩
  ·rw [ZV h1] at hu
   have hu1 : u.cells = #[v] := by apply Array.ext'; rw [hu]
   obtain ⟨cs,hcs,hl⟩ := O.sized a
   cases hea : enc a with
   | agg c => exact absurd hea (hna h1 a c)
   | any => rw [hea] at hcs; simp [PV.cells?] at hcs
   | tuple c => rw [hea] at hcs; simp [PV.cells?] at hcs
   | _ =>
    rw [hea] at ru
    have hone : u.oneCell' = true := by cases ru <;> rfl
    rw [ZV hone] at hu1
    simpa using hu1
  ·obtain ⟨c,hc⟩ := hag ⟨cs,rfl⟩ a
   rw [hc] at ru
   cases ru
   rename_i vs _ _ _
   have : vs = cs := by apply Array.ext'; simpa [Value.cells] using hu
   rw [this]
 rw [← this]
 exact ru
end
end Go.Abs
