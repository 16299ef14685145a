import Derived.ChangeArms
import Derived.ChangeSame
import Derived.DataReads
import Derived.Carry
import Derived.Lib.LaidTab
import Derived.Test.YteikomnahelckaaGreatDoorAbsE
set_option linter.unusedVariables false
set_option linter.unusedSimpArgs false
namespace Go.Abs
def Gh.all (w : World) : Gh := { I := fun B o => w.cell? ⟨B,o,none⟩,μ := fun _ _ => none,H := fun _ _ => none,n0 := w.heap.size }
def Base.all (w : World) (hg : ∀ g,RelV (Gh.all w) (globPV g) (.pointer (some ⟨g,0,none⟩))) : Base := ⟨w.heap.size,fun k => w.heap[k]?,Gh.all w,hg,rfl⟩
theorem inv_all (w : World) (hg : ∀ g,RelV (Gh.all w) (globPV g) (.pointer (some ⟨g,0,none⟩))) : Inv (Gh.all w) (Base.all w hg) [] w where
 imm B o v h := h
 dom b g y h := by cases h
 blk b k h := by simp at h
 inj b b' k k' B h := by simp at h
 sep B o h := by
  obtain ⟨b,k,hk,_⟩ := h
  simp at hk
 big := Nat.le_refl _
 gen b g z xs h := by simp at h
 domH b n y h := by cases h
 genH b v es h := by simp at h
 old k hk := rfl
 bas := .refl _
theorem ext_below {w w' : World} {hg : ∀ g,RelV (Gh.all w) (globPV g) (.pointer (some ⟨g,0,none⟩))} {G' : Gh} {σ' : St} (hI : Inv G' (Base.all w hg) σ' w') (h : Ext (Gh.all w) [] w G' σ' w') : Go.RowKit.Below w.heap.size w w' :=
 ⟨h.os,h.tape,h.output,h.size,fun k hk => hI.old k hk⟩
section
variable {H : Type} {encH : TypeId × Value → H} {P : Program} {W : World}
def pcells (x : PV) : List PV := match x.cells? with
 | some cs => cs
 | none => []
structure Opens' (held : Bool) (encH : TypeId × Value → H) (P : Program) (W : World) {α : Type} (enc : α → PV) (dat : α → DataW H → Prop) (t : TypeId) (sz : Nat) : Prop where
 cells : P.cellsOf t = sz
 sized : ∀ a,∃ cs,(enc a).cells? = some cs ∧ cs.length = sz
 open_ : ∀ (fuel : Nat) (cs : List Value) (x : DataW H × List MemPlace),cs.length = sz → DataW.trod encH P W 0 (fun _ => true) held fuel t cs = some x →
  ∃ a v,v.cells.toList = cs ∧ RelV (Gh.all W) (enc a) v ∧ (∀ u ∈ cs,u.oneCell' = true) ∧ dat a x.1
abbrev Opens (encH : TypeId × Value → H) (P : Program) (W : World) {α : Type} (enc : α → PV) (dat : α → DataW H → Prop) (t : TypeId) (sz : Nat) : Prop := Opens' true encH P W enc dat t sz
theorem opens_bool {held : Bool} {t : TypeId} (ht : P.underlying t = some .bool) (hc : P.cellsOf t = 1) : Opens' held encH P W PV.bool (fun b d => d = .lit (.bool b)) t 1 where
 cells := hc
 sized a := ⟨_,rfl,rfl⟩
 open_ := by
  intro fuel cs x hl h
  obtain ⟨c,rfl⟩ := List.length_eq_one_iff.1 hl
  ·clear hl
   cases fuel with
   | zero => simp [DataW.trod] at h
   | succ n =>
    unfold DataW.trod at h
    rw [ht] at h
    cases c <;> simp at h
    rename_i b
    subst h
    exact ⟨b,.bool b,rfl,.bool b,by simp [Value.oneCell'],rfl⟩
theorem opens_str {held : Bool} {t : TypeId} (ht : P.underlying t = some .string) (hc : P.cellsOf t = 1) : Opens' held encH P W PV.str (fun s d => d = .lit (.string s)) t 1 where
 cells := hc
 sized a := ⟨_,rfl,rfl⟩
 open_ := by
  intro fuel cs x hl h
  obtain ⟨c,rfl⟩ := List.length_eq_one_iff.1 hl
  ·clear hl
   cases fuel with
   | zero => simp [DataW.trod] at h
   | succ n =>
    unfold DataW.trod at h
    rw [ht] at h
    cases c <;> simp at h
    rename_i s
    obtain ⟨_,rfl⟩ := h
    exact ⟨s.data.toList,.string s,rfl,.str s,by simp [Value.oneCell'],rfl⟩
theorem opens_int {held : Bool} {t : TypeId} {k : IntKind} (ht : P.underlying t = some (.int k)) (hc : P.cellsOf t = 1) : Opens' held encH P W (PV.int k) (fun n d => d = .lit (.int k n) ∧ (Lit.int k n).wf = true) t 1 where
 cells := hc
 sized a := ⟨_,rfl,rfl⟩
 open_ := by
  intro fuel cs x hl h
  obtain ⟨c,rfl⟩ := List.length_eq_one_iff.1 hl
  ·clear hl
   cases fuel with
   | zero => simp [DataW.trod] at h
   | succ n =>
    unfold DataW.trod at h
    rw [ht] at h
    cases c <;> simp at h
    rename_i k' m
    obtain ⟨⟨rfl,h1⟩,rfl⟩ := h
    exact ⟨m,.int k' m,rfl,.int _ _,by simp [Value.oneCell'],rfl,h1⟩
def encSl {α : Type} (enc : α → PV) (p : LK × List α) : PV := .list p.1 (p.2.map enc)
def datSl {α : Type} (dat : α → DataW H → Prop) (p : LK × List α) (d : DataW H) : Prop :=
 (d = .nil ∧ p = (.nil,[])) ∨ ∃ es sp,d = .slice es sp ∧ p.1 = .part ∧ p.2.length = es.length ∧ ∀ (i : Nat) a e,p.2[i]? = some a → es[i]? = some e → dat a e
theorem choose_list {α β : Type} (R : Nat → β → α → Prop) : ∀ (l : List β) (n : Nat),(∀ i b,l[i]? = some b → ∃ a,R (n + i) b a) → ∃ as : List α,as.length = l.length ∧ ∀ (i : Nat) b a,l[i]? = some b → as[i]? = some a → R (n + i) b a
 | [],n,h => ⟨[],rfl,fun i b a hb => by simp at hb⟩
 | b :: l,n,h => by
  obtain ⟨a,ha⟩ := h 0 b rfl
  obtain ⟨as,h1,h2⟩ := choose_list R l (n + 1) fun i b' hb => by
   have := h (i + 1) b' (by simpa using hb)
   rw [show n + 1 + i = n + (i + 1) by omega]
   exact this
  refine ⟨a :: as,by simp [h1],fun i b' a' hb ha' => ?_⟩
  cases i with
  | zero => simp at hb ha'; subst hb ha'; exact ha
  | succ i =>
   have := h2 i b' a' (by simpa using hb) (by simpa using ha')
   rw [show n + (i + 1) = n + 1 + i by omega]
   exact this
theorem cellsR_append {G : Gh} {xs ys : List PV} {vs us : List Value} (h : CellsR G xs vs) (k : CellsR G ys us) : CellsR G (xs ++ ys) (vs ++ us) := by
 obtain ⟨a1,a2,a3⟩ := h
 obtain ⟨b1,b2,b3⟩ := k
 refine ⟨by simp [a1,b1],fun i x v hx hv => ?_,fun v hv => ?_⟩
 ·rw [List.getElem?_append] at hx hv
  rw [a1] at hx
  split at hx
  ·rename_i hlt
   rw [if_pos hlt] at hv
   exact a2 i x v hx hv
  ·rename_i hlt
   rw [if_neg hlt] at hv
   exact b2 _ x v hx hv
 ·rcases List.mem_append.1 hv with h | h
  ·exact a3 v h
  ·exact b3 v h
theorem flat_cells {α : Type} {G : Gh} {enc : α → PV} {sz : Nat} (hs : ∀ a,∃ cs,(enc a).cells? = some cs ∧ cs.length = sz) : ∀ (as : List α) (cs : List Value),cs.length = as.length * sz →
  (∀ i a,as[i]? = some a → ∃ v : Value,v.cells.toList = (cs.drop (i * sz)).take sz ∧ RelV G (enc a) v) → CellsR G (as.flatMap fun a => pcells (enc a)) cs
 | [],cs,hl,_ => by
  obtain rfl : cs = [] := List.length_eq_zero_iff.1 (by simpa using hl)
  exact ⟨rfl,fun i x v hx => by simp at hx,fun v hv => by simp at hv⟩
 | a :: as,cs,hl,h => by
  obtain ⟨v,hv,rv⟩ := h 0 a rfl
  obtain ⟨q,hq,_⟩ := hs a
  have hpc : pcells (enc a) = q := by simp [pcells,hq]
  have e : cs = v.cells.toList ++ cs.drop sz := by
   rw [hv,Nat.zero_mul,List.drop_zero,List.take_append_drop]
  rw [List.flatMap_cons,hpc,e]
  refine cellsR_append (rv.cellsR hq) (flat_cells hs as _ ?_ fun i b hb => ?_)
  ·rw [List.length_cons,Nat.add_mul] at hl
   rw [List.length_drop]
   omega
  ·obtain ⟨u,hu,ru⟩ := h (i + 1) b (by simpa using hb)
   refine ⟨u,?_,ru⟩
   rw [hu,List.drop_drop]
   congr 2
   rw [Nat.add_mul]
   omega
def encArr {α : Type} {n : Nat} (enc : α → PV) (l : { l : List α // l.length = n }) : PV := .agg (l.1.flatMap fun a => pcells (enc a))
theorem opens_array {held : Bool} {α : Type} {enc : α → PV} {dat : α → DataW H → Prop} {t e : TypeId} {n sz : Nat} (ht : P.underlying t = some (.array n e)) (hc : P.cellsOf t = n * sz) (O : Opens' held encH P W enc dat e sz) :
  Opens' held encH P W (encArr (n := n) enc) (fun l d => ∃ es,d = .agg es ∧ es.length = n ∧ ∀ (i : Nat) a e,l.1[i]? = some a → es[i]? = some e → dat a e) t (n * sz) where
 cells := hc
 sized := by
  rintro ⟨l,hl⟩
  refine ⟨_,rfl,?_⟩
  have : ∀ l : List α,(l.flatMap fun a => pcells (enc a)).length = l.length * sz := by
   intro l
   induction l with
   | nil => simp
   | cons a l ih =>
    obtain ⟨q,hq,hql⟩ := O.sized a
    rw [List.flatMap_cons,List.length_append,ih,List.length_cons,Nat.add_mul]
    simp [pcells,hq,hql]
    omega
  rw [this,hl]
 open_ := by
  intro fuel cs x hl h
  cases fuel with
  | zero => simp [DataW.trod] at h
  | succ fuel =>
   unfold DataW.trod at h
   rw [ht] at h
   simp only [hc,hl,if_true,O.cells,Option.map_eq_some_iff] at h
   obtain ⟨xs,hm,rfl⟩ := h
   have hlen : xs.length = n := by have := Go.Lib.mapM_length hm; simpa using this
   obtain ⟨as,hal,hR⟩ := choose_list (fun i (b : DataW H × List MemPlace) (a : α) => ∃ v : Value,v.cells.toList = (cs.drop (i * sz)).take sz ∧ RelV (Gh.all W) (enc a) v ∧ dat a b.1) xs 0 fun i b hb => by
    have hi : i < n := by rw [← hlen]; exact (List.getElem?_eq_some_iff.1 hb).1
    obtain ⟨b',hb',hf⟩ := Go.Lib.mapM_at hm i i (by simp [hi])
    obtain rfl : b' = b := Option.some.inj (hb'.symm.trans hb)
    have hle : (i + 1) * sz ≤ n * sz := Nat.mul_le_mul_right _ hi
    rw [Nat.add_mul] at hle
    obtain ⟨a,v,hv,rv,_,dv⟩ := O.open_ _ _ _ (by simp; omega) hf
    exact ⟨a,v,by rw [Nat.zero_add]; exact hv,rv,dv⟩
   have hcr : CellsR (Gh.all W) (as.flatMap fun a => pcells (enc a)) cs := flat_cells O.sized as cs (by rw [hl,hal,hlen]) fun i a ha => by
    have hi : i < xs.length := by rw [← hal]; exact (List.getElem?_eq_some_iff.1 ha).1
    obtain ⟨v,hv,rv,_⟩ := hR i xs[i] a (by simp [hi]) ha
    exact ⟨v,by rw [Nat.zero_add] at hv; exact hv,rv⟩
   obtain ⟨c1,c2,c3⟩ := hcr
   refine ⟨⟨as,by rw [hal,hlen]⟩,.agg cs.toArray,by simp [Value.cells],.agg _ _ (by simpa using c1) (fun i x v hx hv => c2 i x v hx (by simpa using hv)) (fun i v hv => c3 v (List.mem_of_getElem? (by simpa using hv))),c3,xs.map (·.1),rfl,by simp [hlen],fun i a e ha he => ?_⟩
   rw [List.getElem?_map,Option.map_eq_some_iff] at he
   obtain ⟨b,hb,rfl⟩ := he
   exact (hR i b a hb ha).choose_spec.2.2
theorem slice_open {α : Type} {enc : α → PV} {dat : α → DataW H → Prop} {t e : TypeId} {sz : Nat} (ht : P.underlying t = some (.slice e)) (hpos : 0 < sz) (hcells : P.cellsOf e = sz) (fuel : Nat)
  (hO : ∀ n < fuel,∀ (cs : List Value) (x : DataW H × List MemPlace),cs.length = sz → DataW.trod encH P W 0 (fun _ => true) true n e cs = some x → ∃ a v,v.cells.toList = cs ∧ RelV (Gh.all W) (enc a) v ∧ (∀ u ∈ cs,u.oneCell' = true) ∧ dat a x.1)
  (cs : List Value) (x : DataW H × List MemPlace) (hl : cs.length = 1) (h : DataW.trod encH P W 0 (fun _ => true) true fuel t cs = some x) :
  ∃ a v,v.cells.toList = cs ∧ RelV (Gh.all W) (encSl enc a) v ∧ (∀ u ∈ cs,u.oneCell' = true) ∧ datSl dat a x.1 := by
 rcases DataW.trod_slice ht h with ⟨rfl,rfl⟩ | ⟨a,len,cap,elems,rest,n,rfl,rfl,rfl,hb,hlc,hm,hlen,hel,_,_⟩
 ·exact ⟨(.nil,[]),.slice none 0 0,rfl,.nillist,by simp [Value.oneCell'],.inl ⟨rfl,rfl⟩⟩
 ·rw [hcells] at hel
  
  have each : ∀ i y,elems[i]? = some y → ∃ q : α × Value,(∀ j u,q.2.cells[j]? = some u → u.oneCell' = true ∧ W.cell? ⟨a.block,a.off + i * sz + j,none⟩ = some u) ∧ q.2.cells.size = sz ∧ RelV (Gh.all W) (enc q.1) q.2 ∧ dat q.1 y.1 ∧ (a.spot = none) := by
   intro i y hy
   have hi : i < len := by rw [← hlen]; exact (List.getElem?_eq_some_iff.1 hy).1
   have := hel i hi
   rw [hy,Option.bind_eq_some_iff] at this
   obtain ⟨cs,h1,h2⟩ := this
   obtain ⟨_,hcl,hcell⟩ := World.cells?_some h1
   obtain ⟨b,v,hv,rv,cv,dv⟩ := hO n (by omega) _ _ hcl h2
   have hsz : v.cells.size = sz := by rw [← Array.length_toList,hv,hcl]
   
   have hspot : a.spot = none := by
    have h00 := hel 0 (by omega)
    have he0 : elems[0]? = some (elems[0]'(by omega)) := by simp
    rw [he0,Option.bind_eq_some_iff,Nat.zero_mul] at h00
    obtain ⟨c0,hq,_⟩ := h00
    obtain ⟨_,hc0l,hc0⟩ := World.cells?_some hq
    have h01 := hc0 0 hpos
    have e0 : (a.add 0).add 0 = a := rfl
    rw [e0] at h01
    have e1 : c0[0]? = some (c0[0]'(by omega)) := by simp
    rw [e1] at h01
    unfold World.cell? at h01
    cases hs : a.spot with
    | none => rfl
    | some s =>
     rw [hs] at h01
     split at h01
     ·simp at h01
     ·cases h01
   refine ⟨(b,v),fun j u hj => ⟨cv u ?_,?_⟩,hsz,rv,dv,hspot⟩
   ·rw [← hv]; exact Array.mem_toList_iff.2 (Array.mem_of_getElem? hj)
   ·have hjl : j < sz := by rw [← hsz]; exact (Array.getElem?_eq_some_iff.1 hj).1
    have := hcell j hjl
    rw [← hv] at this
    have ha : (a.add (i * sz)).add j = ⟨a.block,a.off + i * sz + j,none⟩ := by
     obtain ⟨B,O',s⟩ := a
     simp only at hspot
     subst hspot
     rw [addr_add,addr_add]
    rw [ha] at this
    rw [this]
    simpa using hj
  obtain ⟨qs,ql,qr⟩ := choose_list (fun i (y : DataW H × List MemPlace) (q : α × Value) => (∀ j u,q.2.cells[j]? = some u → u.oneCell' = true ∧ W.cell? ⟨a.block,a.off + i * sz + j,none⟩ = some u) ∧ q.2.cells.size = sz ∧ RelV (Gh.all W) (enc q.1) q.2 ∧ dat q.1 y.1 ∧ (a.spot = none)) elems 0 (fun i y hy => by rw [Nat.zero_add]; exact each i y hy)
  have qat : ∀ (i : Nat) (q : α × Value),qs[i]? = some q → ∃ y,elems[i]? = some y ∧ (∀ j u,q.2.cells[j]? = some u → u.oneCell' = true ∧ W.cell? ⟨a.block,a.off + i * sz + j,none⟩ = some u) ∧ q.2.cells.size = sz ∧ RelV (Gh.all W) (enc q.1) q.2 ∧ dat q.1 y.1 ∧ (a.spot = none) := by
   intro i q hq
   have hil : i < elems.length := by rw [← ql]; exact (List.getElem?_eq_some_iff.1 hq).1
   have hy : elems[i]? = some elems[i] := by simp [hil]
   have := qr i _ q hy hq
   rw [Nat.zero_add] at this
   exact ⟨_,hy,this⟩
  refine ⟨(.part,qs.map (·.1)),.slice (some a) len cap,rfl,?_,by simp [Value.oneCell'],.inr ⟨_,_,rfl,rfl,by simp [ql],fun i b d hb hd => ?_⟩⟩
  ·cases qs with
   | nil =>
    have : len = 0 := by rw [← hlen,← ql]; rfl
    subst this
    exact .emptyl a cap
   | cons q0 qr' =>
    have hsp : a.spot = none := by
     obtain ⟨y,_,_,_,_,_,h⟩ := qat 0 q0 rfl
     exact h
    obtain ⟨B,O',s⟩ := a
    simp only at hsp
    subst hsp
    have hll : (((q0 :: qr').map (·.1)).map enc).length = len := by rw [List.length_map,List.length_map,ql,hlen]
    have := RelV.list (G := Gh.all W) .part (((q0 :: qr').map (·.1)).map enc) B O' sz cap (fun i => ((q0 :: qr').map (·.2)).getD i .nilIface) (by simp) (fun h => by cases h) (by rw [hll]; exact hlc) (fun i x hx => by
     rw [List.map_map,List.getElem?_map,Option.map_eq_some_iff] at hx
     obtain ⟨q,hq,rfl⟩ := hx
     obtain ⟨y,_,_,_,h,_⟩ := qat i q hq
     simp only [List.getD_eq_getElem?_getD,List.getElem?_map,hq,Option.map_some,Option.getD_some]
     exact h) (fun i hi => by
     have hi' : i < (q0 :: qr').length := by simpa using hi
     have hq : (q0 :: qr')[i]? = some (q0 :: qr')[i] := by simp [hi']
     obtain ⟨y,_,h1,h2,_⟩ := qat i _ hq
     simp only [List.getD_eq_getElem?_getD,List.getElem?_map,hq,Option.map_some,Option.getD_some]
     exact ⟨h2,fun j u hj => h1 j u hj⟩)
    rw [hll] at this
    exact this
  ·rw [List.getElem?_map,Option.map_eq_some_iff] at hb hd
   obtain ⟨q,hq,rfl⟩ := hb
   obtain ⟨y,hy,rfl⟩ := hd
   obtain ⟨y',hy',_,_,_,h,_⟩ := qat i q hq
   rw [hy] at hy'
   cases hy'
   exact h
theorem opens_slice {α : Type} {enc : α → PV} {dat : α → DataW H → Prop} {t e : TypeId} {sz : Nat} (ht : P.underlying t = some (.slice e)) (hc : P.cellsOf t = 1) (hpos : 0 < sz) (O : Opens encH P W enc dat e sz) :
  Opens encH P W (encSl enc) (datSl dat) t 1 where
 cells := hc
 sized a := ⟨_,rfl,rfl⟩
 open_ fuel cs x hl h := slice_open ht hpos O.cells fuel (fun n _ => O.open_ n) cs x hl h
theorem Opens.arg {α : Type} {enc : α → PV} {dat : α → DataW H → Prop} {t : TypeId} {sz : Nat} (O : Opens encH P W enc dat t sz) {v : Value} {d : DataW H} {ps : List MemPlace} (hsz : v.cells.toList.length = sz) (hone : v.oneCell' = true ∨ ∃ cs,v = .agg cs)
  (h : DataW.Trod encH P W 0 (fun _ => true) true t v d ps) (hag : (∃ cs,v = .agg cs) → ∀ a,∃ cs,enc a = .agg cs) (hna : v.oneCell' = true → ∀ a cs,enc a ≠ .agg cs) : ∃ a,RelV (Gh.all W) (enc a) v ∧ dat a d := by
 obtain ⟨fuel,h⟩ := h
 obtain ⟨a,u,hu,ru,cu,du⟩ := O.open_ _ _ _ hsz h
 refine ⟨a,?_,du⟩
 have : u = v := by
  rcases hone with h1 | ⟨cs,rfl⟩
  ·rw [oneCell_cells h1] at hu
   have hu1 : u.cells = #[v] := by apply Array.ext'; rw [hu]
   obtain ⟨cs,hcs,hl⟩ := O.sized a
   cases hea : enc a with
   | agg c => exact absurd hea (hna h1 a c)
   | any => rw [hea] at hcs; simp [PV.cells?] at hcs
   | tuple c => rw [hea] at hcs; simp [PV.cells?] at hcs
   | _ =>
    rw [hea] at ru
    have hone : u.oneCell' = true := by cases ru <;> rfl
    rw [oneCell_cells hone] at hu1
    simpa using hu1
  ·obtain ⟨c,hc⟩ := hag ⟨cs,rfl⟩ a
   rw [hc] at ru
   cases ru
   rename_i vs _ _ _
   have : vs = cs := by apply Array.ext'; simpa [Value.cells] using hu
   rw [this]
 rw [← this]
 exact ru
end
end Go.Abs
