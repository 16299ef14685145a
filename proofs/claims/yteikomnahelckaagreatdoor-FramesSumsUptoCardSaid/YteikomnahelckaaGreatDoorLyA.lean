import Derived.Test.YteikomnahelckaaGreatDoorPlE
set_option linter.unusedVariables false
set_option linter.unusedSimpArgs false
namespace Go.Abs
inductive Flat : PV → Prop where
 | bool (b) : Flat (.bool b)
 | int (k i) : Flat (.int k i)
 | str (l) : Flat (.str l)
 | list (k xs) : (∀ x ∈ xs,Flat x) → Flat (.list k xs)
 | agg (xs) : (∀ x ∈ xs,Flat x) → Flat (.agg xs)
 | tuple (xs) : (∀ x ∈ xs,Flat x) → Flat (.tuple xs)
theorem Flat.free {x : PV} (h : Flat x) (D : Nat → Prop) : Free D x := by
 induction h with
 | bool b => exact .bool b
 | int k i => exact .int k i
 | str l => exact .str l
 | list k xs _ ih => exact .list k xs fun i x hx => ih x (List.mem_of_getElem? hx)
 | agg xs _ ih => exact .agg xs fun i x hx => ih x (List.mem_of_getElem? hx)
 | tuple xs _ ih => exact .tuple xs fun i x hx => ih x (List.mem_of_getElem? hx)
theorem Flat.frz {x : PV} (h : Flat x) (σ : St) (D : Nat → Prop) : FrzD σ D x x := .base _ (h.free D)
theorem Flat.under {x : PV} (h : Flat x) (n : Nat) : Under n x := by
 induction h with
 | bool b => exact .bool b
 | int k i => exact .int k i
 | str l => exact .str l
 | list k xs _ ih => exact .list k xs fun i x hx => ih x (List.mem_of_getElem? hx)
 | agg xs _ ih => exact .agg xs fun i x hx => ih x (List.mem_of_getElem? hx)
 | tuple xs _ ih => exact .tuple xs fun i x hx => ih x (List.mem_of_getElem? hx)
theorem get_pre {σ τ : St} (h : σ <+: τ) {i : Nat} {k : Blk} (hk : σ[i]? = some k) : τ[i]? = some k := by
 obtain ⟨t,rfl⟩ := h
 rw [List.getElem?_append_left (List.getElem?_eq_some_iff.1 hk).1]
 exact hk
theorem blk_lt {σ : St} {i : Nat} {k : Blk} (hk : σ[i]? = some k) : i < σ.length := (List.getElem?_eq_some_iff.1 hk).1
structure Sl5 where
 o : Option Nat
 sz : Nat
 v : PV
 xs : List PV
def IsG (σ : St) (s : Sl5) : Prop :=
 (s.o = none ∧ s.v = .list .nil [] ∧ s.xs = []) ∨ ∃ b g,s.o = some b ∧ s.v = .sref b g s.sz 0 s.xs.length ∧ σ[b]? = some (.arr g s.sz s.xs) ∧ s.xs ≠ []
theorem IsG.elems {σ : St} {s : Sl5} (h : IsG σ s) : Elems σ s.sz s.v s.xs := by
 rcases h with ⟨_,h1,h2⟩ | ⟨b,g,_,h1,h2,_⟩
 ·rw [h1,h2]; exact .list _ _
 ·rw [h1]; exact .sref b g 0 s.sz s.xs s.xs h2 (by omega) (by simp)
theorem IsG.len {σ : St} {s : Sl5} (h : IsG σ s) (σ' : St) : vLen .sl s.v σ' = some (.int .i64 s.xs.length) := h.elems.len σ'
theorem IsG.cell {σ : St} {s : Sl5} (h : IsG σ s) : s.v.cells? = some [s.v] := by
 rcases h with ⟨_,h1,_⟩ | ⟨b,g,_,h1,_,_⟩ <;> rw [h1] <;> rfl
def ids (S : List Sl5) : List Nat := S.filterMap (·.o)
def owL (p : Nat) (Q : List (Nat × Blk)) (S : List Sl5) : List Nat := p :: (Q.map (·.1) ++ ids S)
theorem ids_mid (L R : List Sl5) (s : Sl5) : ids (L ++ s :: R) = ids L ++ (s.o.toList ++ ids R) := by
 unfold ids
 rw [List.filterMap_append,List.filterMap_cons]
 cases s.o <;> rfl
theorem growV_ok (ys : List PV) : ∃ k,growV ys = .list k ys ∧ (k = .nil → ys = []) := by
 cases ys with
 | nil => exact ⟨_,rfl,fun _ => rfl⟩
 | cons y ys => exact ⟨_,rfl,fun h => by cases h⟩
structure Lay (σ : St) (p : Nat) (fx : List PV) (Q F : List (Nat × Blk)) (S : List Sl5) (cv : List PV) : Prop where
 lay : σ[p]? = some (.arr 0 (fx.length + cv.length) [.agg (fx ++ cv)])
 qs : ∀ x ∈ Q,σ[x.1]? = some x.2
 fs : ∀ x ∈ F,σ[x.1]? = some x.2
 ap : ∀ x ∈ F,x.1 ∉ owL p Q S
 sl : ∀ s ∈ S,IsG σ s
 nod : (owL p Q S).Nodup
section
variable {σ σ' : St} {p : Nat} {fx : List PV} {Q F : List (Nat × Blk)} {S L R : List Sl5} {s : Sl5} {cv : List PV}
theorem IsG.id {σ : St} {s : Sl5} (h : IsG σ s) {b : Nat} (hb : s.o = some b) : b < σ.length := by
 rcases h with ⟨h,_⟩ | ⟨c,g,h,_,h2,_⟩
 ·rw [h] at hb; cases hb
 ·rw [h] at hb; cases hb; exact blk_lt h2
theorem Lay.lt (h : Lay σ p fx Q F S cv) {b : Nat} (hb : b ∈ owL p Q S) : b < σ.length := by
 unfold owL at hb
 rcases List.mem_cons.1 hb with rfl | hb
 ·exact blk_lt h.lay
 ·rcases List.mem_append.1 hb with hb | hb
  ·obtain ⟨x,hx,rfl⟩ := List.mem_map.1 hb
   exact blk_lt (h.qs x hx)
  ·obtain ⟨s,hs,ho⟩ := List.mem_filterMap.1 hb
   exact (h.sl s hs).id ho
theorem IsG.to {σ σ' : St} {s : Sl5} (h : IsG σ s) (he : ∀ b,s.o = some b → σ'[b]? = σ[b]?) : IsG σ' s := by
 rcases h with h | ⟨b,g,h1,h2,h3,h4⟩
 ·exact .inl h
 ·exact .inr ⟨b,g,h1,h2,by rw [he b h1]; exact h3,h4⟩
theorem Lay.to (h : Lay σ p fx Q F S cv) (ho : ∀ b ∈ owL p Q S,σ'[b]? = σ[b]?) (hf : ∀ x ∈ F,σ'[x.1]? = σ[x.1]?) : Lay σ' p fx Q F S cv where
 lay := by rw [ho p (by simp [owL])]; exact h.lay
 qs := fun x hx => by rw [ho x.1 (by unfold owL; simp only [List.mem_cons,List.mem_append,List.mem_map]; exact .inr (.inl ⟨x,hx,rfl⟩))]; exact h.qs x hx
 fs := fun x hx => by rw [hf x hx]; exact h.fs x hx
 ap := h.ap
 sl := fun s hs => (h.sl s hs).to fun b hb => ho b (by unfold owL ids; simp only [List.mem_cons,List.mem_append,List.mem_filterMap]; exact .inr (.inr ⟨s,hs,hb⟩))
 nod := h.nod
theorem Lay.pre (h : Lay σ p fx Q F S cv) (hp : σ <+: σ') : Lay σ' p fx Q F S cv :=
 h.to (fun b hb => by
  obtain ⟨t,rfl⟩ := hp
  rw [List.getElem?_append_left (h.lt hb)]) (fun x hx => by
  obtain ⟨t,rfl⟩ := hp
  rw [List.getElem?_append_left (blk_lt (h.fs x hx))])
theorem Lay.load (h : Lay σ p fx Q F S cv) {j : Nat} {v : PV} (hj : (fx ++ cv)[j]? = some v) : vLoad false 1 (.ptr p 0 0 j) σ = some v := by
 simp only [vLoad,h.lay,if_true,List.getElem?_cons_zero]
 exact hj
theorem take_set {α : Type} {l : List α} {k : Nat} {a : α} (hk : k < l.length) : l.take k ++ [a] ++ l.drop (k + 1) = l.set k a := by
 rw [List.set_eq_take_append_cons_drop,if_pos hk]
 simp
theorem Lay.put (h : Lay σ p fx Q F S cv) {j : Nat} (hj : j < cv.length) {v : PV} (hv : v.cells? = some [v]) :
  ∃ σ',vStore 1 (.ptr p 0 0 (fx.length + j)) v σ = some σ' ∧ Lay σ' p fx Q F S (cv.set j v) ∧ σ' = σ.set p (.arr 0 (fx.length + cv.length) [.agg (fx ++ cv.set j v)]) := by
 have hlt := blk_lt h.lay
 refine ⟨σ.set p (.arr 0 (fx.length + cv.length) [.agg (fx ++ cv.set j v)]),?_,?_,rfl⟩
 ·simp only [vStore,h.lay,if_true,List.getElem?_cons_zero,vPut,hv,List.length_append,List.length_singleton]
  rw [if_pos (by omega)]
  simp only [setRange,List.length_singleton]
  rw [take_set (by simp; omega),List.set_append_right _ _ (by omega),Nat.add_sub_cancel_left]
  rfl
 ·have hn := h.nod
  have hpn : p ∉ Q.map (·.1) ++ ids S := (List.nodup_cons.1 hn).1
  refine ⟨by rw [List.getElem?_set_self hlt,List.length_set],fun x hx => ?_,fun x hx => ?_,h.ap,fun s hs => ?_,hn⟩
  ·rw [List.getElem?_set_ne (fun e => hpn (List.mem_append_left _ (List.mem_map.2 ⟨x,hx,e.symm⟩)))]
   exact h.qs x hx
  ·rw [List.getElem?_set_ne (fun e => h.ap x hx (by simp [owL,e]))]
   exact h.fs x hx
  ·refine (h.sl s hs).to fun b hb => List.getElem?_set_ne (fun e : p = b => hpn (List.mem_append_right _ (List.mem_filterMap.2 ⟨s,hs,e ▸ hb⟩)))
theorem perm_own (A B C : List Nat) (b p : Nat) : (p :: (A ++ (B ++ ([b] ++ C)))).Perm (b :: (p :: (A ++ (B ++ C)))) := by
 refine (List.Perm.cons p ?_).trans (List.Perm.swap b p _)
 rw [← List.append_assoc,← List.append_assoc A B C]
 exact List.perm_middle
theorem own_mid : owL p Q (L ++ s :: R) = p :: (Q.map (·.1) ++ (ids L ++ (s.o.toList ++ ids R))) := by
 unfold owL
 rw [ids_mid]
theorem Lay.setB (h : Lay σ p fx Q F (L ++ s :: R) cv) {b : Nat} (hb : s.o = some b) {k : Blk} {s' : Sl5} (hs' : s'.o = some b) (hk : IsG (σ.set b k) s') : Lay (σ.set b k) p fx Q F (L ++ s' :: R) cv := by
 have e : owL p Q (L ++ s' :: R) = owL p Q (L ++ s :: R) := by rw [own_mid,own_mid,hb,hs']
 have hn := h.nod
 rw [own_mid,hb] at hn
 simp only [Option.toList_some] at hn
 have hpm : (p :: (Q.map (·.1) ++ (ids L ++ ([b] ++ ids R)))).Perm (b :: (p :: (Q.map (·.1) ++ (ids L ++ ids R)))) := perm_own _ _ _ _ _
 have hnb := (List.nodup_cons.1 (hpm.nodup_iff.1 hn)).1
 have hbm : b ∈ owL p Q (L ++ s :: R) := by rw [own_mid,hb]; simp
 refine ⟨?_,fun x hx => ?_,fun x hx => ?_,fun x hx => by rw [e]; exact h.ap x hx,fun t ht => ?_,by rw [e]; exact h.nod⟩
 ·rw [List.getElem?_set_ne (fun e => hnb (by simp [e]))]; exact h.lay
 ·rw [List.getElem?_set_ne (fun e => hnb (by simp only [List.mem_cons,List.mem_append,List.mem_map]; exact .inr (.inl ⟨x,hx,e.symm⟩)))]
  exact h.qs x hx
 ·rw [List.getElem?_set_ne (fun e : b = x.1 => h.ap x hx (e ▸ hbm))]
  exact h.fs x hx
 ·have other : t ∈ L ∨ t ∈ R → IsG (σ.set b k) t := fun ht => by
   have htm : t ∈ L ++ s :: R := by
    rcases ht with ht | ht
    ·exact List.mem_append_left _ ht
    ·exact List.mem_append_right _ (List.mem_cons_of_mem _ ht)
   refine (h.sl t htm).to fun c hc => List.getElem?_set_ne (fun e : b = c => hnb ?_)
   simp only [List.mem_cons,List.mem_append]
   refine .inr (.inr ?_)
   unfold ids
   rcases ht with ht | ht
   ·exact .inl (List.mem_filterMap.2 ⟨t,ht,e ▸ hc⟩)
   ·exact .inr (List.mem_filterMap.2 ⟨t,ht,e ▸ hc⟩)
  rcases List.mem_append.1 ht with ht | ht
  ·exact other (.inl ht)
  ·rcases List.mem_cons.1 ht with rfl | ht
   ·exact hk
   ·exact other (.inr ht)
structure Stp (o : List Nat) (σ : St) (o' : List Nat) (σ' : St) : Prop where
 len : σ.length ≤ σ'.length
 frm : ∀ b,b < σ.length → b ∉ o → σ'[b]? = σ[b]?
 new : ∀ b ∈ o',b ∈ o ∨ σ.length ≤ b
 old : ∀ b ∈ o,b ∈ o'
theorem Stp.refl (o : List Nat) (σ : St) : Stp o σ o σ := ⟨Nat.le_refl _,fun _ _ _ => rfl,fun _ h => .inl h,fun _ h => h⟩
theorem Stp.trans {o o' o'' : List Nat} {σ σ' σ'' : St} (h : Stp o σ o' σ') (k : Stp o' σ' o'' σ'') : Stp o σ o'' σ'' where
 len := Nat.le_trans h.len k.len
 frm := fun b hb hn => by
  rw [k.frm b (Nat.lt_of_lt_of_le hb h.len) (fun hm => by rcases h.new b hm with h1 | h1; exact hn h1; omega)]
  exact h.frm b hb hn
 new := fun b hb => by
  rcases k.new b hb with h1 | h1
  ·exact h.new b h1
  ·exact .inr (Nat.le_trans h.len h1)
 old := fun b hb => k.old b (h.old b hb)
theorem Stp.pre {o : List Nat} {σ σ' : St} (h : σ <+: σ') : Stp o σ o σ' := ⟨h.length_le,fun b hb _ => by obtain ⟨t,rfl⟩ := h; rw [List.getElem?_append_left hb],fun _ h => .inl h,fun _ h => h⟩
theorem Stp.set {o : List Nat} {σ : St} {b : Nat} (hb : b ∈ o) (k : Blk) : Stp o σ o (σ.set b k) := ⟨by simp,fun c _ hc => List.getElem?_set_ne (fun e : b = c => hc (e ▸ hb)),fun _ h => .inl h,fun _ h => h⟩
theorem Lay.app (h : Lay σ p fx Q F (L ++ s :: R) cv) {by_ : Nat} {k : LK} {y : PV} {ys : List PV} (hz : ∀ z ∈ y :: ys,Sized s.sz z) (hr : (s.xs.length + (y :: ys).length) * by_ ≤ 140737488355328) :
  ∃ v' σ' o',vAppend s.sz by_ s.v (.list k (y :: ys)) σ = some (v',σ') ∧ Lay σ' p fx Q F (L ++ ⟨o',s.sz,v',s.xs ++ y :: ys⟩ :: R) cv ∧ Stp (owL p Q (L ++ s :: R)) σ (owL p Q (L ++ (⟨o',s.sz,v',s.xs ++ y :: ys⟩ : Sl5) :: R)) σ' := by
 have hroom : roomy (s.xs.length + (y :: ys).length) by_ = true := by simp [roomy]; simpa using hr
 have hs := h.sl s (by simp)
 rcases hs with ⟨h1,h2,h3⟩ | ⟨b,g,h1,h2,h3,h4⟩
 ·refine ⟨.sref σ.length 0 s.sz 0 (y :: ys).length,σ ++ [.arr 0 s.sz (y :: ys)],some σ.length,?_,?_,?_⟩
  ·rw [h3] at hroom
   simp only [List.length_nil] at hroom
   rw [h2]
   simp only [vAppend,vElems,List.isEmpty_cons,Bool.false_eq_true,if_false,List.length_nil]
   rw [if_pos ⟨by simp,hroom,rfl,headSized_of hz⟩]
   simp
  ·have hpre : σ <+: σ ++ [.arr 0 s.sz (y :: ys)] := List.prefix_append _ _
   have h' := h.pre hpre
   have hperm : (owL p Q (L ++ (⟨some σ.length,s.sz,.sref σ.length 0 s.sz 0 (y :: ys).length,s.xs ++ y :: ys⟩ : Sl5) :: R)).Perm (σ.length :: owL p Q (L ++ s :: R)) := by
    rw [own_mid,own_mid,h1]
    exact perm_own _ _ _ _ _
   refine ⟨h'.lay,h'.qs,h'.fs,fun x hx hm => ?_,fun t ht => ?_,?_⟩
   ·rcases List.mem_cons.1 (hperm.mem_iff.1 hm) with e | hm
    ·have := blk_lt (h.fs x hx); omega
    ·exact h.ap x hx hm
   ·rcases List.mem_append.1 ht with ht | ht
    ·exact h'.sl t (List.mem_append_left _ ht)
    ·rcases List.mem_cons.1 ht with rfl | ht
     ·refine .inr ⟨σ.length,0,rfl,by simp [h3],by simp [h3],by simp⟩
     ·exact h'.sl t (List.mem_append_right _ (List.mem_cons_of_mem _ ht))
   ·rw [hperm.nodup_iff]
    exact List.nodup_cons.2 ⟨fun hm => by have := h.lt hm; omega,h.nod⟩
  ·refine ⟨by simp,fun b hb _ => List.getElem?_append_left hb,fun b hb => ?_,fun b hb => ?_⟩
   rotate_left
   ·rw [own_mid] at hb ⊢
    rw [h1] at hb
    simp only [Option.toList_some,Option.toList_none,List.mem_cons,List.mem_append,List.not_mem_nil,or_false,List.nil_append,false_or] at hb ⊢
    rcases hb with hb | hb | hb | hb
    ·exact .inl hb
    ·exact .inr (.inl hb)
    ·exact .inr (.inr (.inl hb))
    ·exact .inr (.inr (.inr (.inr hb)))
   rw [own_mid] at hb ⊢
   rw [h1]
   simp only [Option.toList_some,Option.toList_none,List.mem_cons,List.mem_append,List.not_mem_nil,or_false,List.nil_append,false_or] at hb ⊢
   rcases hb with hb | hb | hb | hb | hb
   ·exact .inl (.inl hb)
   ·exact .inl (.inr (.inl hb))
   ·exact .inl (.inr (.inr (.inl hb)))
   ·exact .inr (by omega)
   ·exact .inl (.inr (.inr (.inr hb)))
 ·have hbl := blk_lt h3
  refine ⟨.sref b (nextG g) s.sz 0 (s.xs.length + (y :: ys).length),σ.set b (.arr (nextG g) s.sz (s.xs ++ y :: ys)),some b,?_,?_,?_⟩
  ·rw [h2]
   simp only [vAppend,vElems,h3]
   simp only [List.isEmpty_cons,Bool.false_eq_true,if_false]
   rw [if_pos ⟨trivial,trivial,by omega,hroom,headSized_of hz⟩,if_neg (by simp)]
   simp
  ·refine h.setB h1 rfl (.inr ⟨b,nextG g,rfl,by simp,by simp [hbl],by simp⟩)
  ·have hbm : b ∈ owL p Q (L ++ s :: R) := by rw [own_mid,h1]; simp
   refine ⟨by simp,(Stp.set hbm _).frm,fun c hc => .inl ?_,fun c hc => ?_⟩
   ·rw [own_mid] at hc ⊢
    rw [h1]
    exact hc
   ·rw [own_mid] at hc ⊢
    rw [h1] at hc
    exact hc
theorem Lay.index (h : Lay σ p fx Q F (L ++ s :: R) cv) {i : Nat} (hi : i < s.xs.length) (k : IntKind) : ∃ b g,s.o = some b ∧ σ[b]? = some (.arr g s.sz s.xs) ∧ vIndex s.sz s.v (.int k i) = some (.ptr b g i 0) := by
 rcases h.sl s (by simp) with ⟨_,_,h3⟩ | ⟨b,g,h1,h2,h3,h4⟩
 ·rw [h3] at hi; simp at hi
 ·refine ⟨b,g,h1,h3,?_⟩
  rw [h2]
  simp only [vIndex]
  rw [if_pos ⟨by omega,by omega,trivial⟩]
  simp
theorem Lay.setI (h : Lay σ p fx Q F (L ++ s :: R) cv) {i b g off z : Nat} {x e e' : PV} (hb : s.o = some b) (hk : σ[b]? = some (.arr g s.sz s.xs)) (he : s.xs[i]? = some e) (hp : vPut z e off x = some e') :
  ∃ σ',vStore z (.ptr b g i off) x σ = some σ' ∧ Lay σ' p fx Q F (L ++ ⟨s.o,s.sz,s.v,s.xs.set i e'⟩ :: R) cv ∧ Stp (owL p Q (L ++ s :: R)) σ (owL p Q (L ++ (⟨s.o,s.sz,s.v,s.xs.set i e'⟩ : Sl5) :: R)) σ' := by
 refine ⟨σ.set b (.arr g s.sz (s.xs.set i e')),by simp only [vStore,hk,if_true,he,hp],?_,?_⟩
 ·refine h.setB hb hb ?_
  rcases h.sl s (by simp) with ⟨h1,_,_⟩ | ⟨c,g',h1,h2,h3,h4⟩
  ·rw [h1] at hb; cases hb
  ·rw [hb] at h1
   cases h1
   rw [hk] at h3
   cases h3
   refine .inr ⟨b,g,hb,by simpa using h2,by simp [blk_lt hk],?_⟩
   intro hn
   have := congrArg List.length hn
   simp at this
   exact h4 this
 ·have hbm : b ∈ owL p Q (L ++ s :: R) := by rw [own_mid,hb]; simp
  exact ⟨by simp,(Stp.set hbm _).frm,fun c hc => .inl (by rw [own_mid] at hc ⊢; exact hc),fun c hc => by rw [own_mid] at hc ⊢; exact hc⟩
theorem Lay.setQ {QL QR : List (Nat × Blk)} {b : Nat} {k k' : Blk} (h : Lay σ p fx (QL ++ (b,k) :: QR) F S cv) : Lay (σ.set b k') p fx (QL ++ (b,k') :: QR) F S cv ∧ Stp (owL p (QL ++ (b,k) :: QR) S) σ (owL p (QL ++ (b,k') :: QR) S) (σ.set b k') := by
 have e : owL p (QL ++ (b,k') :: QR) S = owL p (QL ++ (b,k) :: QR) S := by simp [owL]
 have hn := h.nod
 have hm : b ∈ owL p (QL ++ (b,k) :: QR) S := by simp [owL]
 have hpm : (owL p (QL ++ (b,k) :: QR) S).Perm (b :: (p :: (QL.map (·.1) ++ (QR.map (·.1) ++ ids S)))) := by
  unfold owL
  simp only [List.map_append,List.map_cons,List.append_assoc,List.cons_append]
  exact (List.Perm.cons p List.perm_middle).trans (List.Perm.swap b p _)
 have hnb := (List.nodup_cons.1 (hpm.nodup_iff.1 hn)).1
 refine ⟨⟨?_,fun x hx => ?_,fun x hx => ?_,fun x hx => by rw [e]; exact h.ap x hx,fun t ht => ?_,by rw [e]; exact hn⟩,?_⟩
 ·rw [List.getElem?_set_ne (fun e => hnb (by simp [e]))]; exact h.lay
 ·have other : x ∈ QL ∨ x ∈ QR → (σ.set b k')[x.1]? = some x.2 := fun hx => by
   rw [List.getElem?_set_ne (fun e => hnb (by
    simp only [List.mem_cons,List.mem_append,List.mem_map]
    rcases hx with hx | hx
    ·exact .inr (.inl ⟨x,hx,e.symm⟩)
    ·exact .inr (.inr (.inl ⟨x,hx,e.symm⟩))))]
   exact h.qs x (by
    rcases hx with hx | hx
    ·exact List.mem_append_left _ hx
    ·exact List.mem_append_right _ (List.mem_cons_of_mem _ hx))
  rcases List.mem_append.1 hx with hx | hx
  ·exact other (.inl hx)
  ·rcases List.mem_cons.1 hx with rfl | hx
   ·exact List.getElem?_set_self (h.lt hm)
   ·exact other (.inr hx)
 ·rw [List.getElem?_set_ne (fun e : b = x.1 => h.ap x hx (e ▸ hm))]
  exact h.fs x hx
 ·refine (h.sl t ht).to fun c hc => List.getElem?_set_ne (fun e : b = c => hnb ?_)
  simp only [List.mem_cons,List.mem_append]
  exact .inr (.inr (.inr (List.mem_filterMap.2 ⟨t,ht,e ▸ hc⟩)))
 ·exact ⟨by simp,(Stp.set hm _).frm,fun c hc => .inl (by rw [e] at hc; exact hc),fun c hc => by rw [e]; exact hc⟩
theorem Lay.kill {σ₀ : St} {o₀ : List Nat} (h : Lay σ p fx Q F (L ++ s :: R) cv) (hst : Stp o₀ σ₀ (owL p Q (L ++ s :: R)) σ) {D : Nat → Prop} (hD : ∀ b,D b ↔ σ₀.length ≤ b ∧ b ∉ owL p Q (L ++ s :: R))
  (hcell : ∀ x ∈ fx ++ cv,Free D x) (hQ : ∀ x ∈ Q,FrzB σ D x.2 x.2) (hF : ∀ x ∈ F,x.1 < σ₀.length)
  (hS : ∀ t,t ∈ L ∨ t ∈ R → ∀ x ∈ t.xs,Free D x) {xs' : List PV} (hl : xs'.length = s.xs.length) (hx : ∀ (i : Nat) (x y : PV),s.xs[i]? = some x → xs'[i]? = some y → FrzD σ D x y) :
  ∃ σ'',Kill σ₀ D σ σ'' ∧ Lay σ'' p fx Q F (L ++ ⟨s.o,s.sz,s.v,xs'⟩ :: R) cv ∧ Stp o₀ σ₀ (owL p Q (L ++ (⟨s.o,s.sz,s.v,xs'⟩ : Sl5) :: R)) σ'' := by
 classical
 have e : owL p Q (L ++ (⟨s.o,s.sz,s.v,xs'⟩ : Sl5) :: R) = owL p Q (L ++ s :: R) := by rw [own_mid,own_mid]
 let f : Nat → Blk → Blk := fun b k => if D b then .dead else if s.o = some b then (match k with | .arr g z _ => .arr g z xs' | k => k) else k
 let σ'' : St := σ.mapIdx f
 have hget : ∀ b,σ''[b]? = (σ[b]?).map (f b) := fun b => List.getElem?_mapIdx
 have hnD : ∀ b ∈ owL p Q (L ++ s :: R),¬ D b := fun b hb hd => ((hD b).1 hd).2 hb
 have hlow : ∀ b,b < σ₀.length → ¬ D b := fun b hb hd => by have := ((hD b).1 hd).1; omega
 have hn := h.nod
 have same : ∀ b,¬ D b → s.o ≠ some b → σ''[b]? = σ[b]? := fun b h1 h2 => by
  rw [hget]
  simp only [f,if_neg h1,if_neg h2]
  cases σ[b]? <;> rfl
 have hso : ∀ b,s.o = some b → b ∈ owL p Q (L ++ s :: R) := fun b hb => by rw [own_mid,hb]; simp
 have hsn : ∀ b,s.o = some b → b ∉ p :: (Q.map (·.1) ++ (ids L ++ ids R)) := fun b hb => by
  rw [own_mid,hb] at hn
  have hpm : (p :: (Q.map (·.1) ++ (ids L ++ ([b] ++ ids R)))).Perm (b :: (p :: (Q.map (·.1) ++ (ids L ++ ids R)))) := perm_own _ _ _ _ _
  exact (List.nodup_cons.1 (hpm.nodup_iff.1 hn)).1
 have hp' : σ''[p]? = σ[p]? := same p (hnD p (by simp [owL])) fun he => hsn p he (by simp)
 have hq' : ∀ x ∈ Q,σ''[x.1]? = σ[x.1]? := fun x hx' => same _ (hnD _ (by unfold owL; simp only [List.mem_cons,List.mem_append,List.mem_map]; exact .inr (.inl ⟨x,hx',rfl⟩))) fun he => hsn _ he (by simp only [List.mem_cons,List.mem_append,List.mem_map]; exact .inr (.inl ⟨x,hx',rfl⟩))
 have hf' : ∀ x ∈ F,σ''[x.1]? = σ[x.1]? := fun x hx' => same _ (hlow _ (hF x hx')) fun he => h.ap x hx' (hso _ he)
 have ht' : ∀ t,t ∈ L ∨ t ∈ R → ∀ b,t.o = some b → σ''[b]? = σ[b]? := fun t ht b hb => same _ (hnD _ (by
   rw [own_mid]
   simp only [List.mem_cons,List.mem_append]
   rcases ht with ht | ht
   ·exact .inr (.inr (.inl (List.mem_filterMap.2 ⟨t,ht,hb⟩)))
   ·exact .inr (.inr (.inr (.inr (List.mem_filterMap.2 ⟨t,ht,hb⟩)))))) fun he => hsn _ he (by
   simp only [List.mem_cons,List.mem_append]
   rcases ht with ht | ht
   ·exact .inr (.inr (.inl (List.mem_filterMap.2 ⟨t,ht,hb⟩)))
   ·exact .inr (.inr (.inr (List.mem_filterMap.2 ⟨t,ht,hb⟩))))
 refine ⟨σ'',⟨fun b hb => ((hD b).1 hb).1,by simp [σ''],fun b hb hb' => by simp [σ''] at hb; omega,fun b k' hb => ?_⟩,⟨?_,fun x hx' => ?_,fun x hx' => ?_,fun x hx' => by rw [e]; exact h.ap x hx',fun t ht => ?_,by rw [e]; exact hn⟩,⟨by simp [σ'']; exact hst.len,fun b hb hbo => ?_,fun b hb => by rw [e] at hb; exact hst.new b hb,fun b hb => by rw [e]; exact hst.old b hb⟩⟩
 ·by_cases hd : D b
  ·rw [hget] at hb
   simp only [f,if_pos hd] at hb
   cases hk : σ[b]? with
   | none => rw [hk] at hb; cases hb
   | some k => rw [hk] at hb; cases hb; exact .inl rfl
  ·refine .inr ⟨hd,?_⟩
   have hbl : b < σ.length := by
    have := blk_lt hb
    simp [σ''] at this
    exact this
   have hsome : σ[b]? = some σ[b] := by simp [hbl]
   generalize σ[b] = k at hsome
   refine ⟨k,hsome,?_⟩
   by_cases hown : b ∈ owL p Q (L ++ s :: R)
   ·left
    by_cases hsb : s.o = some b
    ·rcases h.sl s (by simp) with ⟨h1,_,_⟩ | ⟨c,g',h1,h2,h3,h4⟩
     ·rw [h1] at hsb; cases hsb
     ·rw [hsb] at h1
      cases h1
      rw [hsome] at h3
      cases h3
      rw [hget,hsome] at hb
      simp only [f,if_neg hd,if_pos hsb,Option.map_some] at hb
      cases hb
      exact .inr ⟨xs',rfl,hl,hx⟩
    ·rw [same b hd hsb,hsome] at hb
     cases hb
     rw [own_mid] at hown
     simp only [List.mem_cons,List.mem_append] at hown
     rcases hown with rfl | hown | hown | hown | hown
     ·rw [h.lay] at hsome
      cases hsome
      refine .inr ⟨_,rfl,rfl,fun i x y hx' hy => ?_⟩
      rw [hx'] at hy
      cases hy
      cases i with
      | zero =>
       cases hx'
       exact .base _ (.agg _ fun i x hi => hcell x (List.mem_of_getElem? hi))
      | succ i => simp at hx'
     ·obtain ⟨x,hx',rfl⟩ := List.mem_map.1 hown
      have := h.qs x hx'
      rw [hsome] at this
      cases this
      exact hQ x hx'
     ·obtain ⟨t,ht,hto⟩ := List.mem_filterMap.1 hown
      rcases h.sl t (List.mem_append_left _ ht) with ⟨h1,_,_⟩ | ⟨c,g',h1,h2,h3,h4⟩
      ·rw [h1] at hto; cases hto
      ·rw [hto] at h1
       cases h1
       rw [hsome] at h3
       cases h3
       refine .inr ⟨_,rfl,rfl,fun i x y hx' hy => ?_⟩
       rw [hx'] at hy
       cases hy
       exact .base _ (hS t (.inl ht) x (List.mem_of_getElem? hx'))
     ·cases hso' : s.o with
      | none => rw [hso'] at hown; simp at hown
      | some c =>
       rw [hso'] at hown
       simp at hown
       exact absurd (hown ▸ hso') hsb
     ·obtain ⟨t,ht,hto⟩ := List.mem_filterMap.1 hown
      rcases h.sl t (List.mem_append_right _ (List.mem_cons_of_mem _ ht)) with ⟨h1,_,_⟩ | ⟨c,g',h1,h2,h3,h4⟩
      ·rw [h1] at hto; cases hto
      ·rw [hto] at h1
       cases h1
       rw [hsome] at h3
       cases h3
       refine .inr ⟨_,rfl,rfl,fun i x y hx' hy => ?_⟩
       rw [hx'] at hy
       cases hy
       exact .base _ (hS t (.inr ht) x (List.mem_of_getElem? hx'))
   ·right
    have hsb : s.o ≠ some b := fun he => hown (hso b he)
    rw [same b hd hsb,hsome] at hb
    cases hb
    have hb0 : b < σ₀.length := by
     refine Nat.lt_of_not_le fun hle => hd ((hD b).2 ⟨hle,hown⟩)
    have hbo : b ∉ o₀ := fun hm => by
     exact hown (hst.old b hm)
    refine ⟨rfl,?_⟩
    rw [← hst.frm b hb0 hbo]
    exact hsome
 ·rw [hp']; exact h.lay
 ·rw [hq' x hx']; exact h.qs x hx'
 ·rw [hf' x hx']; exact h.fs x hx'
 ·rcases List.mem_append.1 ht with ht | ht
  ·exact (h.sl t (List.mem_append_left _ ht)).to (ht' t (.inl ht))
  ·rcases List.mem_cons.1 ht with rfl | ht
   ·rcases h.sl s (by simp) with ⟨h1,h2,h3⟩ | ⟨c,g',h1,h2,h3,h4⟩
    ·refine .inl ⟨h1,h2,?_⟩
     rw [h3] at hl
     exact List.eq_nil_of_length_eq_zero hl
    ·refine .inr ⟨c,g',h1,by simpa [hl] using h2,?_,?_⟩
     ·rw [hget,h3]
      simp only [f,if_neg (hnD c (hso c h1)),h1,if_true,Option.map_some]
     ·intro hnil
      simp only at hnil
      rw [hnil] at hl
      exact h4 (List.eq_nil_of_length_eq_zero hl.symm)
   ·exact (h.sl t (List.mem_append_right _ (List.mem_cons_of_mem _ ht))).to (ht' t (.inr ht))
 ·by_cases hown : b ∈ owL p Q (L ++ s :: R)
  ·rcases hst.new b hown with h1 | h1
   ·exact absurd h1 hbo
   ·omega
  ·rw [same b (hlow b hb) (fun he => hown (hso b he))]
   exact hst.frm b hb hbo
end
theorem IsG.app1 {σ : St} {s : Sl5} (h : IsG σ s) {by_ : Nat} {k : LK} {y : PV} (hz : Sized s.sz y) (hr : (s.xs.length + 1) * by_ ≤ 140737488355328) :
  ∃ v' σ' o',vAppend s.sz by_ s.v (.list k [y]) σ = some (v',σ') ∧ IsG σ' ⟨o',s.sz,v',s.xs ++ [y]⟩ ∧ (∀ b,o' = some b → s.o = some b ∨ b = σ.length) ∧ (∀ b,s.o ≠ some b → b < σ.length → σ'[b]? = σ[b]?) ∧ σ.length ≤ σ'.length := by
 have hroom : roomy (s.xs.length + 1) by_ = true := by simp [roomy]; exact hr
 have hzz : ∀ z ∈ [y],Sized s.sz z := fun z hz' => by simp at hz'; subst hz'; exact hz
 rcases h with ⟨h1,h2,h3⟩ | ⟨b,g,h1,h2,h3,h4⟩
 ·refine ⟨.sref σ.length 0 s.sz 0 1,σ ++ [.arr 0 s.sz [y]],some σ.length,?_,.inr ⟨σ.length,0,rfl,by simp [h3],by simp [h3],by simp⟩,fun b hb => .inr (Option.some.inj hb).symm,fun b _ hb => List.getElem?_append_left hb,by simp⟩
  rw [h3] at hroom
  simp only [List.length_nil,Nat.zero_add] at hroom
  rw [h2]
  simp only [vAppend,vElems,List.isEmpty_cons,Bool.false_eq_true,if_false,List.length_nil,List.length_singleton,Nat.zero_add]
  rw [if_pos ⟨by simp,hroom,rfl,headSized_of hzz⟩]
  simp
 ·have hbl := blk_lt h3
  refine ⟨.sref b (nextG g) s.sz 0 (s.xs.length + 1),σ.set b (.arr (nextG g) s.sz (s.xs ++ [y])),some b,?_,.inr ⟨b,nextG g,rfl,by simp,by simp [hbl],by simp⟩,fun c hc => .inl (h1.trans hc),fun c hc _ => List.getElem?_set_ne (fun e : b = c => hc (e ▸ h1)),by simp⟩
  rw [h2]
  simp only [vAppend,vElems,h3]
  simp only [List.isEmpty_cons,Bool.false_eq_true,if_false,List.length_singleton]
  rw [if_pos ⟨trivial,trivial,by omega,hroom,headSized_of hzz⟩,if_neg (by simp)]
  simp
end Go.Abs
