import Derived.Test.YteikomnahelckaaGreatDoorLyI
import Derived.Test.YteikomnahelckaaGreatDoorLyF
set_option linter.unusedVariables false
set_option linter.unusedSimpArgs false
namespace Go.Proofs.YteikomnahelckaaGreatDoor
open Go Go.Abs
def procsTo (l : Tbl) (i : Nat) : List Nat := (List.range i).filter fun m => procK (mAtM l m)
def unionsTo (l : Tbl) (i : Nat) : List Nat := (List.range i).filter fun m => unionK (mAtM l m)
theorem procsTo_all (l : Tbl) : procsTo l l.length = procs l := rfl
theorem unionsTo_all (l : Tbl) : unionsTo l l.length = unionsL l := rfl
theorem procsTo_succ (l : Tbl) (i : Nat) : procsTo l (i + 1) = if procK (mAtM l i) = true then procsTo l i ++ [i] else procsTo l i := by
 unfold procsTo
 rw [List.range_succ,List.filter_append]
 by_cases h : procK (mAtM l i) = true <;> simp [h]
theorem unionsTo_succ (l : Tbl) (i : Nat) : unionsTo l (i + 1) = if unionK (mAtM l i) = true then unionsTo l i ++ [i] else unionsTo l i := by
 unfold unionsTo
 rw [List.range_succ,List.filter_append]
 by_cases h : unionK (mAtM l i) = true <;> simp [h]
theorem procsTo_lt {l : Tbl} {i m : Nat} (h : m ∈ procsTo l i) : m < i := by
 have := (List.mem_filter.1 h).1
 simpa using this
theorem unionsTo_lt {l : Tbl} {i m : Nat} (h : m ∈ unionsTo l i) : m < i := by
 have := (List.mem_filter.1 h).1
 simpa using this
theorem procsTo_pre (l : Tbl) : ∀ {i j : Nat},i ≤ j → procsTo l i <+: procsTo l j := by
 intro i j h
 induction j with
 | zero =>
   obtain rfl : i = 0 := by omega
   exact List.prefix_refl _
 | succ j ih =>
  by_cases hij : i = j + 1
  ·subst hij; exact List.prefix_refl _
  ·refine (ih (by omega)).trans ?_
   rw [procsTo_succ]
   split
   ·exact List.prefix_append _ _
   ·exact List.prefix_refl _
theorem gix_eq {l : Tbl} {m : Nat} (hm : m < l.length) (hp : procK (mAtM l m) = true) : gix l m = l.length + (procsTo l m).length := by
 unfold gix
 congr 1
 have h1 : procsTo l (m + 1) = procsTo l m ++ [m] := by rw [procsTo_succ,if_pos hp]
 have h2 : procs l = procsTo l l.length := rfl
 rw [h2,idxOf_pre (procsTo_pre l (by omega : m + 1 ≤ l.length)) (by rw [h1]; simp),h1,List.idxOf_append,if_neg (fun h => by have := procsTo_lt h; omega)]
 simp
def LimT (l : Tbl) : Prop := ∃ m,m < l.length ∧ (1000 < (leaves l m).length ∨ procK (mAtM l m) = true ∧ 1000 < (parsL l m).length)
theorem mapN_frz {g : Nat → PV} (hg : ∀ i,Flat (g i)) (ms : List Nat) (ver : Nat) (σ : St) (D : Nat → Prop) : FrzB σ D (.map ver (mapN g ms)) (.map ver (mapN g ms)) := by
 refine .inr ⟨_,rfl,rfl,fun i e e' h1 h2 => ?_⟩
 rw [h1] at h2
 cases h2
 have hm := List.mem_of_getElem? h1
 unfold mapN at hm
 obtain ⟨j,_,rfl⟩ := List.mem_map.1 hm
 exact ⟨(Flat.int _ _).frz _ _,(hg j).frz _ _⟩
abbrev nilV : PV := .list .nil []
def restN (pm qm nm : Nat) : List PV := [.mref pm,.mref qm,.mref nm,nilV,nilV,nilV,nilV,nilV]
structure NL (σ0 σ : St) (p pm qm nm : Nat) (kt : LK) (tvs : List PV) (b1 b2 : Blk) (o : Option Nat) (v : PV) (gs : List PV) : Prop where
 lay : Lay σ p [.list kt tvs] [(pm,b1),(qm,b2),(nm,.map 0 [])] [] [⟨o,2,v,gs⟩] (v :: restN pm qm nm)
 stp : Stp [] σ0 (owL p [(pm,b1),(qm,b2),(nm,.map 0 [])] [⟨o,2,v,gs⟩]) σ
section
variable {σ0 σ : St} {l : Tbl} {p pm qm nm : Nat} {kt : LK} {tvs : List PV} {b1 b2 : Blk} {o : Option Nat} {v : PV} {gs : List PV}
theorem NL.cell (h : NL σ0 σ p pm qm nm kt tvs b1 b2 o v gs) {j : Nat} {w : PV} (hj : ([.list kt tvs] ++ (v :: restN pm qm nm))[j]? = some w) : vLoad false 1 (.ptr p 0 0 j) σ = some w := h.lay.load hj
theorem NL.tabAt (h : NL σ0 σ p pm qm nm kt tvs b1 b2 o v gs) (ht : TabV l tvs) : TabAt l p σ := ⟨0,_,kt,tvs,_,h.lay.lay,rfl,ht⟩
theorem NL.step {σ' : St} (h : NL σ0 σ p pm qm nm kt tvs b1 b2 o v gs) (hl : σ.length ≤ σ'.length) (hf : ∀ b ∈ owL p [(pm,b1),(qm,b2),(nm,.map 0 [])] [⟨o,2,v,gs⟩],σ'[b]? = σ[b]?) (h0 : ∀ b,b < σ0.length → σ'[b]? = σ[b]?) : NL σ0 σ' p pm qm nm kt tvs b1 b2 o v gs :=
 ⟨h.lay.to hf fun x hx => (by cases hx),⟨Nat.le_trans h.stp.len hl,fun b hb hn => by rw [h0 b hb]; exact h.stp.frm b hb hn,h.stp.new,h.stp.old⟩⟩
theorem NL.add (h : NL σ0 σ p pm qm nm kt tvs b1 b2 o v gs) (ht : TabV l tvs) (hb1 : ∀ σ D,FrzB σ D b1 b1) (hb2 : ∀ σ D,FrzB σ D b2 b2) (hg : ∀ x ∈ gs,Flat x) (hgl : gs.length ≤ 100000) {o6 : Option Nat} {v6 : PV} {xs : List PV}
  (hx : IsG σ ⟨o6,6,v6,xs⟩) (h6 : ∀ b,o6 = some b → σ0.length ≤ b ∧ b ∉ owL p [(pm,b1),(qm,b2),(nm,.map 0 [])] [⟨o,2,v,gs⟩]) (hxf : ∀ x ∈ xs,Flat x) :
  ∃ v' σa σb,vAppend 2 32 v (.list .full [.agg [v6,.int .i64 0]]) σ = some (v',σa) ∧ vStore 1 (.ptr p 0 0 1) v' σa = some σb ∧
   ∃ D σ'' k o',Kill σ0 D σb σ'' ∧ ¬ D p ∧ NL σ0 σ'' p pm qm nm kt tvs b1 b2 o' v' (gs ++ [.agg [.list k xs,.int .i64 0]]) := by
 obtain ⟨v',σa,o',ha,La,Ta⟩ := h.lay.app (L := []) (R := []) (s := ⟨o,2,v,gs⟩) (by_ := 32) (k := .full) (y := .agg [v6,.int .i64 0]) (ys := [])
  (fun z hz => by simp at hz; subst hz; exact ⟨_,rfl,rfl⟩) (by simp; omega)
 obtain ⟨σb,hb,Lb,eb⟩ := La.put (j := 0) (by simp) (v := v') ((La.sl ⟨o',2,v',gs ++ [.agg [v6,.int .i64 0]]⟩ (by simp)).cell)
 have Tb : Stp [] σ0 (owL p [(pm,b1),(qm,b2),(nm,.map 0 [])] ([] ++ [⟨o',2,v',gs ++ [.agg [v6,.int .i64 0]]⟩])) σb := by
  refine (h.stp.trans Ta).trans ?_
  rw [eb]
  exact Stp.set (by simp [owL]) _
 have hn6 : ∀ b,o6 = some b → b ∉ owL p [(pm,b1),(qm,b2),(nm,.map 0 [])] [⟨o',2,v',gs ++ [.agg [v6,.int .i64 0]]⟩] := fun b hb hm => by
  rcases Ta.new b hm with h1 | h1
  ·exact (h6 b hb).2 h1
  ·have := hx.id hb
   omega
 have hxb : IsG σb ⟨o6,6,v6,xs⟩ := by
  have : IsG σa ⟨o6,6,v6,xs⟩ := hx.to fun b hb => Ta.frm b (hx.id hb) (h6 b hb).2
  rw [eb]
  exact this.to fun b hb => List.getElem?_set_ne (fun e : p = b => hn6 b hb (e ▸ by simp [owL]))
 obtain ⟨k,hk⟩ := growV_list xs
 obtain ⟨σ'',K,L2,T2⟩ := Lb.kill (σ₀ := σ0) (o₀ := []) (L := []) (R := []) (s := ⟨o',2,v',gs ++ [.agg [v6,.int .i64 0]]⟩) Tb
  (D := fun b => σ0.length ≤ b ∧ b ∉ owL p [(pm,b1),(qm,b2),(nm,.map 0 [])] ([] ++ [⟨o',2,v',gs ++ [.agg [v6,.int .i64 0]]⟩])) (fun b => Iff.rfl)
  (fun y hy => by
   have hmr : ∀ b,b ∈ owL p [(pm,b1),(qm,b2),(nm,.map 0 [])] ([] ++ [⟨o',2,v',gs ++ [.agg [v6,.int .i64 0]]⟩]) → ¬ (σ0.length ≤ b ∧ b ∉ owL p [(pm,b1),(qm,b2),(nm,.map 0 [])] ([] ++ [⟨o',2,v',gs ++ [.agg [v6,.int .i64 0]]⟩])) := fun b hb h => h.2 hb
   have hnil : ∀ D,Free D nilV := fun D => .list _ _ (by simp)
   simp only [List.mem_append,List.mem_cons,List.not_mem_nil,or_false,List.set_cons_zero,restN] at hy
   rcases hy with rfl | rfl | rfl | rfl | rfl | rfl | rfl | rfl | rfl | rfl
   ·exact (Flat.list _ _ ht.flat).free _
   ·rcases La.sl ⟨o',2,y,gs ++ [.agg [v6,.int .i64 0]]⟩ (by simp) with ⟨_,h2,_⟩ | ⟨b,g,h1,h2,_,_⟩
    ·simp only at h2; rw [h2]; exact .list _ _ (by simp)
    ·simp only at h1 h2
     rw [h2]
     exact .sref _ _ _ _ _ (hmr b (by simp [owL,ids,h1]))
   ·exact .mref _ (hmr _ (by simp [owL]))
   ·exact .mref _ (hmr _ (by simp [owL]))
   ·exact .mref _ (hmr _ (by simp [owL]))
   ·exact hnil _
   ·exact hnil _
   ·exact hnil _
   ·exact hnil _
   ·exact hnil _)
  (fun y hy => by
   simp only [List.mem_cons,List.not_mem_nil,or_false] at hy
   rcases hy with rfl | rfl | rfl
   ·exact hb1 _ _
   ·exact hb2 _ _
   ·exact .inr ⟨_,rfl,rfl,fun i e e' h1 _ => by simp at h1⟩)
  (fun y hy => by cases hy) (fun t ht => by rcases ht with h | h <;> cases h)
  (xs' := gs ++ [.agg [growV xs,.int .i64 0]]) (by simp)
  (fun j a b ha hb => by
   simp only at ha
   by_cases hj : j < gs.length
   ·rw [List.getElem?_append_left hj] at ha hb
    rw [ha] at hb
    cases hb
    exact (hg a (List.mem_of_getElem? ha)).frz _ _
   ·rw [List.getElem?_append_right (by omega)] at ha hb
    cases hjj : j - gs.length with
    | zero =>
     rw [hjj] at ha hb
     cases ha; cases hb
     refine .agg _ _ rfl fun j a b ha hb => ?_
     match j,ha,hb with
     | 0,ha,hb =>
      cases ha; cases hb
      exact isG_frz hxb (fun b hb => ⟨(h6 b hb).1,hn6 b hb⟩) hxf
     | 1,ha,hb =>
      cases ha; cases hb
      exact (Flat.int _ _).frz _ _
     | j + 2,ha,hb => simp at ha
    | succ q => rw [hjj] at ha; simp at ha)
 rw [hk] at L2 T2
 exact ⟨v',σa,σb,ha,hb,_,σ'',k,o',K,fun h => h.2 (by simp [owL]),⟨L2,T2⟩⟩
end
end Go.Proofs.YteikomnahelckaaGreatDoor
