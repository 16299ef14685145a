import Derived.Test.YteikomnahelckaaGreatDoorLyB
import Derived.Test.YteikomnahelckaaGreatDoorFnE
import Derived.Test.YteikomnahelckaaGreatDoorFnG
set_option linter.unusedVariables false
set_option linter.unusedSimpArgs false
namespace Go.Proofs.YteikomnahelckaaGreatDoor
open Go Go.Abs
def cloneF (sz by_ : Nat) (z : PV) (a0 : PV) (σ : St) (R : Res → St → Prop) : Prop :=
 bindO False (vBin (some .sl) .eql a0 (.list .nil [])) fun v0 =>
 condW v0 (weakW σ (.list .nil []) σ fun v σ => R (.ret v) σ) (
 bindO False (vBuildSl sz (List.replicate 0 z) []) fun v1 =>
 bindS (vAppend sz by_ (.list .full v1) a0 σ) fun v2 σ3 =>
 weakW σ v2 σ3 fun v σ => R (.ret v) σ)
def NilOk (v : PV) (xs : List PV) : Prop := (∃ k,v = .list k xs ∧ (k = .nil → xs = [])) ∨ ∃ b g z o n,v = .sref b g z o n
theorem nil_test {σ : St} {sz : Nat} {v : PV} {xs : List PV} (hn : NilOk v xs) : ∃ b : Bool,vBin (some .sl) .eql v (.list .nil []) = some (.bool b) ∧ (b = true → xs = []) := by
 rcases hn with ⟨k,rfl,h⟩ | ⟨b,g,z,o,n,rfl⟩
 ·cases k with
  | nil => exact ⟨true,rfl,fun _ => h rfl⟩
  | full => exact ⟨false,rfl,fun h => by cases h⟩
  | part => exact ⟨false,rfl,fun h => by cases h⟩
 ·exact ⟨false,rfl,fun h => by cases h⟩
theorem cloneF_of {sz by_ : Nat} {z v : PV} {xs : List PV} {σ : St} {R : Res → St → Prop} (hv : Elems σ sz v xs) (hn : NilOk v xs) (hs : ∀ x ∈ xs,Sized sz x) (hr : xs.length * by_ ≤ 140737488355328)
  (h1 : xs = [] → ∀ k,R (.ret (.list k [])) σ) (h2 : xs ≠ [] → weakW σ (.sref σ.length 0 sz 0 xs.length) (σ ++ [.arr 0 sz xs]) fun v σ => R (.ret v) σ) : cloneF sz by_ z v σ R := by
 unfold cloneF
 obtain ⟨b,hb,hb'⟩ := nil_test (σ := σ) (sz := sz) hn
 have hbs : vBuildSl sz (List.replicate 0 z) [] = some [] := rfl
 simp only [hb,zz]
 refine condB (fun h => weakW_keep (h1 (hb' h) _)) (fun h => ?_)
 simp only [hbs,zz]
 cases hxs : xs with
 | nil =>
  have : vAppend sz by_ (.list .full []) v σ = some (.list .full [],σ) := by
   simp only [vAppend,hv.elems,hxs]
   rfl
  simp only [this,zz]
  exact weakW_keep (h1 hxs _)
 | cons x ys =>
  have hroom : roomy (0 + (x :: ys).length) by_ = true := by rw [← hxs]; simp [roomy]; exact hr
  have : vAppend sz by_ (.list .full []) v σ = some (.sref σ.length 0 sz 0 xs.length,σ ++ [.arr 0 sz xs]) := by
   simp only [vAppend,hv.elems,hxs]
   simp only [List.isEmpty_cons,Bool.false_eq_true,if_false,List.length_nil]
   rw [if_pos ⟨by simp,hroom,rfl,headSized_of (fun z hz => hs z (by rw [hxs]; exact hz))⟩]
   simp
  simp only [this,zz]
  exact h2 (by rw [hxs]; simp)
theorem clone_list {N sz by_ : Nat} {z : PV} (hN : ∀ a0 σ R,bodyC (algP W) Tryz.prog annF N [a0] σ R = cloneF sz by_ z a0 σ R) {v : PV} {xs : List PV} {σ : St} (hv : Elems σ sz v xs) (hn : NilOk v xs) (hs : ∀ x ∈ xs,Sized sz x) (hf : ∀ x ∈ xs,Flat x) (hr : xs.length * by_ ≤ 140737488355328) {R : Res → St → Prop}
  (hR : ∀ k : LK,(k = .nil → xs = []) → R (.ret (.list k xs)) σ) : W N [v] σ R := by
 refine callW_fold ?_
 rw [hN]
 refine cloneF_of hv hn hs hr (fun h k => by rw [h] at hR; exact hR k fun _ => rfl) (fun h => ?_)
 refine weakW_clean (List.prefix_append _ _) (v' := .list .part xs) ?_ (hR _ fun h => by cases h)
 refine .sref σ.length 0 sz 0 _ 0 sz xs _ (by simp) rfl (Nat.le_refl _) rfl (by omega) fun i a c hi ha hc => ?_
 rw [Nat.zero_add,hc] at ha
 cases ha
 exact .base _ ((hf a (List.mem_of_getElem? hc)).under _)
theorem clone_row {N sz by_ : Nat} {z : PV} (hN : ∀ a0 σ R,bodyC (algP W) Tryz.prog annF N [a0] σ R = cloneF sz by_ z a0 σ R) {v : PV} {xs : List PV} {σ : St} (hv : Elems σ sz v xs) (hn : NilOk v xs) (hs : ∀ x ∈ xs,Sized sz x) (hr : xs.length * by_ ≤ 140737488355328) {R : Res → St → Prop}
  (h1 : xs = [] → ∀ k,R (.ret (.list k [])) σ) (h2 : xs ≠ [] → R (.ret (.sref σ.length 0 sz 0 xs.length)) (σ ++ [.arr 0 sz xs])) : W N [v] σ R := by
 refine callW_fold ?_
 rw [hN]
 exact cloneF_of hv hn hs hr h1 fun h => weakW_keep (h2 h)
theorem k66 (a0 : PV) (σ : St) (R : Res → St → Prop) : bodyC (algP W) Tryz.prog annF 66 [a0] σ R = cloneF 1 8 (.int .i64 0) a0 σ R := fn66_eq W a0 σ R
theorem k76 (a0 : PV) (σ : St) (R : Res → St → Prop) : bodyC (algP W) Tryz.prog annF 76 [a0] σ R = cloneF 1 16 (.str []) a0 σ R := fn76_eq W a0 σ R
theorem k75 (a0 : PV) (σ : St) (R : Res → St → Prop) : bodyC (algP W) Tryz.prog annF 75 [a0] σ R = cloneF 6 80 (.agg [(.int .i64 0),(.int .i64 0),(.list .nil []),(.list .nil []),(.int .i64 0),(.bool false)]) a0 σ R := fn75_eq W a0 σ R
theorem k34 (a0 : PV) (σ : St) (R : Res → St → Prop) : bodyC (algP W) Tryz.prog annF 34 [a0] σ R = cloneF 5 40 (.agg [(.int .i64 0),(.int .i64 0),(.int .i64 0),(.int .i64 0),(.bool false)]) a0 σ R := fn34_eq W a0 σ R
theorem k35 (a0 : PV) (σ : St) (R : Res → St → Prop) : bodyC (algP W) Tryz.prog annF 35 [a0] σ R = cloneF 1 24 (.agg [(.list .nil [])]) a0 σ R := fn35_eq W a0 σ R
structure NilM (m : ModeS) : Prop where
 e : m.elems.1 = .nil → m.elems.2 = []
 n : m.names.1 = .nil → m.names.2 = []
theorem c28 {l : List ModeS} {k : LK} (hk : k = .nil → l = []) (hl : l.length ≤ 1048576) (hb : ∀ m ∈ l,Bd m) (hnm : ∀ m ∈ l,NilM m) {σ : St} {R : Res → St → Prop} (hR : ∀ kt tvs,TabV l tvs → R (.ret (.list kt tvs)) σ) : W 28 [.list k (l.map pvMode)] σ R := by
 refine callW_fold ?_
 rw [fn28_eq]
 delta fn28 bF kF nI
 refine clone_row k75 (.list _ _) (.inl ⟨k,rfl,fun h => by rw [hk h]; rfl⟩) (fun x hx => by
  obtain ⟨m,_,rfl⟩ := List.mem_map.1 hx
  exact ⟨_,rfl,rfl⟩) (by simp only [List.length_map]; omega) (fun he k' => ?_) (fun hne => ?_)
 ·have he : l = [] := by simpa using he
  show bindO False _ _
  simp only [zz,List.length_nil,Nat.reduceEqDiff]
  refine Lfp_up 0 (fun i x σ' => x = lookP [(3,.list k' []),(8,.int .i64 (0 : Nat)),(9,.int .i64 (i : Nat))] ∧ σ' = σ) ?_ ⟨rfl,rfl⟩
  rintro Φ i x σ' hi ⟨rfl,rfl⟩ next
  have hlt : ¬ i < 0 := by omega
  simp only [zz,hlt,Nat.reduceEqDiff]
  refine weakW_keep (hR k' [] ⟨by simp [he],fun i hi => by rw [he] at hi; simp at hi⟩)
 ·show bindO False _ _
  simp only [zz,List.length_map,Nat.reduceEqDiff]
  have hput : ∀ m : ModeS,∀ v w : PV,v.cells? = some [v] → w.cells? = some [w] → vPut 1 (pvMode m) 2 v = some (.agg [.int .i64 m.kind,.int .i64 m.size,v,.list m.names.1 (m.names.2.map PV.str),.int .i64 m.dims,.bool m.flex]) ∧
    vPut 1 (.agg [.int .i64 m.kind,.int .i64 m.size,v,.list m.names.1 (m.names.2.map PV.str),.int .i64 m.dims,.bool m.flex]) 3 w = some (.agg [.int .i64 m.kind,.int .i64 m.size,v,w,.int .i64 m.dims,.bool m.flex]) := by
   intro m v w hv hw
   simp [vPut,hv,hw,pvMode,setRange,pvSl]
  refine Lfp_up l.length (fun i x σ' => x = lookP [(3,.sref σ.length 0 6 0 l.length),(8,.int .i64 l.length),(9,.int .i64 i)] ∧ ∃ tv : List PV,σ' = σ ++ [.arr 0 6 tv] ∧ tv.length = l.length ∧ (∀ j,j < i → ∃ k1 k2,tv[j]? = some (pvModeK k1 k2 (mAtM l j))) ∧ ∀ j,i ≤ j → j < l.length → tv[j]? = some (pvMode (mAtM l j))) ?_
   ⟨rfl,l.map pvMode,rfl,by simp,fun j hj => absurd hj (by omega),fun j _ hj => by rw [List.getElem?_map,show l[j]? = some (mAtM l j) by unfold mAtM; rw [List.getD_eq_getElem?_getD,List.getElem?_eq_getElem hj]; rfl]; rfl⟩
  rintro Φ i x σ' hi ⟨rfl,tv,rfl,htl,hold,hnew⟩ next
  simp only [zz,Nat.reduceEqDiff]
  by_cases hlt : i < l.length
  ·have hm := mAtM_mem hlt
   have hti := hnew i (Nat.le_refl _) hlt
   have hblk : ∀ t : List PV,(σ ++ [Blk.arr 0 6 t])[σ.length]? = some (.arr 0 6 t) := fun t => by simp
   have hat : ∀ S : St,vIndex 6 (.sref σ.length 0 6 0 l.length) (.int .i64 (i : Int)) = some (.ptr σ.length 0 i 0) := fun _ => by
    simp only [vIndex]
    rw [if_pos ⟨by omega,by omega,trivial⟩]
    simp
   have l2 : vLoad false 1 (.ptr σ.length 0 i 2) (σ ++ [.arr 0 6 tv]) = some (.list (mAtM l i).elems.1 ((mAtM l i).elems.2.map pvI)) := by
    simp only [vLoad,hblk,if_true,hti]
    rfl
   have l3 : vLoad false 1 (.ptr σ.length 0 i 3) (σ ++ [.arr 0 6 tv]) = some (.list (mAtM l i).names.1 ((mAtM l i).names.2.map PV.str)) := by
    simp only [vLoad,hblk,if_true,hti]
    rfl
   simp only [hlt,hat [],l2,l3,zz,Nat.reduceEqDiff]
   have hbd := hb _ hm
   have hn := hnm _ hm
   refine clone_list k66 (.list _ _) (.inl ⟨_,rfl,fun h => by rw [hn.e h]; rfl⟩) (fun x hx => by
    obtain ⟨a,_,rfl⟩ := List.mem_map.1 hx
    exact ⟨_,rfl,rfl⟩) (fun x hx => by
    obtain ⟨a,_,rfl⟩ := List.mem_map.1 hx
    exact .int _ _) (by have := hbd.elems; simp only [List.length_map]; omega) fun k1 _ => ?_
   refine ⟨.refl _,?_⟩
   show callB W 76 _ _ _ _
   refine clone_list k76 (.list _ _) (.inl ⟨_,rfl,fun h => by rw [hn.n h]; rfl⟩) (fun x hx => by
    obtain ⟨a,_,rfl⟩ := List.mem_map.1 hx
    exact ⟨_,rfl,rfl⟩) (fun x hx => by
    obtain ⟨a,_,rfl⟩ := List.mem_map.1 hx
    exact .str _) (by have := hbd.names; simp only [List.length_map]; omega) fun k2 _ => ?_
   show bindO False _ _
   obtain ⟨p1,p2⟩ := hput (mAtM l i) (.list k1 ((mAtM l i).elems.2.map pvI)) (.list k2 ((mAtM l i).names.2.map PV.str)) rfl rfl
   have s1 : vStore 1 (.ptr σ.length 0 i 2) (.list k1 ((mAtM l i).elems.2.map pvI)) (σ ++ [.arr 0 6 tv]) = some (σ ++ [.arr 0 6 (tv.set i (.agg [.int .i64 (mAtM l i).kind,.int .i64 (mAtM l i).size,.list k1 ((mAtM l i).elems.2.map pvI),.list (mAtM l i).names.1 ((mAtM l i).names.2.map PV.str),.int .i64 (mAtM l i).dims,.bool (mAtM l i).flex]))]) := by
    simp only [vStore,hblk,if_true,hti,p1]
    simp
   have s2 : vStore 1 (.ptr σ.length 0 i 3) (.list k2 ((mAtM l i).names.2.map PV.str)) (σ ++ [.arr 0 6 (tv.set i (.agg [.int .i64 (mAtM l i).kind,.int .i64 (mAtM l i).size,.list k1 ((mAtM l i).elems.2.map pvI),.list (mAtM l i).names.1 ((mAtM l i).names.2.map PV.str),.int .i64 (mAtM l i).dims,.bool (mAtM l i).flex]))]) = some (σ ++ [.arr 0 6 (tv.set i (pvModeK k1 k2 (mAtM l i)))]) := by
    have : (tv.set i (.agg [.int .i64 (mAtM l i).kind,.int .i64 (mAtM l i).size,.list k1 ((mAtM l i).elems.2.map pvI),.list (mAtM l i).names.1 ((mAtM l i).names.2.map PV.str),.int .i64 (mAtM l i).dims,.bool (mAtM l i).flex]))[i]? = some (.agg [.int .i64 (mAtM l i).kind,.int .i64 (mAtM l i).size,.list k1 ((mAtM l i).elems.2.map pvI),.list (mAtM l i).names.1 ((mAtM l i).names.2.map PV.str),.int .i64 (mAtM l i).dims,.bool (mAtM l i).flex]) := List.getElem?_set_self (by omega)
    simp only [vStore,hblk,if_true,this,p2]
    simp [pvModeK]
   simp only [hat [],s1,s2,zz,Nat.reduceEqDiff]
   rw [vBin_add _ (by omega) (by omega)]
   simp only [zz,Nat.reduceEqDiff]
   refine next _ _ hlt ⟨rfl,_,rfl,by simpa using htl,fun j hj => ?_,fun j hj hjl => ?_⟩
   ·by_cases hji : j = i
    ·subst hji
     exact ⟨k1,k2,List.getElem?_set_self (by omega)⟩
    ·rw [List.getElem?_set_ne (Ne.symm hji)]
     exact hold j (by omega)
   ·rw [List.getElem?_set_ne (by omega)]
    exact hnew j (by omega) hjl
  ·obtain rfl : i = l.length := by omega
   simp only [hlt,zz,Nat.reduceEqDiff]
   have htab : TabV l tv := ⟨htl,hold⟩
   refine weakW_clean (List.prefix_append _ _) (v' := .list .part tv) ?_ (hR _ _ htab)
   refine .sref σ.length 0 6 0 _ 0 6 tv _ (by simp) rfl (Nat.le_refl _) htl (by omega) fun i a c hi ha hc => ?_
   rw [Nat.zero_add,hc] at ha
   cases ha
   exact .base _ ((htab.flat a (List.mem_of_getElem? hc)).under _)
theorem vFind_map {g : Nat → PV} {i : Nat} : ∀ (ms : List Nat) (n : Nat),vFind .int (pvN i) (ms.map fun a => (pvN a,g a)) n = if i ∈ ms then some (some (n + ms.idxOf i,g i)) else some none
 | [],n => rfl
 | a :: ms,n => by
  simp only [List.map_cons,vFind]
  have hv : vEqS .int (pvN i) (pvN a) = some (decide (i = a)) := by
   simp only [pvN,pvI,vEqS,if_true]
   congr 1
   by_cases he : i = a
   ·rw [he]; simp
   ·rw [decide_eq_false he]
    exact beq_eq_false_iff_ne.2 (by omega)
  rw [hv]
  by_cases hc : a = i
  ·subst hc
   simp
  ·rw [decide_eq_false (Ne.symm hc)]
   simp only
   rw [vFind_map ms (n + 1)]
   have hm : i ∈ a :: ms ↔ i ∈ ms := by simp [Ne.symm hc]
   have hi : (a :: ms).idxOf i = ms.idxOf i + 1 := by
    have h0 : (a == i) = false := beq_eq_false_iff_ne.2 hc
    rw [List.idxOf_cons,h0]
    rfl
   by_cases hcm : i ∈ ms
   ·rw [if_pos hcm,if_pos (hm.2 hcm),hi]
    congr 3
    omega
   ·rw [if_neg hcm,if_neg (fun h => hcm (hm.1 h))]
def mapN (g : Nat → PV) (ms : List Nat) : List (PV × PV) := ms.map fun a => (pvN a,g a)
theorem mapN_set {σ : St} {b ver : Nat} {g : Nat → PV} {ms : List Nat} (hb : σ[b]? = some (.map ver (mapN g ms))) (i : Nat) : ∃ ms',vMapSet .int (.mref b) (pvN i) (g i) σ = some (σ.set b (.map (ver + 1) (mapN g ms'))) ∧ (∀ j,j ∈ ms' ↔ j ∈ ms ∨ j = i) ∧ (i ∉ ms → ms' = ms ++ [i]) := by
 have hf := vFind_map (g := g) (i := i) ms 0
 have hk : isKey .int (pvN i) = true := rfl
 unfold mapN at hb
 by_cases hm : i ∈ ms
 ·rw [if_pos hm] at hf
  refine ⟨ms,?_,fun j => ⟨.inl,fun h => h.elim id fun h => h ▸ hm⟩,fun h => absurd hm h⟩
  simp only [vMapSet,hb,hk,if_true,hf,Nat.zero_add]
  congr 3
  unfold mapN
  have h1 := List.idxOf_lt_length_of_mem hm
  have : (ms.map fun a => (pvN a,g a))[ms.idxOf i]? = some (pvN i,g i) := by
   rw [List.getElem?_map,List.getElem?_eq_getElem h1,List.getElem_idxOf h1]
   rfl
  obtain ⟨h2,h3⟩ := List.getElem?_eq_some_iff.1 this
  rw [← h3]
  exact List.set_getElem_self h2
 ·rw [if_neg hm] at hf
  refine ⟨ms ++ [i],?_,fun j => by simp,fun _ => rfl⟩
  simp only [vMapSet,hb,hk,if_true,hf]
  unfold mapN
  simp
theorem mapN_look {σ : St} {b ver : Nat} {g : Nat → PV} {ms : List Nat} (hb : σ[b]? = some (.map ver (mapN g ms))) (z : PV) (ok : Bool) (i : Nat) : vLookup .int z ok (.mref b) (pvN i) σ = some (if i ∈ ms then (if ok then .tuple [g i,.bool true] else g i) else (if ok then .tuple [z,.bool false] else z)) := by
 have hf := vFind_map (g := g) (i := i) ms 0
 have hk : isKey .int (pvN i) = true := rfl
 unfold mapN at hb
 simp only [vLookup,hb,hk,if_true,hf]
 by_cases hm : i ∈ ms
 ·rw [if_pos hm,if_pos hm]
 ·rw [if_neg hm,if_neg hm]
noncomputable def cntM (l : Tbl) (m : Nat) : Nat := min (leaves l m).length 1001
theorem cnt_struct {l : Tbl} (ok : OkT l) {m : Nat} (h : structK (mAtM l m) = true) : cntM l m = (elemsN (mAtM l m)).foldl (fun n f => min (n + cntM l f) 1001) 0 := by
 unfold cntM
 rw [leaves_struct ok h]
 generalize elemsN (mAtM l m) = es
 have : ∀ n,min (n + (es.flatMap (leaves l)).length) 1001 = es.foldl (fun n f => min (n + min (leaves l f).length 1001) 1001) (min n 1001) := by
  induction es with
  | nil => intro n; simp
  | cons e es ih =>
   intro n
   rw [List.foldl_cons,List.flatMap_cons,List.length_append]
   have := ih (n + (leaves l e).length)
   have e1 : min (min n 1001 + min (leaves l e).length 1001) 1001 = min (n + (leaves l e).length) 1001 := by omega
   rw [e1,← this,Nat.add_assoc]
 have := this 0
 simpa using this
def TabAt (l : Tbl) (p : Nat) (σ : St) : Prop := ∃ g z kt tvs rest,σ[p]? = some (.arr g z [.agg (.list kt tvs :: rest)]) ∧ g = 0 ∧ TabV l tvs
theorem TabAt.load {l : Tbl} {p : Nat} {σ : St} (h : TabAt l p σ) : ∃ kt tvs,vLoad false 1 (.ptr p 0 0 0) σ = some (.list kt tvs) ∧ TabV l tvs := by
 obtain ⟨g,z,kt,tvs,rest,h1,rfl,h2⟩ := h
 refine ⟨kt,tvs,?_,h2⟩
 simp only [vLoad,h1,if_true]
 rfl
theorem TabAt.to {l : Tbl} {p : Nat} {σ σ' : St} (h : TabAt l p σ) (he : σ'[p]? = σ[p]?) : TabAt l p σ' := by
 obtain ⟨g,z,kt,tvs,rest,h1,h2,h3⟩ := h
 exact ⟨g,z,kt,tvs,rest,by rw [he]; exact h1,h2,h3⟩
structure CSet (S0 : St) (l : Tbl) (p q1 q2 q3 mm : Nat) : Prop where
 tab : TabAt l p S0
 b1 : S0[q1]? = some (.arr 0 1 [.mref mm])
 b2 : S0[q2]? = some (.arr 0 1 [.ptr p 0 0 0])
 b3 : S0[q3]? = some (.arr 0 1 [.func 77 0 [.ptr q1 0 0 0,.ptr q2 0 0 0,.ptr q3 0 0 0]])
 lt : mm < S0.length
 ap : mm ≠ p ∧ mm ≠ q1 ∧ mm ≠ q2 ∧ mm ≠ q3
noncomputable def cst (S0 : St) (l : Tbl) (mm ver : Nat) (ms : List Nat) : St := S0.set mm (.map ver (mapN (fun i => pvN (cntM l i)) ms))
section
variable {S0 : St} {l : Tbl} {p q1 q2 q3 mm : Nat}
theorem CSet.get (H : CSet S0 l p q1 q2 q3 mm) {ver : Nat} {ms : List Nat} : (cst S0 l mm ver ms)[mm]? = some (.map ver (mapN (fun i => pvN (cntM l i)) ms)) := List.getElem?_set_self H.lt
theorem CSet.set (H : CSet S0 l p q1 q2 q3 mm) {ver ver' : Nat} {ms ms' : List Nat} : (cst S0 l mm ver ms).set mm (.map ver' (mapN (fun i => pvN (cntM l i)) ms')) = cst S0 l mm ver' ms' := by
 unfold cst
 rw [List.set_set]
theorem CSet.l1 (H : CSet S0 l p q1 q2 q3 mm) {ver : Nat} {ms : List Nat} : vLoad false 1 (.ptr q1 0 0 0) (cst S0 l mm ver ms) = some (.mref mm) := load_cell ((List.getElem?_set_ne H.ap.2.1).trans H.b1) rfl rfl
theorem CSet.l2 (H : CSet S0 l p q1 q2 q3 mm) {ver : Nat} {ms : List Nat} : vLoad false 1 (.ptr q2 0 0 0) (cst S0 l mm ver ms) = some (.ptr p 0 0 0) := load_cell ((List.getElem?_set_ne H.ap.2.2.1).trans H.b2) rfl rfl
theorem CSet.l3 (H : CSet S0 l p q1 q2 q3 mm) {ver : Nat} {ms : List Nat} : vLoad false 1 (.ptr q3 0 0 0) (cst S0 l mm ver ms) = some (.func 77 0 [.ptr q1 0 0 0,.ptr q2 0 0 0,.ptr q3 0 0 0]) := load_cell ((List.getElem?_set_ne H.ap.2.2.2).trans H.b3) rfl rfl
theorem c77 (H : CSet S0 l p q1 q2 q3 mm) (ok : OkT l) : ∀ (i : Nat),i < l.length → ∀ (ver : Nat) (ms : List Nat) (R : Res → St → Prop),(∀ ver' ms',R (.ret (pvN (cntM l i))) (cst S0 l mm ver' ms')) →
  W 77 [pvN i,.ptr q1 0 0 0,.ptr q2 0 0 0,.ptr q3 0 0 0] (cst S0 l mm ver ms) R := by
 intro i
 induction i using (str_wf ok).induction with
 | _ i ih =>
 intro hi ver ms R hR
 refine callW_fold ?_
 rw [fn77_eq]
 delta fn77 bF pF lF kF nI nL
 simp only [H.l1,mapN_look H.get,zz,Nat.reduceEqDiff]
 by_cases hm : i ∈ ms
 ·simp only [if_pos hm,if_true,zz,Nat.reduceEqDiff]
  exact weakW_keep (hR _ _)
 obtain ⟨kt,tvs,hld,htv⟩ := (H.tab.to (σ' := cst S0 l mm ver ms) (List.getElem?_set_ne H.ap.1)).load
 obtain ⟨k1,k2,hix⟩ := htv.index hi kt
 have hnl : vNil (.ptr p 0 0 0) = some (.ptr p 0 0 0) := rfl
 have hpt : vPart true 6 (pvModeK k1 k2 (mAtM l i)) 0 = some (pvModeK k1 k2 (mAtM l i)) := rfl
 have hput : vPut 6 (.agg [(.int .i64 0),(.int .i64 0),(.list .nil []),(.list .nil []),(.int .i64 0),(.bool false)]) 0 (pvModeK k1 k2 (mAtM l i)) = some (pvModeK k1 k2 (mAtM l i)) := rfl
 have p0 : vPart false 1 (pvModeK k1 k2 (mAtM l i)) 0 = some (.int .i64 (mAtM l i).kind) := rfl
 have p2 : vPart false 1 (pvModeK k1 k2 (mAtM l i)) 2 = some (.list k1 ((mAtM l i).elems.2.map pvI)) := rfl
 simp only [if_neg hm,if_true,H.l2,hnl,hld,hix,hpt,hput,p0,zz,Nat.reduceEqDiff]
 refine condB (fun h0 => ?_) (fun h0 => ?_)
 ·have hk0 : (mAtM l i).kind = 0 := by simpa using h0
  have hc : cntM l i = 0 := by unfold cntM; rw [leaves_void ok hk0]; rfl
  obtain ⟨ms',hs,_⟩ := mapN_set (H.get (ver := ver) (ms := ms)) i
  simp only [hc] at hs
  have hs' : vMapSet .int (.mref mm) (pvN i) (.int .i64 0) (cst S0 l mm ver ms) = some ((cst S0 l mm ver ms).set mm (.map (ver + 1) (mapN (fun i => pvN (cntM l i)) ms'))) := hs
  simp only [H.l1,hs',H.set,zz,Nat.reduceEqDiff]
  have := hR (ver + 1) ms'
  rw [hc] at this
  exact weakW_keep this
 have hk0 : (mAtM l i).kind ≠ 0 := by simpa using h0
 have e11 : ((mAtM l i).kind == 11) = structK (mAtM l i) := rfl
 rw [e11]
 refine condB (fun hs => ?_) (fun hs => ?_)
 ·simp only [p2,List.length_map,zz,Nat.reduceEqDiff]
  have hwalk : ∀ e : Int,e ∈ (mAtM l i).elems.2 → (e.toNat : Int) = e ∧ e.toNat < l.length ∧ strM l i e.toNat := fun e he => by
   obtain ⟨h1,h2,h3⟩ := plain_elem ok.plain (mAtM_mem hi) he
   exact ⟨h3,h2,hi,hs,List.mem_map.2 ⟨e,he,rfl⟩⟩
  have hcs := cnt_struct ok hs
  have hbd := bd_elems ok hi
  unfold elemsN at hcs
  generalize hes : (mAtM l i).elems.2 = es at hwalk hcs hbd
  refine Lfp_up es.length (fun j x σ' => ∃ (ver' : Nat) (ms' : List Nat),x = lookP [(0,pvN i),(1,.ptr q1 0 0 0),(3,.ptr q3 0 0 0),(8,pvN (((es.take j).map Int.toNat).foldl (fun n f => min (n + cntM l f) 1001) 0)),(34,.list k1 (es.map pvI)),(35,.int .i64 es.length),(36,.int .i64 j)] ∧ σ' = cst S0 l mm ver' ms') ?_
   ⟨ver,ms,rfl,rfl⟩
  rintro Φ j x σ' hj ⟨ver',ms',rfl,rfl⟩ next
  simp only [zz,Nat.reduceEqDiff]
  by_cases hlt : j < es.length
  ·have hce : es[j]? = some es[j] := by simp [hlt]
   have hemem : es[j] ∈ es := by simp
   generalize es[j] = e at hce hemem
   obtain ⟨eI,eL,eS⟩ := hwalk e hemem
   have hpe : pvI e = pvN e.toNat := by unfold pvN; rw [eI]
   have hb77 : hasBody 77 = true := by kernel_rfl
   simp only [hlt,encInt.index hce,encInt.part,hpe,H.l3,callG_func hb77,zz,Nat.reduceEqDiff]
   refine ih e.toNat eS eL ver' ms' _ fun ver2 ms2 => ?_
   show bindO False _ _
   generalize hn : (((es.take j).map Int.toNat).foldl (fun n f => min (n + cntM l f) 1001) 0) = n at next ⊢
   have hn1 : n ≤ 1001 := by
    rw [← hn]
    generalize (es.take j).map Int.toNat = fs
    have : ∀ a,a ≤ 1001 → fs.foldl (fun n f => min (n + cntM l f) 1001) a ≤ 1001 := by
     induction fs with
     | nil => exact fun a h => h
     | cons f fs ih => exact fun a h => ih _ (Nat.min_le_right _ _)
    exact this 0 (by omega)
   have hn2 : cntM l e.toNat ≤ 1001 := by unfold cntM; omega
   have hadd : vBin none .add (pvN n) (pvN (cntM l e.toNat)) = some (.int .i64 (((n + cntM l e.toNat : Nat)) : Int)) := by
    unfold pvN pvI
    rw [vBin_add _ (by omega) (by omega)]
    rfl
   have hmin : vMin (.int .i64 (((n + cntM l e.toNat : Nat)) : Int)) (.int .i64 1001) = some (pvN (min (n + cntM l e.toNat) 1001)) := by
    by_cases hc : 1001 < n + cntM l e.toNat
    ·rw [Nat.min_eq_right (by omega)]
     simp only [vMin,if_true]
     rw [if_pos (by omega)]
     rfl
    ·rw [Nat.min_eq_left (by omega)]
     simp only [vMin,if_true]
     rw [if_neg (by omega)]
     rfl
   simp only [hadd,hmin,zz,Nat.reduceEqDiff]
   rw [vBin_add _ (by omega) (by omega)]
   simp only [zz,Nat.reduceEqDiff]
   refine next _ _ hlt ⟨ver2,ms2,?_,rfl⟩
   rw [List.take_add_one,hce,List.map_append,List.foldl_append,hn]
   rfl
  ·obtain rfl : j = es.length := by omega
   rw [List.take_length,← hcs]
   obtain ⟨ms2,hs2,_⟩ := mapN_set (H.get (ver := ver') (ms := ms')) i
   simp only [hlt,H.l1,hs2,H.set,zz,Nat.reduceEqDiff]
   exact weakW_keep (hR _ _)
 ·have hc : cntM l i = 1 := by unfold cntM; rw [leaves_one ok hs hk0]; rfl
  obtain ⟨ms',hs,_⟩ := mapN_set (H.get (ver := ver) (ms := ms)) i
  simp only [hc] at hs
  have hs' : vMapSet .int (.mref mm) (pvN i) (.int .i64 1) (cst S0 l mm ver ms) = some ((cst S0 l mm ver ms).set mm (.map (ver + 1) (mapN (fun i => pvN (cntM l i)) ms'))) := hs
  simp only [H.l1,hs',H.set,zz,Nat.reduceEqDiff]
  have := hR (ver + 1) ms'
  rw [hc] at this
  exact weakW_keep this
theorem c29 {σ : St} (ht : TabAt l p σ) (ok : OkT l) {i : Nat} (hi : i < l.length) : Ret W 29 [.ptr p 0 0 0,pvN i] σ (pvN (cntM l i)) := by
 refine ret_of fun R hR => ?_
 rw [fn29_eq]
 delta fn29
 have putM : ∀ (S : St) (b : Nat),vStore 1 (.ptr S.length 0 0 0) (.mref b) (S ++ [.arr 0 1 [.nilmap]]) = some (S ++ [.arr 0 1 [.mref b]]) := fun S b => new_put rfl rfl (fun cs h => by cases h)
 have putF : ∀ (S : St) (f : FuncId) (cs : List PV),vStore 1 (.ptr S.length 0 0 0) (.func f 0 cs) (S ++ [.arr 0 1 [.nilfunc]]) = some (S ++ [.arr 0 1 [.func f 0 cs]]) := fun S f cs => new_put rfl rfl (fun cs h => by cases h)
 simp only [ptr_box,Nat.zero_lt_one,newW_eq,newMapW,putM,putF,zz,Nat.reduceEqDiff]
 simp only [List.length_append,List.length_cons,List.length_nil,Nat.zero_add,Nat.add_assoc,Nat.reduceAdd,List.append_assoc,List.cons_append,List.nil_append]
 have hpl : p < σ.length := by
  obtain ⟨g,z,kt,tvs,rest,h1,_⟩ := ht
  exact blk_lt h1
 have H : CSet (σ ++ [.arr 0 1 [.ptr p 0 0 0],.map 0 [],.arr 0 1 [.mref (σ.length + 1)],.arr 0 1 [.func 77 0 [.ptr (σ.length + 2) 0 0 0,.ptr σ.length 0 0 0,.ptr (σ.length + 3) 0 0 0]]]) l p (σ.length + 2) σ.length (σ.length + 3) (σ.length + 1) := by
  refine ⟨ht.to (List.getElem?_append_left hpl),by simp,by simp,by simp,by simp,by omega⟩
 have hS : (σ ++ [.arr 0 1 [.ptr p 0 0 0],.map 0 [],.arr 0 1 [.mref (σ.length + 1)],.arr 0 1 [.func 77 0 [.ptr (σ.length + 2) 0 0 0,.ptr σ.length 0 0 0,.ptr (σ.length + 3) 0 0 0]]] : St) = cst (σ ++ [.arr 0 1 [.ptr p 0 0 0],.map 0 [],.arr 0 1 [.mref (σ.length + 1)],.arr 0 1 [.func 77 0 [.ptr (σ.length + 2) 0 0 0,.ptr σ.length 0 0 0,.ptr (σ.length + 3) 0 0 0]]]) l (σ.length + 1) 0 [] := by
  unfold cst
  have : (σ ++ [.arr 0 1 [.ptr p 0 0 0],.map 0 [],.arr 0 1 [.mref (σ.length + 1)],.arr 0 1 [.func 77 0 [.ptr (σ.length + 2) 0 0 0,.ptr σ.length 0 0 0,.ptr (σ.length + 3) 0 0 0]]] : St)[σ.length + 1]? = some (.map 0 (mapN (fun i => pvN (cntM l i)) [])) := by simp [mapN]
  obtain ⟨h1,h2⟩ := List.getElem?_eq_some_iff.1 this
  rw [← h2]
  exact (List.set_getElem_self h1).symm
 rw [hS]
 have hb77 : hasBody 77 = true := by kernel_rfl
 simp only [H.l3,callG_func hb77,zz,Nat.reduceEqDiff]
 refine c77 H ok i hi 0 [] _ fun ver' ms' => ?_
 show weakW _ _ _ _
 exact weakW_clean (pre_set (List.prefix_append _ _) (by omega) _) (frz_same (.int _ _)) hR
theorem kinds_at : ∀ n : Nat,n < 14 → vLoad false 1 (.eptr (.agg kindsPV) n) [] = some (.int .i64 (kindS (n : Int)))
 | 0,_ => rfl | 1,_ => rfl | 2,_ => rfl | 3,_ => rfl | 4,_ => rfl | 5,_ => rfl | 6,_ => rfl | 7,_ => rfl
 | 8,_ => rfl | 9,_ => rfl | 10,_ => rfl | 11,_ => rfl | 12,_ => rfl | 13,_ => rfl
 | n + 14,h => by omega
theorem pre_of_get {σ σ' : St} (hl : σ.length ≤ σ'.length) (h : ∀ b,b < σ.length → σ'[b]? = σ[b]?) : σ <+: σ' := by
 refine ⟨σ'.drop σ.length,List.ext_getElem? fun i => ?_⟩
 by_cases hi : i < σ.length
 ·rw [List.getElem?_append_left hi,h i hi]
 ·rw [List.getElem?_append_right (by omega),List.getElem?_drop]
  congr 1
  omega
theorem c30 (ok : OkT l) : ∀ (i : Nat),i < l.length → ∀ (σ : St) (o : Option Nat) (v : PV) (xs : List PV) (R : Res → St → Prop),TabAt l p σ → IsG σ ⟨o,6,v,xs⟩ → o ≠ some p → xs.length + (leaves l i).length ≤ 1048576 →
  (∀ v' σ' o',IsG σ' ⟨o',6,v',xs ++ (leaves l i).map (pvSlG l)⟩ → (∀ b,o' = some b → o = some b ∨ σ.length ≤ b) → (∀ b,o ≠ some b → b < σ.length → σ'[b]? = σ[b]?) → σ.length ≤ σ'.length → R (.ret v') σ') →
  W 30 [.ptr p 0 0 0,pvN i,v] σ R := by
 intro i
 induction i using (str_wf ok).induction with
 | _ i ih =>
 intro hi σ o v xs R ht hg hop hbd hR
 refine callW_fold ?_
 rw [fn30_eq]
 delta fn30 bF pF lF kF nI nL mF
 obtain ⟨kt,tvs,hld,htv⟩ := ht.load
 obtain ⟨k1,k2,hix⟩ := htv.index hi kt
 have hnl : vNil (.ptr p 0 0 0) = some (.ptr p 0 0 0) := rfl
 have hpt : vPart true 6 (pvModeK k1 k2 (mAtM l i)) 0 = some (pvModeK k1 k2 (mAtM l i)) := rfl
 have hput : vPut 6 (.agg [(.int .i64 0),(.int .i64 0),(.list .nil []),(.list .nil []),(.int .i64 0),(.bool false)]) 0 (pvModeK k1 k2 (mAtM l i)) = some (pvModeK k1 k2 (mAtM l i)) := rfl
 have p0 : vPart false 1 (pvModeK k1 k2 (mAtM l i)) 0 = some (.int .i64 (mAtM l i).kind) := rfl
 have p1 : vPart false 1 (pvModeK k1 k2 (mAtM l i)) 1 = some (.int .i64 (mAtM l i).size) := rfl
 have p2 : vPart false 1 (pvModeK k1 k2 (mAtM l i)) 2 = some (.list k1 ((mAtM l i).elems.2.map pvI)) := rfl
 have p4 : vPart false 1 (pvModeK k1 k2 (mAtM l i)) 4 = some (.int .i64 (mAtM l i).dims) := rfl
 have p5 : vPart false 1 (pvModeK k1 k2 (mAtM l i)) 5 = some (.bool (mAtM l i).flex) := rfl
 simp only [hnl,hld,hix,hpt,hput,p0,zz,Nat.reduceEqDiff]
 have e11 : ((mAtM l i).kind == 11) = structK (mAtM l i) := rfl
 refine condB (fun h0 => ?_) (fun h0 => ?_)
 ·have hk0 : (mAtM l i).kind = 0 := by simpa using h0
  refine weakW_keep (hR v σ o ?_ (fun b hb => .inl hb) (fun _ _ _ => rfl) (Nat.le_refl _))
  rw [leaves_void ok hk0]
  simpa using hg
 have hk0 : (mAtM l i).kind ≠ 0 := by simpa using h0
 rw [e11]
 refine condB (fun hs => ?_) (fun hs => ?_)
 ·simp only [p2,List.length_map,zz,Nat.reduceEqDiff]
  have hwalk : ∀ e : Int,e ∈ (mAtM l i).elems.2 → (e.toNat : Int) = e ∧ e.toNat < l.length ∧ strM l i e.toNat := fun e he => by
   obtain ⟨h1,h2,h3⟩ := plain_elem ok.plain (mAtM_mem hi) he
   exact ⟨h3,h2,hi,hs,List.mem_map.2 ⟨e,he,rfl⟩⟩
  have hcs := leaves_struct ok hs
  have hbe := bd_elems ok hi
  unfold elemsN at hcs
  rw [hcs] at hbd hR
  generalize hes : (mAtM l i).elems.2 = es at hwalk hbd hR hbe
  have hpart : ∀ j,((es.take j).map Int.toNat).flatMap (leaves l) <+: (es.map Int.toNat).flatMap (leaves l) := fun j => by
   refine ⟨((es.drop j).map Int.toNat).flatMap (leaves l),?_⟩
   rw [← List.flatMap_append,← List.map_append,List.take_append_drop]
  refine Lfp_up es.length (fun j x σ' => ∃ (o' : Option Nat) (v' : PV),x = lookP [(0,.ptr p 0 0 0),(2,v'),(25,.list k1 (es.map pvI)),(26,.int .i64 es.length),(27,.int .i64 j)] ∧ IsG σ' ⟨o',6,v',xs ++ (((es.take j).map Int.toNat).flatMap (leaves l)).map (pvSlG l)⟩ ∧ (∀ b,o' = some b → o = some b ∨ σ.length ≤ b) ∧ (∀ b,o ≠ some b → b < σ.length → σ'[b]? = σ[b]?) ∧ σ.length ≤ σ'.length) ?_
   ⟨o,v,rfl,by simpa using hg,fun b hb => .inl hb,fun _ _ _ => rfl,Nat.le_refl _⟩
  have hpl : p < σ.length := by
   obtain ⟨g,z,kt,tvs,rest,h1,_⟩ := ht
   exact blk_lt h1
  rintro Φ j x σ' hj ⟨o',v',rfl,hg',ho',hfr',hlen'⟩ next
  simp only [zz,Nat.reduceEqDiff]
  by_cases hlt : j < es.length
  ·have hce : es[j]? = some es[j] := by simp [hlt]
   have hemem : es[j] ∈ es := by simp
   generalize es[j] = e at hce hemem
   obtain ⟨eI,eL,eS⟩ := hwalk e hemem
   have hpe : pvI e = pvN e.toNat := by unfold pvN; rw [eI]
   simp only [hlt,encInt.index hce,encInt.part,hpe,zz,Nat.reduceEqDiff]
   have hsum : ((es.take j).map Int.toNat).flatMap (leaves l) ++ leaves l e.toNat = ((es.take (j + 1)).map Int.toNat).flatMap (leaves l) := by
    rw [List.take_add_one,hce,List.map_append,List.flatMap_append]
    simp
   have hle := (hpart (j + 1)).length_le
   rw [← hsum,List.length_append] at hle
   refine ih e.toNat eS eL σ' o' v' _ _ (ht.to (hfr' p hop hpl)) hg' (fun h => by
    rcases ho' p h with h | h
    ·exact hop h
    ·omega) (by simp only [List.length_append,List.length_map]; omega) fun v2 σ2 o2 hg2 ho2 hfr2 hlen2 => ?_
   show bindO False _ _
   rw [vBin_add _ (by omega) (by omega)]
   simp only [zz,Nat.reduceEqDiff]
   refine next _ _ hlt ⟨o2,v2,rfl,?_,fun b hb => ?_,fun b hb hbl => ?_,by omega⟩
   ·rw [← hsum,List.map_append,← List.append_assoc]
    exact hg2
   ·rcases ho2 b hb with h | h
    ·exact ho' b h
    ·right; omega
   ·rw [hfr2 b (fun h => by
     rcases ho' b h with h | h
     ·exact hb h
     ·omega) (by omega)]
    exact hfr' b hb hbl
  ·obtain rfl : j = es.length := by omega
   rw [List.take_length] at hg'
   simp only [hlt,zz,Nat.reduceEqDiff]
   exact weakW_keep (hR v' σ' o' hg' ho' hfr' hlen')
 ·rw [leaves_one ok hs hk0] at hR hbd
  have hsh := shapeOk_kind (by
   have := ok.plain _ (mAtM_mem hi)
   simp only [plainOk,Bool.and_eq_true] at this
   exact this.1.1.1)
  have hoff : vArrOff 1 14 (.int .i64 (mAtM l i).kind) = some (mAtM l i).kind.toNat := by
   simp only [vArrOff]
   rw [if_pos ⟨hsh.1,by have := hsh.2; omega⟩]
   simp
  have hfld : ∀ n : Nat,vField n (globPV 0) = some (.eptr (.agg kindsPV) n) := fun n => by simp [globPV,vField]
  have hkl : vLoad false 1 (.eptr (.agg kindsPV) (mAtM l i).kind.toNat) σ = some (.int .i64 (kindS (mAtM l i).kind)) := by
   have := kinds_at (mAtM l i).kind.toNat (by omega)
   rw [show (((mAtM l i).kind.toNat : Nat) : Int) = (mAtM l i).kind by omega] at this
   exact this
  have hb1 : vBuild [(.int .i64 0),(.int .i64 0),(.int .i64 0),(.int .i64 0),(.bool false)] [(0,1,.int .i64 (kindS (mAtM l i).kind)),(1,1,.int .i64 (mAtM l i).size),(3,1,.int .i64 (mAtM l i).dims),(4,1,.bool (mAtM l i).flex)] = some [.int .i64 (kindS (mAtM l i).kind),.int .i64 (mAtM l i).size,.int .i64 0,.int .i64 (mAtM l i).dims,.bool (mAtM l i).flex] := rfl
  have hb2 : vBuild [(.int .i64 0),(.int .i64 0),(.int .i64 0),(.int .i64 0),(.bool false),(.int .i64 0)] [(0,5,(.agg [.int .i64 (kindS (mAtM l i).kind),.int .i64 (mAtM l i).size,.int .i64 0,.int .i64 (mAtM l i).dims,.bool (mAtM l i).flex])),(5,1,pvN i)] = some [.int .i64 (kindS (mAtM l i).kind),.int .i64 (mAtM l i).size,.int .i64 0,.int .i64 (mAtM l i).dims,.bool (mAtM l i).flex,pvN i] := rfl
  have hb3 : vBuildSl 6 (List.replicate 1 (.agg [(.int .i64 0),(.int .i64 0),(.int .i64 0),(.int .i64 0),(.bool false),(.int .i64 0)])) [(0,(.agg [.int .i64 (kindS (mAtM l i).kind),.int .i64 (mAtM l i).size,.int .i64 0,.int .i64 (mAtM l i).dims,.bool (mAtM l i).flex,pvN i]))] = some [pvSlG l i] := rfl
  obtain ⟨v',σ',o',hap,hg2,ho2,hfr2,hlen2⟩ := hg.app1 (by_ := 48) (k := .full) (y := pvSlG l i) ⟨_,rfl,rfl⟩ (by simp only [List.length_singleton] at hbd; simp only; omega)
  simp only at hap
  have hkl' : kindsPV[(mAtM l i).kind.toNat]? = some (.int .i64 (kindS (mAtM l i).kind)) := hkl
  simp only [hoff,hfld,hkl',p1,p4,p5,hb1,hb2,hb3,hap,zz,Nat.reduceEqDiff]
  exact weakW_keep (hR v' σ' o' hg2 (fun b hb => (ho2 b hb).imp id fun h => by omega) hfr2 hlen2)
end
end Go.Proofs.YteikomnahelckaaGreatDoor
