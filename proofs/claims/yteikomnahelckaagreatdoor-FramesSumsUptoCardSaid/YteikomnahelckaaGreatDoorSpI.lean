import Derived.Test.YteikomnahelckaaGreatDoorSpG
import Derived.Test.YteikomnahelckaaGreatDoorAbsB
set_option linter.unusedVariables false
set_option linter.unusedSimpArgs false
namespace Go.Proofs.YteikomnahelckaaGreatDoor
open Go Go.Abs
theorem encBool : EncOk PV.bool false 1 := ⟨fun a => ⟨_,rfl,rfl⟩,fun a => rfl⟩
theorem c118 {l : List Bool} (hl : l.length < 4611686018427387904) (b : Bool) {k : LK} (σ : St) : Ret W 118 [.list k (l.map PV.bool),.bool b] σ (.int .i64 (idxOf (fun t => b == t) l 0)) := by
 refine ret_of fun R hR => ?_
 rw [fn118_eq]
 delta fn118 bF kF nI
 simp only [List.length_map,zz,Nat.reduceEqDiff]
 refine Lfp_up l.length (fun i x σ' => x = lookP [(0,.list k (l.map PV.bool)),(1,.bool b),(7,.int .i64 l.length),(8,.int .i64 i)] ∧ σ' = σ ∧ (l.take i).all (fun t => !(b == t)) = true) ?_ ⟨rfl,rfl,rfl⟩
 rintro Φ i x σ' hi ⟨rfl,rfl,hp⟩ next
 simp only [zz,Nat.reduceEqDiff]
 by_cases hlt : i < l.length
 ·have hc : l[i]? = some l[i] := by simp [hlt]
  generalize l[i] = a at hc
  have hbb : vBin (some .bool) .eql (.bool b) (.bool a) = some (.bool (b == a)) := by cases a <;> cases b <;> rfl
  simp only [hlt,encBool.index hc,encBool.part,hbb,zz,Nat.reduceEqDiff]
  cases hpa : b == a with
  | true =>
   simp only [zz,Nat.reduceEqDiff]
   refine weakW_keep ?_
   rw [idxOf_hit (p := fun t => b == t) hc hpa hp] at hR
   simpa using hR
  | false =>
   simp only [zz,Nat.reduceEqDiff]
   rw [vBin_add _ (by omega) (by omega)]
   simp only [zz,Nat.reduceEqDiff]
   exact next _ _ hlt ⟨rfl,rfl,all_take_succ hp hc (by simp [hpa])⟩
 ·obtain rfl : i = l.length := by omega
  rw [List.take_length] at hp
  simp only [hlt,zz,Nat.reduceEqDiff]
  refine weakW_keep ?_
  rw [idxOf_none hp] at hR
  exact hR
theorem c70 {l : List Bool} (hl : l.length < 4611686018427387904) (b : Bool) {k : LK} (σ : St) : Ret W 70 [.list k (l.map PV.bool),.bool b] σ (.bool (l.contains b)) := by
 refine ret_of fun R hR => ?_
 rw [fn70_eq]
 delta fn70 bF nI
 refine (c118 hl b σ).callB ?_
 simp only [idxOf_ge,zz,Nat.reduceEqDiff]
 have e : l.any (fun t => b == t) = l.contains b := by
  rw [Bool.eq_iff_iff]
  simp
 rw [e]
 exact weakW_keep hR
def bq (σ : St) (r : List Bool) (J : St) : St := σ ++ (.arr 0 1 (r.map PV.bool) :: J)
theorem bq_0 (σ : St) (r : List Bool) (J : St) : (bq σ r J)[σ.length]? = some (.arr 0 1 (r.map PV.bool)) := by simp [bq]
theorem bq_pre (σ : St) (r : List Bool) (J : St) : σ <+: bq σ r J := List.prefix_append _ _
theorem bq_app (σ : St) (r : List Bool) (J K : St) : bq σ r J ++ K = bq σ r (J ++ K) := by simp [bq]
theorem bq_set (σ : St) (r r' : List Bool) (J : St) : (bq σ r J).set σ.length (.arr 0 1 (r'.map PV.bool)) = bq σ r' J := by
 simp [bq,List.set_append_right]
theorem bq_load {σ : St} {r : List Bool} {J : St} {i : Nat} {b : Bool} (h : r[i]? = some b) : vLoad false 1 (.ptr σ.length 0 i 0) (bq σ r J) = some (.bool b) :=
 load_cell (bq_0 _ _ _) (by rw [List.getElem?_map,h]; rfl) rfl
theorem bq_store {σ : St} {r : List Bool} {J : St} {i : Nat} {b : Bool} (h : r[i]? = some b) (v : Bool) : vStore 1 (.ptr σ.length 0 i 0) (.bool v) (bq σ r J) = some (bq σ (r.set i v) J) := by
 have hi : (r.map PV.bool)[i]? = some (.bool b) := by rw [List.getElem?_map,h]; rfl
 have hp : vPut 1 (.bool b) 0 (.bool v) = some (.bool v) := rfl
 simp only [vStore,bq_0,if_true,hi,hp]
 rw [← List.map_set (f := PV.bool) (a := v),bq_set]
theorem make_bools {σ : St} {n : Nat} (hn : n ≤ 512) : vMakeSl 1 1 (.bool false) (.int .i64 (n : Int)) (.int .i64 (n : Int)) σ = some (.sref σ.length 0 1 0 n,bq σ (List.replicate n false) []) := by
 have hr : roomy n 1 = true := by simp [roomy]; omega
 simp only [vMakeSl]
 rw [if_pos ⟨by omega,trivial,by simpa using hr⟩]
 simp [vBox,PV.cells?,bq]
theorem stepB_iff (l : Tbl) (sh : ModeS → Bool) (m : Nat) : Rch (stepB l fun m => !sh m) m m ↔ Rch (stepM l sh) m m :=
 ⟨fun h => h.mono fun a b hs => ⟨hs.1,by simpa using hs.2.1,hs.2.2⟩,fun h => h.mono fun a b hs => ⟨hs.1,by simpa using hs.2.1,hs.2.2⟩⟩
end Go.Proofs.YteikomnahelckaaGreatDoor
namespace Go.Proofs.YteikomnahelckaaGreatDoor
open Go Go.Abs
theorem new_put {S : St} {x z : PV} (hx : x.cells? = some [x]) (hz : z.cells? = some [z]) (h : ∀ cs,z ≠ .agg cs) : vStore 1 (.ptr S.length 0 0 0) x (S ++ [.arr 0 1 [z]]) = some (S ++ [.arr 0 1 [x]]) := by
 have hp : vPut 1 z 0 x = some x := by
  unfold vPut
  rw [hx]
  simp only [List.length_cons,List.length_nil,Nat.zero_add,if_true]
  cases z <;> first | rfl | exact absurd rfl (h _) | simp [PV.cells?] at hz
 simp only [vStore,new_get,if_true,List.getElem?_cons_zero,hp]
 simp
theorem out_load {σ : St} {bad out : List Bool} {J J2 : St} {i : Nat} {b : Bool} (h : bad[i]? = some b) : vLoad false 1 (.ptr σ.length 0 i 0) (bq (bq σ bad J) out J2) = some (.bool b) :=
 vLoad_ext (bq_load h)
theorem not_true {o : Option Bool} {b : Bool} (h : o = some b) : (o = some true ↔ b = true) := by rw [h]; simp
theorem c71 {l : List ModeS} (hl : l.length ≤ 512) (hp : ∀ m ∈ l,plainOk l.length m = true) {k : LK} {σ : St} {R : Res → St → Prop}
  (hR : ∀ out : List Bool,out.length = l.length → (out.contains false = true ↔ ∃ m,m < l.length ∧ BadM l m) → R (.ret (.list .part (out.map PV.bool))) σ) : W 71 [.list k (l.map pvMode)] σ R := by
 refine callW_fold ?_
 rw [fn71_eq]
 delta fn71 bF gF kF nI
 simp only [List.length_map,make_bools hl,zz,Nat.reduceEqDiff]
 refine Lfp_up l.length (fun i x σ' => x = lookP [(0,.list k (l.map pvMode)),(3,.sref σ.length 0 1 0 l.length),(15,.int .i64 l.length),(16,.int .i64 i)] ∧ ∃ bad J,σ' = bq σ bad J ∧ bad.length = l.length ∧ (∀ j,j < i → (bad[j]? = some true ↔ BadM l j)) ∧ ∀ j,i ≤ j → bad[j]? ≠ some true) ?_
  ⟨rfl,_,_,rfl,by simp,fun j hj => absurd hj (by omega),fun j _ hj => by
   rw [List.getElem?_replicate] at hj
   split at hj <;> simp at hj⟩
 rintro Φ i x σ' hi ⟨rfl,bad,J,rfl,hbl,hb1,hb2⟩ next
 simp only [zz,Nat.reduceEqDiff]
 by_cases hlt : i < l.length
 ·have hb : vBuildSl 1 (List.replicate 2 .nilfunc) [(0,(.func 119 0 [])),(1,(.func 120 0 []))] = some [.func 119 0 [],.func 120 0 []] := rfl
  simp only [hlt,hb,List.length_cons,List.length_nil,zz,Nat.reduceEqDiff]
  refine Lfp_up 2 (fun q x σ' => x = lookP [(0,.list k (l.map pvMode)),(3,.sref σ.length 0 1 0 l.length),(4,.int .i64 i),(15,.int .i64 l.length),(16,.int .i64 i),(19,.list .full [.func 119 0 [],.func 120 0 []]),(20,.int .i64 (1 + 1 : Nat)),(21,.int .i64 q)] ∧ ∃ bad J,σ' = bq σ bad J ∧ bad.length = l.length ∧ (∀ j,j < i → (bad[j]? = some true ↔ BadM l j)) ∧ (∀ j,i < j → bad[j]? ≠ some true) ∧ (bad[i]? = some true ↔ (0 < q ∧ Rch (stepM l yinB) i i) ∨ (1 < q ∧ Rch (stepM l yangB) i i))) ?_
   ⟨rfl,bad,J,rfl,hbl,hb1,fun j hj => hb2 j (by omega),iff_of_false (hb2 i (Nat.le_refl _)) (by omega)⟩
  clear hb1 hb2 hbl bad J
  rintro Φ2 q x σ2 hq ⟨rfl,bad,J,rfl,hbl,hb1,hb2,hb3⟩ next2
  simp only [zz,Nat.reduceEqDiff]
  by_cases hq2 : q < 1 + 1
  ·obtain ⟨f,sh,hf,hfe,hsh,hw⟩ : ∃ (f : FuncId) (sh : ModeS → Bool),hasBody f = true ∧ vIndex 1 (.list .full [.func 119 0 [],.func 120 0 []]) (.int .i64 (q : Int)) = some (.eptr (.func f 0 []) 0) ∧ (∀ m σ,Ret W f [pvMode m] σ (.bool (sh m))) ∧
     ((0 < q + 1 ∧ Rch (stepM l yinB) i i) ∨ (1 < q + 1 ∧ Rch (stepM l yangB) i i) ↔ ((0 < q ∧ Rch (stepM l yinB) i i) ∨ (1 < q ∧ Rch (stepM l yangB) i i)) ∨ Rch (stepM l sh) i i) := by
    have hcase : q = 0 ∨ q = 1 := by omega
    rcases hcase with rfl | rfl
    ·exact ⟨119,yinB,by kernel_rfl,rfl,c119,by simp⟩
    ·exact ⟨120,yangB,by kernel_rfl,rfl,c120,by simp⟩
   have hfp : vPart false 1 (.func f 0 []) 0 = some (.func f 0 []) := rfl
   simp only [hq2,hfe,hfp,newW_eq,new_put (S := bq σ bad J) (x := .func f 0 []) (z := .nilfunc) rfl rfl (fun cs h => by cases h),zz,Nat.reduceEqDiff]
   refine c121 (l := l) hl hp hlt (bg := fun m => !sh m) (fun σ' hpre m' hm' K X hK => ?_) (fun seen hsl hseen => ?_)
   ·rw [callG_func (by kernel_rfl)]
    refine (c122 (sh := sh) hf m' ?_ (hsh m' σ')).callB hK
    obtain ⟨t,rfl⟩ := hpre
    exact vLoad_ext (load_cell (g := 0) (z := 1) (xs := [.func f 0 []]) (x := .func f 0 []) (by simp) rfl rfl)
   ·have hsi : seen[i]? = some (seen[i]'(by omega)) := by simp
    have hri := (hseen i).trans (stepB_iff l sh i)
    generalize seen[i]'(by omega) = v at hsi
    simp only [encBool.index hsi,encBool.part,bq_app,zz,Nat.reduceEqDiff]
    have hbi : bad[i]? = some (bad[i]'(by omega)) := by simp
    cases hv : v with
    | true =>
     subst hv
     simp only [sref_at (b := σ.length) (g := 0) (n := l.length) (i := i) (k := .i64) hlt,bq_store hbi true,zz,Nat.reduceEqDiff]
     rw [vBin_add _ (by omega) (by omega)]
     simp only [zz,Nat.reduceEqDiff]
     refine next2 _ _ hq2 ⟨rfl,_,_,rfl,by simpa using hbl,fun j hj => ?_,fun j hj => ?_,?_⟩
     ·rw [List.getElem?_set_ne (by omega)]; exact hb1 j hj
     ·rw [List.getElem?_set_ne (by omega)]; exact hb2 j hj
     ·rw [List.getElem?_set_self (by omega)]
      rw [hw]
      exact iff_of_true rfl (.inr (hri.1 hsi))
    | false =>
     subst hv
     simp only [zz,Nat.reduceEqDiff]
     rw [vBin_add _ (by omega) (by omega)]
     simp only [zz,Nat.reduceEqDiff]
     refine next2 _ _ hq2 ⟨rfl,_,_,rfl,hbl,hb1,hb2,?_⟩
     rw [hw,hb3]
     refine ⟨.inl,fun h => h.resolve_right fun hr => ?_⟩
     have := hri.2 hr
     rw [hsi] at this
     cases this
  ·simp only [hq2,zz,Nat.reduceEqDiff]
   rw [vBin_add _ (by omega) (by omega)]
   simp only [zz,Nat.reduceEqDiff]
   refine next _ _ hlt ⟨rfl,bad,J,rfl,hbl,fun j hj => ?_,fun j hj => hb2 j (by omega)⟩
   by_cases hji : j = i
   ·subst hji
    rw [hb3]
    unfold BadM
    have : 0 < q ∧ 1 < q := by omega
    simp [this.1,this.2]
   ·exact hb1 j (by omega)
 ·have hbad : ∀ j,bad[j]? = some true ↔ j < l.length ∧ BadM l j := by
   intro j
   by_cases hj : j < l.length
   ·rw [hb1 j (by omega)]
    simp [hj]
   ·refine iff_of_false (fun h => ?_) (fun h => hj h.1)
    have := (List.getElem?_eq_some_iff.1 h).1
    omega
  simp only [hlt,List.length_map,make_bools hl,zz,Nat.reduceEqDiff]
  clear hb1 hb2 next Φ
  generalize hS : bq σ bad J = S
  have hSp : σ <+: S := by rw [← hS]; exact bq_pre _ _ _
  refine Lfp_up l.length (fun m x σ' => x = lookP [(0,.list k (l.map pvMode)),(3,.sref σ.length 0 1 0 l.length),(7,.sref S.length 0 1 0 l.length),(41,.int .i64 l.length),(42,.int .i64 m)] ∧ ∃ out J2,σ' = bq S out J2 ∧ out.length = l.length ∧ ∀ j,j < m → (out[j]? = some false → ∃ m,m < l.length ∧ BadM l m) ∧ (BadM l j → out[j]? = some false)) ?_
   ⟨rfl,_,_,rfl,by simp,fun j hj => absurd hj (by omega)⟩
  rintro Φ m x σ' hm ⟨rfl,out,J2,rfl,hol,ho⟩ next
  simp only [zz,Nat.reduceEqDiff]
  by_cases hlm : m < l.length
  ·have hbm : bad[m]? = some (bad[m]'(by omega)) := by simp
   generalize hbv : bad[m]'(by omega) = bm at hbm
   have hom : out[m]? = some (out[m]'(by omega)) := by simp
   have hld : ∀ {i : Nat} {b : Bool} (out : List Bool) (J2 : St),bad[i]? = some b → vLoad false 1 (.ptr σ.length 0 i 0) (bq S out J2) = some (.bool b) := fun out J2 h => by
    rw [← hS]
    exact out_load h
   simp only [hlm,sref_at (b := σ.length) (g := 0) (n := l.length) (i := m) (k := .i64) hlm,hld out J2 hbm,sref_at (b := S.length) (g := 0) (n := l.length) (i := m) (k := .i64) hlm,bq_store hom,zz,Nat.reduceEqDiff]
   refine c121 (l := l) hl hp hlm (bg := fun _ => true) (fun σ' hpre m' hm' K X hK => ?_) (fun seen hsl hseen => ?_)
   ·rw [callG_func (by kernel_rfl)]
    exact (c123 m' σ').callB hK
   ·simp only [List.length_map,zz,Nat.reduceEqDiff]
    refine Lfp_up seen.length (fun i x σ' => x = lookP [(0,.list k (l.map pvMode)),(3,.sref σ.length 0 1 0 l.length),(7,.sref S.length 0 1 0 l.length),(8,.int .i64 m),(41,.int .i64 l.length),(42,.int .i64 m),(55,.list .part (seen.map PV.bool)),(56,.int .i64 seen.length),(57,.int .i64 i)] ∧ ∃ v,σ' = bq S (out.set m v) J2 ∧ (v = false → ∃ m,m < l.length ∧ BadM l m) ∧ (BadM l m → v = false)) ?_
     ⟨rfl,!bm,rfl,fun h => ⟨m,hlm,((hbad m).1 (by rw [hbm]; simpa using h)).2⟩,fun h => by
      have := (hbad m).2 ⟨hlm,h⟩
      rw [hbm] at this
      cases this
      rfl⟩
    rintro Φ2 i x σ2 hi2 ⟨rfl,v,rfl,hv1,hv2⟩ next2
    simp only [zz,Nat.reduceEqDiff]
    by_cases hli : i < seen.length
    ·have hsi : seen[i]? = some (seen[i]'hli) := by simp
     have hbi : bad[i]? = some (bad[i]'(by omega)) := by simp
     generalize hbiv : bad[i]'(by omega) = bi at hbi
     simp only [hli,encBool.index hsi,encBool.part,zz,Nat.reduceEqDiff]
     refine andG bi (fun hb J nx => ?_) ?_
     ·simp only [sref_at (b := σ.length) (g := 0) (n := l.length) (i := i) (k := .i64) (by omega),hld _ _ hbi,zz,Nat.reduceEqDiff]
      exact nx _ rfl
     ·refine condB (fun h => ?_) (fun h => ?_)
      ·have hom2 : (out.set m v)[m]? = some v := List.getElem?_set_self (by omega)
       simp only [sref_at (b := S.length) (g := 0) (n := l.length) (i := m) (k := .i64) hlm,bq_store hom2,zz,Nat.reduceEqDiff]
       rw [vBin_add _ (by omega) (by omega)]
       simp only [zz,Nat.reduceEqDiff]
       simp only [Bool.and_eq_true] at h
       refine next2 _ _ hli ⟨rfl,false,by rw [List.set_set],fun _ => ⟨i,by omega,((hbad i).1 (by rw [hbi,h.2])).2⟩,fun _ => rfl⟩
      ·rw [vBin_add _ (by omega) (by omega)]
       simp only [zz,Nat.reduceEqDiff]
       exact next2 _ _ hli ⟨rfl,v,rfl,hv1,hv2⟩
    ·simp only [hli,zz,Nat.reduceEqDiff]
     rw [vBin_add _ (by omega) (by omega)]
     simp only [zz,Nat.reduceEqDiff]
     refine next _ _ hlm ⟨rfl,out.set m v,J2,rfl,by simpa using hol,fun j hj => ?_⟩
     by_cases hjm : j = m
     ·subst hjm
      rw [List.getElem?_set_self (by omega)]
      exact ⟨fun h => hv1 (by simpa using h),fun h => by rw [hv2 h]⟩
     ·rw [List.getElem?_set_ne (Ne.symm hjm)]
      exact ho j (by omega)
  ·simp only [hlm,zz,Nat.reduceEqDiff]
   refine weakW_clean (hSp.trans (bq_pre _ _ _)) (v' := .list .part (out.map PV.bool)) ?_ (hR out hol ⟨fun h => ?_,fun ⟨j,hj,hbj⟩ => ?_⟩)
   ·refine .sref S.length 0 1 0 _ 0 1 _ _ (bq_0 _ _ _) rfl hSp.length_le (by simp [hol]) (by simp [hol]) fun i a d hi ha hd => ?_
    rw [Nat.zero_add,hd] at ha
    cases ha
    obtain ⟨b,_,rfl⟩ := List.mem_map.1 (List.mem_of_getElem? hd)
    exact .base _ (.bool b)
   ·have hmem : false ∈ out := by simpa using h
    obtain ⟨j,hj⟩ := List.mem_iff_getElem?.1 hmem
    exact (ho j (by have := (List.getElem?_eq_some_iff.1 hj).1; omega)).1 hj
   ·have := (ho j (by omega)).2 hbj
    have hmem := List.mem_of_getElem? this
    simpa using hmem
end Go.Proofs.YteikomnahelckaaGreatDoor
