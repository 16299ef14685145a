import Derived.Test.YteikomnahelckaaGreatDoorLyL
set_option linter.unusedVariables false
set_option linter.unusedSimpArgs false
namespace Go.Proofs.YteikomnahelckaaGreatDoor
open Go Go.Abs
theorem isG_nil {σ : St} {s : Sl5} (h : IsG σ s) : NilOk s.v s.xs := by
 rcases h with ⟨_,h2,h3⟩ | ⟨b,g,_,h2,_,_⟩
 ·exact .inl ⟨.nil,by rw [h2,h3],fun _ => h3⟩
 ·exact .inr ⟨_,_,_,_,_,h2⟩
theorem maps_flat {ms : List PV} {mss : List (List SlotS)} (h : MapsV ms mss) : ∀ v ∈ ms,Flat v := by
 intro v hv
 obtain ⟨i,hi⟩ := List.getElem?_of_mem hv
 have hil := (List.getElem?_eq_some_iff.1 hi).1
 have hc : mss[i]? = some (mss[i]'(by have := h.1; omega)) := by simp
 obtain ⟨k,hk,_⟩ := h.2 i _ hc
 rw [hi] at hk
 cases hk
 refine .agg _ fun y hy => ?_
 simp at hy
 subst hy
 exact .list _ _ (slots_flat _)
theorem maps_sized {ms : List PV} {mss : List (List SlotS)} (h : MapsV ms mss) : ∀ v ∈ ms,Sized 1 v := by
 intro v hv
 obtain ⟨i,hi⟩ := List.getElem?_of_mem hv
 have hil := (List.getElem?_eq_some_iff.1 hi).1
 have hc : mss[i]? = some (mss[i]'(by have := h.1; omega)) := by simp
 obtain ⟨k,hk,_⟩ := h.2 i _ hc
 rw [hi] at hk
 cases hk
 exact ⟨_,rfl,rfl⟩
section
variable {l : Tbl} {d : ED} {σ : St} {p : Nat} {A : LC} {uo so : List Nat} {x : OV} {mss : List (List SlotS)} {uss : List (List Int)} {gss : List (Int × Int)}
theorem c13 (F : LF l d σ p A uo so x mss uss gss) {R : Res → St → Prop} (hR : ∀ k ms,MapsV ms mss → R (.ret (.list k ms)) σ) : W 13 [.ptr p 0 0 0] σ R := by
 refine callW_fold ?_
 rw [fn13_eq]
 delta fn13 bF lF kF nI nL
 have hnl : vNil (.ptr p 0 0 0) = some (.ptr p 0 0 0) := rfl
 have h5 : vLoad false 1 (.ptr p 0 0 5) σ = some x.mv := F.M.cell rfl
 have hml := F.ms.1
 have hms := F.small.1
 simp only [nil_ptr,hnl,h5,zz,Nat.reduceEqDiff]
 have hG := F.isG
 refine clone_row k35 (v := x.mv) (xs := A.ms) hG.elems (isG_nil hG) (maps_sized F.ms) (by omega) (fun he k => ?_) (fun hne => ?_)
 ·show bindO False _ _
  simp only [zz,List.length_nil,Nat.reduceEqDiff]
  refine Lfp_up 0 (fun i x σ' => x = lookP [(3,.list k []),(13,.int .i64 (0 : Nat)),(14,.int .i64 (i : Nat))] ∧ σ' = σ) ?_ ⟨rfl,rfl⟩
  rintro Φ i x σ' hi ⟨rfl,rfl⟩ next
  have hlt : ¬ i < 0 := by omega
  simp only [zz,hlt,Nat.reduceEqDiff]
  refine weakW_keep (hR k [] ⟨by rw [← hml,he],fun i sl h => ?_⟩)
  have := (List.getElem?_eq_some_iff.1 h).1
  rw [← hml,he] at this
  simp at this
 ·show bindO False _ _
  simp only [zz,Nat.reduceEqDiff]
  refine Lfp_up A.ms.length (fun i x σ' => x = lookP [(3,.sref σ.length 0 1 0 A.ms.length),(13,.int .i64 A.ms.length),(14,.int .i64 i)] ∧ ∃ ms,σ' = σ ++ [.arr 0 1 ms] ∧ MapsV ms mss) ?_ ⟨rfl,A.ms,rfl,F.ms⟩
  rintro Φ i x σ' hi ⟨rfl,ms,rfl,hM⟩ next
  simp only [zz,Nat.reduceEqDiff]
  have hblk : ∀ t : List PV,(σ ++ [Blk.arr 0 1 t])[σ.length]? = some (.arr 0 1 t) := fun t => by simp
  by_cases hlt : i < A.ms.length
  ·have hat : vIndex 1 (.sref σ.length 0 1 0 A.ms.length) (.int .i64 (i : Int)) = some (.ptr σ.length 0 i 0) := by
    simp only [vIndex]
    rw [if_pos ⟨by omega,by omega,trivial⟩]
    simp
   have hc : mss[i]? = some (mss[i]'(by omega)) := by simp
   have hcm : (mss[i]'(by omega)) ∈ mss := by simp
   generalize (mss[i]'(by omega)) = sl at hc hcm
   obtain ⟨k,hk,hkn⟩ := hM.2 i sl hc
   have hld : vLoad false 1 (.ptr σ.length 0 i 0) (σ ++ [.arr 0 1 ms]) = some (.list k (sl.map pvSlot)) := by
    simp only [vLoad,hblk,if_true,hk]
    rfl
   have hsl := F.small.2 sl hcm
   simp only [hlt,hat,hld,zz,Nat.reduceEqDiff]
   refine clone_list k34 (.list _ _) (.inl ⟨_,rfl,fun h => by rw [hkn h]; rfl⟩) (fun y hy => by
    obtain ⟨s,_,rfl⟩ := List.mem_map.1 hy
    exact ⟨_,rfl,rfl⟩) (slots_flat _) (by simp only [List.length_map]; omega) fun k' hk' => ?_
   show bindO False _ _
   have hpu : vPut 1 (pvMapS k sl) 0 (.list k' (sl.map pvSlot)) = some (pvMapS k' sl) := rfl
   have hst : vStore 1 (.ptr σ.length 0 i 0) (.list k' (sl.map pvSlot)) (σ ++ [.arr 0 1 ms]) = some (σ ++ [.arr 0 1 (ms.set i (pvMapS k' sl))]) := by
    simp only [vStore,hblk,if_true,hk,hpu]
    simp
   simp only [hat,hst,zz,Nat.reduceEqDiff]
   rw [vBin_add _ (by omega) (by omega)]
   simp only [zz,Nat.reduceEqDiff]
   refine next _ _ hlt ⟨rfl,_,rfl,by simpa using hM.1,fun j sl' hj => ?_⟩
   by_cases hji : j = i
   ·subst hji
    rw [hc] at hj
    cases hj
    exact ⟨k',List.getElem?_set_self (List.getElem?_eq_some_iff.1 hk).1,fun h => by simpa using hk' h⟩
   ·rw [List.getElem?_set_ne (Ne.symm hji)]
    exact hM.2 j sl' hj
  ·obtain rfl : i = A.ms.length := by omega
   simp only [hlt,zz,Nat.reduceEqDiff]
   have hl2 : ms.length = A.ms.length := by rw [hM.1,hml]
   refine weakW_clean (List.prefix_append _ _) (v' := .list .part ms) ?_ (hR _ _ hM)
   refine .sref σ.length 0 1 0 _ 0 1 ms _ (by simp) rfl (Nat.le_refl _) hl2 (by omega) fun i a c hi ha hc => ?_
   rw [Nat.zero_add,hc] at ha
   cases ha
   exact .base _ ((maps_flat hM a (List.mem_of_getElem? hc)).under _)
noncomputable def atF (l : Tbl) (m k : Nat) : Nat := (((mAtM l m).elems.2.take k).map fun e => (leaves l e.toNat).length).sum
noncomputable def fieldR (l : Tbl) (m k : Int) : Int × Int × Int :=
 if inN l.length m then
  if structK (mAtM l m.toNat) then
   if inN (mAtM l m.toNat).elems.2.length k then ((atF l m.toNat k.toNat : Int),(mAtM l m.toNat).elems.2.getD k.toNat 0,0) else (0,0,14)
  else (0,0,13)
 else (0,0,11)
def pv3 (r : Int × Int × Int) : PV := .tuple [pvI r.1,pvI r.2.1,pvI r.2.2]
theorem c16 (F : LF l d σ p A uo so x mss uss gss) (m k : Int) : Ret W 16 [.ptr p 0 0 0,.int .i64 m,.int .i64 k] σ (pv3 (fieldR l m k)) := by
 refine ret_of fun R hR => ?_
 rw [fn16_eq]
 delta fn16 bF pF lF gF kF nI nL
 refine (c33 F m).callB ?_
 unfold fieldR at hR
 cases hi : inN l.length m with
 | false =>
  rw [hi] at hR
  have e : ((11 : Int) != 0) = true := rfl
  simp only [Bool.false_eq_true,if_false,e,zz,Nat.reduceEqDiff]
  exact weakW_keep hR
 | true =>
  rw [hi,if_pos rfl] at hR
  obtain ⟨hm1,hm2⟩ := inN_nat hi
  have e : ((0 : Int) != 0) = false := rfl
  have hnl : vNil (.ptr p 0 0 0) = some (.ptr p 0 0 0) := rfl
  have h0 : vLoad false 1 (.ptr p 0 0 0) σ = some (.list d.kt d.tvs) := F.M.cell rfl
  obtain ⟨k1,k2,hix⟩ := F.E.tab.index hm2 d.kt
  have hix' : vIndex 6 (.list d.kt d.tvs) (.int .i64 m) = some (.eptr (pvModeK k1 k2 (mAtM l m.toNat)) 0) := by
   unfold pvN pvI at hix
   rw [← hm1] at hix
   exact hix
  have hpt : vPart true 6 (pvModeK k1 k2 (mAtM l m.toNat)) 0 = some (pvModeK k1 k2 (mAtM l m.toNat)) := rfl
  have hput : vPut 6 (.agg [(.int .i64 0),(.int .i64 0),(.list .nil []),(.list .nil []),(.int .i64 0),(.bool false)]) 0 (pvModeK k1 k2 (mAtM l m.toNat)) = some (pvModeK k1 k2 (mAtM l m.toNat)) := rfl
  have p0 : vPart false 1 (pvModeK k1 k2 (mAtM l m.toNat)) 0 = some (.int .i64 (mAtM l m.toNat).kind) := rfl
  have p2 : vPart false 1 (pvModeK k1 k2 (mAtM l m.toNat)) 2 = some (.list k1 ((mAtM l m.toNat).elems.2.map pvI)) := rfl
  have e11 : ((mAtM l m.toNat).kind != 11) = !structK (mAtM l m.toNat) := rfl
  simp only [if_true,e,hnl,h0,hix',hpt,hput,p0,e11,zz,Nat.reduceEqDiff]
  cases hs : structK (mAtM l m.toNat) with
  | false =>
   rw [hs] at hR
   simp only [zz,Nat.reduceEqDiff]
   exact weakW_keep hR
  | true =>
   rw [hs,if_pos rfl] at hR
   simp only [zz,Nat.reduceEqDiff]
   refine orG (decide (k ≥ ((mAtM l m.toNat).elems.2.length : Int))) (fun hb J next => ?_) ?_
   ·simp only [p2,List.length_map,zz,Nat.reduceEqDiff]
    exact next _ rfl
   refine condB (fun h => ?_) (fun h => ?_)
   ·rw [if_neg] at hR
    ·exact weakW_keep hR
    ·simp only [inN,Bool.and_eq_true,decide_eq_true_eq]
     simp only [Bool.or_eq_true,decide_eq_true_eq] at h
     omega
   have hin : inN (mAtM l m.toNat).elems.2.length k = true := by
    simp only [inN,Bool.and_eq_true,decide_eq_true_eq]
    simp only [Bool.or_eq_false_iff,decide_eq_false_iff_not] at h
    omega
   rw [if_pos hin] at hR
   obtain ⟨hk1,hk2⟩ := inN_nat hin
   have hsub := sub_take encInt (k := k1) (l := (mAtM l m.toNat).elems.2) (i := k.toNat) (by omega)
   rw [← hk1] at hsub
   simp only [p2,hsub,List.length_map,zz,Nat.reduceEqDiff]
   have hbe := bd_elems F.E.ok hm2
   have hel : ∀ e ∈ (mAtM l m.toNat).elems.2,e = ((e.toNat : Nat) : Int) ∧ e.toNat < l.length := fun e he => F.E.elems hm2 he
   unfold atF at hR
   have hgk : (mAtM l m.toNat).elems.2[k.toNat]? = some ((mAtM l m.toNat).elems.2.getD k.toNat 0) := by
    rw [List.getD_eq_getElem?_getD]
    have : (mAtM l m.toNat).elems.2[k.toNat]? = some ((mAtM l m.toNat).elems.2[k.toNat]'hk2) := by simp
    rw [this]
    rfl
   generalize hes : (mAtM l m.toNat).elems.2.take k.toNat = es at hR ⊢
   have hesm : ∀ e ∈ es,e = ((e.toNat : Nat) : Int) ∧ e.toNat < l.length := fun e he => hel e (List.mem_of_mem_take (by rw [hes]; exact he))
   have hesl : es.length ≤ 64 := by rw [← hes]; simp; omega
   have hsz : ∀ e ∈ es,(leaves l e.toNat).length ≤ 1000000 := fun e he => by
    have h2 := (hesm e he).2
    have := F.small.2 _ (List.mem_of_getElem? (F.mode h2))
    rw [slotsN_len h2] at this
    exact this
   refine Lfp_up es.length (fun j z σ' => z = lookP [(0,.ptr p 0 0 0),(2,.int .i64 k),(11,pvN ((es.take j).map fun e => (leaves l e.toNat).length).sum),(44,.list (k1.sub (k.toNat == (mAtM l m.toNat).elems.2.length)) (es.map pvI)),(45,.int .i64 es.length),(46,.int .i64 j),(10,pvModeK k1 k2 (mAtM l m.toNat))] ∧ σ' = σ ∧ ((es.take j).map fun e => (leaves l e.toNat).length).sum ≤ 1000000 * j) ?_ ⟨rfl,rfl,by simp⟩
   rintro Φ j z σ' hj ⟨rfl,rfl,hsum⟩ next
   simp only [zz,Nat.reduceEqDiff]
   by_cases hlt : j < es.length
   ·have hce : es[j]? = some es[j] := by simp [hlt]
    have hemem : es[j] ∈ es := by simp
    generalize es[j] = e at hce hemem
    obtain ⟨eI,eL⟩ := hesm e hemem
    have hez := hsz e hemem
    have hpe : pvI e = .int .i64 e := rfl
    have hsr : sizeR l e = (leaves l e.toNat).length := by
     unfold sizeR
     have : inN l.length e = true := by
      simp only [inN,Bool.and_eq_true,decide_eq_true_eq]
      omega
     rw [if_pos this]
    simp only [hlt,encInt.index hce,encInt.part,hpe,zz,Nat.reduceEqDiff]
    refine (c15 F e).callB ?_
    rw [hsr]
    have hadd : vBin none .add (pvN ((es.take j).map fun e => (leaves l e.toNat).length).sum) (pvN (leaves l e.toNat).length) = some (pvN (((es.take (j + 1)).map fun e => (leaves l e.toNat).length).sum)) := by
     unfold pvN pvI
     rw [vBin_add _ (by omega) (by omega),List.take_add_one,hce,List.map_append,List.sum_append]
     simp
    simp only [hadd,zz,Nat.reduceEqDiff]
    rw [vBin_add _ (by omega) (by omega)]
    simp only [zz,Nat.reduceEqDiff]
    refine next _ _ hlt ⟨rfl,rfl,?_⟩
    have hs1 : ((some e).toList.map fun e => (leaves l e.toNat).length).sum = (leaves l e.toNat).length := by simp
    rw [List.take_add_one,hce,List.map_append,List.sum_append,hs1]
    omega
   ·obtain rfl : j = es.length := by omega
    have hix2 : vIndex 1 (.list k1 ((mAtM l m.toNat).elems.2.map pvI)) (.int .i64 k) = some (.eptr (pvI ((mAtM l m.toNat).elems.2.getD k.toNat 0)) 0) := by
     have := encInt.index (lk := k1) (k := .i64) hgk
     rw [← hk1] at this
     exact this
    rw [List.take_length]
    simp only [hlt,p2,hix2,encInt.part,zz,Nat.reduceEqDiff]
    exact weakW_keep hR
theorem vEqL_slot (a b : SlotS) : vEqL [.int,.int,.int,.int,.bool] [.int .i64 a.kind,.int .i64 a.size,.int .i64 a.map,.int .i64 a.dims,.bool a.flex] [.int .i64 b.kind,.int .i64 b.size,.int .i64 b.map,.int .i64 b.dims,.bool b.flex] = some (decide (a = b)) := by
 obtain ⟨k,s,m,dd,f⟩ := a
 obtain ⟨k',s',m',dd',f'⟩ := b
 have fe : ∀ a b : Int,a ≠ b → (a == b) = false := fun a b h => beq_eq_false_iff_ne.2 h
 simp only [vEqL,vEqS,if_true]
 by_cases h1 : k = k'
 ·subst h1
  simp only [BEq.rfl]
  by_cases h2 : s = s'
  ·subst h2
   simp only [BEq.rfl]
   by_cases h3 : m = m'
   ·subst h3
    simp only [BEq.rfl]
    by_cases h4 : dd = dd'
    ·subst h4
     simp only [BEq.rfl]
     by_cases h5 : f = f'
     ·subst h5
      simp
     ·have : (f == f') = false := beq_eq_false_iff_ne.2 h5
      simp [this,h5]
    ·simp [fe _ _ h4,h4]
   ·simp [fe _ _ h3,h3]
  ·simp [fe _ _ h2,h2]
 ·simp [fe _ _ h1,h1]
theorem slot_neq (a b : SlotS) : vBin (some (.st [.int,.int,.int,.int,.bool])) .neq (pvSlot a) (pvSlot b) = some (.bool !(decide (a = b))) := by
 have := vEqL_slot a b
 simp [vBin,vEq,pvSlot,this]
theorem encSlot : EncOk pvSlot true 5 := ⟨fun a => ⟨_,rfl,rfl⟩,fun a => rfl⟩
theorem c12 {a b : List SlotS} {k k' : LK} (hl : a.length < 4611686018427387904) (σ : St) : Ret W 12 [.list k (a.map pvSlot),.list k' (b.map pvSlot)] σ (.bool (decide (a = b))) := by
 refine ret_of fun R hR => ?_
 rw [fn12_eq]
 delta fn12 bF kF nI
 simp only [List.length_map,zz,Nat.reduceEqDiff]
 refine condB (fun h => ?_) (fun h => ?_)
 ·refine weakW_keep ?_
  have : a ≠ b := fun e => by simp [e] at h
  rw [decide_eq_false this] at hR
  exact hR
 have hlen : a.length = b.length := by
  simp only [bne_eq_false_iff_eq] at h
  exact_mod_cast h
 refine CutW_of ?_
 refine Lfp_up a.length (fun i x σ' => x = lookP [(0,.list k (a.map pvSlot)),(1,.list k' (b.map pvSlot)),(5,.int .i64 i)] ∧ σ' = σ ∧ a.take i = b.take i) ?_ ⟨rfl,rfl,rfl⟩
 rintro Φ i x σ' hi ⟨rfl,rfl,hp⟩ next
 simp only [List.length_map,zz,Nat.reduceEqDiff]
 by_cases hlt : i < a.length
 ·have h1 : a[i]? = some a[i] := by simp [hlt]
  have h2 : b[i]? = some (b[i]'(by omega)) := by simp
  generalize a[i] = u at h1
  generalize (b[i]'(by omega)) = w at h2
  simp only [hlt,encSlot.index h1,encSlot.index h2,encSlot.part,slot_neq,zz,Nat.reduceEqDiff]
  by_cases huw : u = w
  ·subst huw
   simp only [zz]
   rw [vBin_add _ (by omega) (by omega)]
   simp only [zz,Nat.reduceEqDiff]
   refine next _ _ hlt ⟨rfl,rfl,?_⟩
   rw [List.take_add_one,List.take_add_one,h1,h2,hp]
  ·simp only [huw,zz]
   refine weakW_keep ?_
   have : a ≠ b := fun e => by
    rw [e,h2] at h1
    exact huw (Option.some.inj h1).symm
   rw [decide_eq_false this] at hR
   exact hR
 ·obtain rfl : i = a.length := by omega
  simp only [hlt,zz,Nat.reduceEqDiff]
  refine weakW_keep ?_
  have : a = b := by
   rw [List.take_length,hlen,List.take_length] at hp
   exact hp
  rw [decide_eq_true this] at hR
  exact hR
end
theorem c9 {l : List ModeS} {k : LK} (hl : l.length ≤ 1048576) (hb : ∀ m ∈ l,Bd m) {σ : St} {R : Res → St → Prop} (hR : ∀ b : Bool,R (.ret (.bool b)) σ) : W 9 [.list k (l.map pvMode)] σ R := by
 refine callW_fold ?_
 rw [fn9_eq]
 delta fn9 bF gF kF nI
 simp only [List.length_map,zz,Nat.reduceEqDiff]
 refine condB (fun h => weakW_keep (hR _)) (fun h => ?_)
 refine CutW_of ?_
 refine Lfp_up l.length (fun i x σ' => x = lookP [(0,.list k (l.map pvMode)),(3,.int .i64 i)] ∧ σ' = σ) ?_ ⟨rfl,rfl⟩
 rintro Φ i x σ1 hi ⟨rfl,rfl⟩ next
 simp only [List.length_map,zz,Nat.reduceEqDiff]
 by_cases hlt : i < l.length
 ·have hc : l[i]? = some l[i] := by simp [hlt]
  have hm : l[i] ∈ l := by simp
  generalize l[i] = m at hc hm
  have p2 : vPart false 1 (pvMode m) 2 = some (.list m.elems.1 (m.elems.2.map pvI)) := rfl
  have p3 : vPart false 1 (pvMode m) 3 = some (.list m.names.1 (m.names.2.map PV.str)) := rfl
  have hbn := (hb m hm).names
  simp only [hlt,zz,Nat.reduceEqDiff]
  refine CutW_of ?_
  simp only [encMode.index hc,p2,List.length_map,zz,Nat.reduceEqDiff]
  refine orG (decide ((m.names.2.length : Int) > 6)) (fun _ J nx => ?_) ?_
  ·simp only [p3,List.length_map,zz,Nat.reduceEqDiff]
   exact nx _ rfl
  refine condB (fun h => weakW_keep (hR _)) (fun h => ?_)
  refine Lfp_up m.names.2.length (fun j x σ' => x = lookP [(0,.list k (l.map pvMode)),(3,.int .i64 i),(4,.int .i64 j)] ∧ σ' = σ1) ?_ ⟨rfl,rfl⟩
  rintro Φ2 j x σ2 hj ⟨rfl,rfl⟩ next2
  simp only [encMode.index hc,p3,List.length_map,zz,Nat.reduceEqDiff]
  by_cases hlt2 : j < m.names.2.length
  ·have hc2 : m.names.2[j]? = some m.names.2[j] := by simp [hlt2]
   generalize m.names.2[j] = s at hc2
   simp only [hlt2,encMode.index hc,p3,encStr.index hc2,encStr.part,zz,Nat.reduceEqDiff]
   refine condB (fun h => weakW_keep (hR _)) (fun h => ?_)
   rw [vBin_add _ (by omega) (by omega)]
   simp only [zz,Nat.reduceEqDiff]
   exact next2 _ _ hlt2 ⟨rfl,rfl⟩
  ·simp only [hlt2,zz,Nat.reduceEqDiff]
   rw [vBin_add _ (by omega) (by omega)]
   simp only [zz,Nat.reduceEqDiff]
   exact next _ _ hlt ⟨rfl,rfl⟩
 ·simp only [hlt,zz,Nat.reduceEqDiff]
  exact weakW_keep (hR _)
end Go.Proofs.YteikomnahelckaaGreatDoor
