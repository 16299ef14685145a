import Derived.Test.YteikomnahelckaaGreatDoorLyM
import Derived.Test.YteikomnahelckaaGreatDoorOpsC
set_option linter.unusedVariables false
set_option linter.unusedSimpArgs false
namespace Go.Proofs.YteikomnahelckaaGreatDoor
open Go Go.Abs
theorem awake8 (σ : St) : Ret W 8 [] σ (.bool true) := ret_of fun R hR => hR
theorem slots_part {l : Tbl} (ok : OkT l) {T : List Key} {m k : Nat} (hm : m < l.length) (hs : structK (mAtM l m) = true) {e : Int} (he : (mAtM l m).elems.2[k]? = some e) : ∃ a c,slotsN l T m = a ++ slotsN l T e.toNat ++ c ∧ a.length = atF l m k ∧ e = ((e.toNat : Nat) : Int) ∧ e.toNat < l.length := by
 have hw : ∀ e ∈ (mAtM l m).elems.2,e = ((e.toNat : Nat) : Int) ∧ e.toNat < l.length := fun e he => by
  obtain ⟨h1,h2,h3⟩ := plain_elem ok.plain (mAtM_mem hm) he
  exact ⟨h3.symm,h2⟩
 have hkl := (List.getElem?_eq_some_iff.1 he).1
 rw [slotsN_struct ok hm hs]
 unfold atF elemsN
 generalize (mAtM l m).elems.2 = es at he hw hkl
 have hsplit : es = es.take k ++ e :: es.drop (k + 1) := by
  have h1 := List.take_append_drop k es
  have h2 : es.drop k = e :: es.drop (k + 1) := by
   rw [List.drop_eq_getElem_cons hkl]
   congr 1
   rw [List.getElem?_eq_getElem hkl] at he
   exact Option.some.inj he
  rw [h2] at h1
  exact h1.symm
 refine ⟨((es.take k).map Int.toNat).flatMap (slotsN l T),((es.drop (k + 1)).map Int.toNat).flatMap (slotsN l T),?_,?_,hw e (List.mem_of_getElem? he)⟩
 ·conv => lhs; rw [hsplit]
  rw [List.map_append,List.map_cons,List.flatMap_append,List.flatMap_cons,List.append_assoc]
 ·have hw' : ∀ e ∈ es.take k,e.toNat < l.length := fun e he => (hw e (List.mem_of_mem_take he)).2
  generalize es.take k = fs at hw'
  induction fs with
  | nil => rfl
  | cons f fs ih =>
   rw [List.map_cons,List.flatMap_cons,List.length_append,slotsN_len (hw' f (by simp)),List.map_cons,List.sum_cons,ih fun e he => hw' e (by simp [he])]
theorem sub_mid {a b c : List SlotS} {k : LK} : ∃ k',vSubSl 5 (.list k ((a ++ b ++ c).map pvSlot)) (some (.int .i64 (a.length : Int))) (some (.int .i64 ((a.length + b.length : Nat) : Int))) = some (.list k' (b.map pvSlot)) := by
 have hs : headSized 5 ((a ++ b ++ c).map pvSlot) = true := headSized_of fun x hx => by
  obtain ⟨s,_,rfl⟩ := List.mem_map.1 hx
  exact ⟨_,rfl,rfl⟩
 have h1 : bound (some (.int .i64 (a.length : Int))) 0 = some a.length := by simp [bound]
 have h2 : bound (some (.int .i64 ((a.length + b.length : Nat) : Int))) ((a ++ b ++ c).map pvSlot).length = some (a.length + b.length) := by
  simp only [bound]
  rw [if_pos (by omega)]
  congr 1
 simp only [vSubSl,h1,h2]
 rw [if_pos ⟨by omega,by simp,hs⟩]
 refine ⟨k.sub (a.length + b.length == ((a ++ b ++ c).map pvSlot).length),?_⟩
 congr 2
 rw [← List.map_take,← List.map_drop]
 congr 1
 have : (a ++ b ++ c).take (a.length + b.length) = a ++ b := by
  have := List.take_left (l₁ := a ++ b) (l₂ := c)
  rwa [List.length_append] at this
 rw [this]
 simp
set_option maxRecDepth 100000 in
theorem c3 {l : List ModeS} {k : LK} (hk : k = .nil → l = []) (hl : l.length ≤ 1048576) (hb : ∀ m ∈ l,Bd m) (hnm : ∀ m ∈ l,NilM m) {σ : St} {R : Res → St → Prop} (hR : ∀ σ',R (.ret (.bool true)) σ') : W 3 [.list k (l.map pvMode)] σ R := by
 refine callW_fold ?_
 rw [fn3_eq]
 delta fn3 bF gF kF nI
 refine (awake8 σ).callB ?_
 simp only [zz,Nat.reduceEqDiff]
 refine c9 hl hb fun few => ?_
 show bindO False _ _
 simp only [zz,Nat.reduceEqDiff]
 refine condB (fun h => ?_) (fun h => ?_)
 ·refine (awake8 σ).callB ?_
  exact weakW_keep (hR _)
 refine c10 hk hl hb hnm (fun e σ' he _ => ?_) (fun d p A uo so x σ' hlim E M hT hG _ => ?_)
 ·show bindO False _ _
  have hne : (e != 0) = true := by
   rw [bne_iff_ne]
   rcases he with ⟨rfl,_⟩ | ⟨rfl,_⟩ <;> decide
  have hpn : vBin (some .ptr) .eql .nilptr .nilptr = some (.bool true) := rfl
  simp only [hne,hpn,zz,Nat.reduceEqDiff]
  exact weakW_keep (hR _)
 have F := lf_of hlim E M hT hG
 generalize (nodesT A.T).map (cont (rwT l) A.T) = mss at F
 generalize (unisT A.T).map (contU A.T) = uss at F
 generalize (sigsT A.T).map (numG A.T) = gss at F
 show bindO False _ _
 have h00 : ((0 : Int) != 0) = false := rfl
 have hpt : vBin (some .ptr) .eql (.ptr p 0 0 0) .nilptr = some (.bool false) := rfl
 simp only [h00,zz,Nat.reduceEqDiff]
 refine CutW_of ?_
 have few : l.length ≤ 512 := E.few
 have ok := E.ok
 refine Lfp_up l.length (fun i z σ1 => z = lookP [(0,.list k (l.map pvMode)),(3,.ptr p 0 0 0),(5,.int .i64 i)] ∧ σ1 = σ') ?_ ⟨rfl,rfl⟩
 rintro Φ m z σ1 hm ⟨rfl,rfl⟩ next
 simp only [List.length_map,zz,Nat.reduceEqDiff]
 by_cases hlt : m < l.length
 ·have hin : ∀ n : Nat,n < l.length → inN l.length (n : Int) = true := fun n hn => by
   simp only [inN,Bool.and_eq_true,decide_eq_true_eq]
   omega
  have hmi : ∀ n : Nat,((n : Int)).toNat = n := fun n => by omega
  have hsz : ∀ n : Nat,n < l.length → (slotsN l A.T n).length ≤ 1000000 := fun n hn => F.small.2 _ (List.mem_of_getElem? (F.mode hn))
  simp only [hlt,zz,Nat.reduceEqDiff]
  refine CutW_of ?_
  refine c11 F m (fun _ ks => ?_) (fun h => by rw [hin m hlt] at h; cases h)
  rw [hmi]
  show bindO False _ _
  simp only [zz,Nat.reduceEqDiff]
  refine c13 F fun km ms hMs => ?_
  show callB W 14 _ _ _ _
  refine (c14 F m).callB ?_
  have hmr : ∀ n : Nat,n < l.length → mapR l A.T (n : Int) = numN l A.T n := fun n hn => by
   unfold mapR
   rw [hin n hn,if_pos rfl,hmi]
  rw [hmr m hlt]
  obtain ⟨kk,hkk,_⟩ := hMs.2 _ _ (F.mode hlt)
  have hix : vIndex 1 (.list km ms) (pvN (numN l A.T m)) = some (.eptr (pvMapS kk (slotsN l A.T m)) 0) := vIndex_list .i64 hkk rfl rfl
  have hp0 : vPart false 1 (pvMapS kk (slotsN l A.T m)) 0 = some (.list kk ((slotsN l A.T m).map pvSlot)) := rfl
  simp only [hix,hp0,zz,Nat.reduceEqDiff]
  have hsm := hsz m hlt
  refine (c12 (a := slotsN l A.T m) (b := slotsN l A.T m) (by omega) σ1).callB ?_
  have hd : decide (slotsN l A.T m = slotsN l A.T m) = true := decide_eq_true rfl
  simp only [hd,zz,Nat.reduceEqDiff]
  refine (c15 F m).callB ?_
  have hsr : ∀ n : Nat,n < l.length → pvN (sizeR l (n : Int)) = .int .i64 ((slotsN l A.T n).length : Nat) := fun n hn => by
   unfold sizeR
   rw [hin n hn,if_pos rfl,hmi,slotsN_len hn]
   rfl
  rw [hsr m hlt]
  have hbe : (((slotsN l A.T m).length : Int) != ((slotsN l A.T m).length : Int)) = false := by simp
  simp only [List.length_map,hbe,zz,Nat.reduceEqDiff]
  
  have hc : l[m]? = some (mAtM l m) := by
   unfold mAtM
   rw [List.getD_eq_getElem?_getD,List.getElem?_eq_getElem hlt]
   rfl
  have hmx : vIndex 6 (.list k (l.map pvMode)) (.int .i64 (m : Int)) = some (.eptr (pvMode (mAtM l m)) 0) := encMode.index hc
  have m0 : vPart false 1 (pvMode (mAtM l m)) 0 = some (.int .i64 (mAtM l m).kind) := rfl
  have m2 : vPart false 1 (pvMode (mAtM l m)) 2 = some (.list (mAtM l m).elems.1 ((mAtM l m).elems.2.map pvI)) := rfl
  have e11 : ((mAtM l m).kind == 11) = structK (mAtM l m) := rfl
  have hbe2 := bd_elems ok hlt
  refine CutW_of ?_
  refine Lfp_up (mAtM l m).elems.2.length (fun j z σ2 => z = lookP [(0,.list k (l.map pvMode)),(3,.ptr p 0 0 0),(5,.int .i64 m),(6,.list ks ((slotsN l A.T m).map pvSlot)),(8,.int .i64 (atF l m j)),(9,.int .i64 j)] ∧ σ2 = σ1) ?_ ⟨rfl,rfl⟩
  rintro Φ2 j z σ2 hj ⟨rfl,rfl⟩ next2
  simp only [hmx,m0,e11,zz,Nat.reduceEqDiff]
  refine andG (decide ((j : Int) < ((mAtM l m).elems.2.length : Int))) (fun _ J nx => ?_) ?_
  ·simp only [m2,List.length_map,zz,Nat.reduceEqDiff]
   exact nx _ (by simp [lookE])
  refine condB (fun h => ?_) (fun h => ?_)
  ·simp only [Bool.and_eq_true,decide_eq_true_eq] at h
   obtain ⟨hs,hjl'⟩ := h
   have hjl : j < (mAtM l m).elems.2.length := by omega
   have hce : (mAtM l m).elems.2[j]? = some (mAtM l m).elems.2[j] := by simp [hjl]
   generalize (mAtM l m).elems.2[j] = e at hce
   obtain ⟨pa,pc,hsp,hpa,heI,heL⟩ := slots_part ok (T := A.T) hlt hs hce
   have hfr : fieldR l (m : Int) (j : Int) = ((atF l m j : Int),e,0) := by
    unfold fieldR
    have h1 : inN (mAtM l m).elems.2.length (j : Int) = true := by
     simp only [inN,Bool.and_eq_true,decide_eq_true_eq]
     omega
    rw [hin m hlt,if_pos rfl,hmi,hs,if_pos rfl,h1,if_pos rfl,hmi,List.getD_eq_getElem?_getD,hce]
    rfl
   refine (c16 F m j).callB ?_
   rw [hfr]
   unfold pv3 pvI
   simp only [zz,Nat.reduceEqDiff]
   refine c11 F e (fun _ ky => ?_) (fun h => by rw [heI,hin _ heL] at h; cases h)
   show bindO False _ _
   have hz0 : ((0 : Int) != 0) = false := rfl
   have hat : ((atF l m j : Int) != (atF l m j : Int)) = false := by simp
   simp only [hz0,hat,zz,Nat.reduceEqDiff]
   simp only [hmx,m2,encInt.index hce,encInt.part,zz,Nat.reduceEqDiff]
   have hee : vBin none .neq (.int .i64 e) (pvI e) = some (.bool false) := by
    unfold pvI
    simp only [zz]
    simp
   have hse := hsz _ heL
   have hlen := congrArg List.length hsp
   simp only [List.length_append,hpa] at hlen
   have hadd : vBin none .add (.int .i64 (atF l m j : Int)) (.int .i64 ((slotsN l A.T e.toNat).length : Int)) = some (.int .i64 ((atF l m j + (slotsN l A.T e.toNat).length : Nat) : Int)) := by
    rw [vBin_add _ (by omega) (by omega)]
    rfl
   have hgt : decide (((atF l m j + (slotsN l A.T e.toNat).length : Nat) : Int) > ((slotsN l A.T m).length : Int)) = false := decide_eq_false (by omega)
   have hgt2 : decide ((slotsN l A.T m).length < atF l m j + (slotsN l A.T e.toNat).length) = false := decide_eq_false (by omega)
   simp only [hee,List.length_map,hadd,hgt,hgt2,zz,Nat.reduceEqDiff]
   obtain ⟨kq,hsub⟩ := sub_mid (a := pa) (b := slotsN l A.T e.toNat) (c := pc) (k := ks)
   rw [← hsp,hpa] at hsub
   simp only [hsub,zz,Nat.reduceEqDiff]
   refine (c12 (a := slotsN l A.T e.toNat) (b := slotsN l A.T e.toNat) (by omega) σ2).callB ?_
   have hd2 : decide (slotsN l A.T e.toNat = slotsN l A.T e.toNat) = true := decide_eq_true rfl
   simp only [hd2,zz,Nat.reduceEqDiff]
   rw [vBin_add _ (by omega) (by omega)]
   simp only [zz,Nat.reduceEqDiff]
   refine next2 _ _ hjl ⟨?_,rfl⟩
   have hat2 : atF l m (j + 1) = atF l m j + (slotsN l A.T e.toNat).length := by
    unfold atF
    rw [List.take_add_one,hce,List.map_append,List.sum_append,slotsN_len heL]
    simp
   rw [hat2]
   rfl
  ·
   refine Lfp_up m (fun n z σ3 => z = lookP [(0,.list k (l.map pvMode)),(3,.ptr p 0 0 0),(5,.int .i64 m),(6,.list ks ((slotsN l A.T m).map pvSlot)),(15,.int .i64 n)] ∧ σ3 = σ2) ?_ ⟨rfl,rfl⟩
   rintro Φ3 n z σ3 hn ⟨rfl,rfl⟩ next3
   simp only [zz,Nat.reduceEqDiff]
   by_cases hltn : n < m
   ·have hnl : n < l.length := by omega
    simp only [hltn,zz,Nat.reduceEqDiff]
    refine c11 F n (fun _ ky => ?_) (fun h => by rw [hin n hnl] at h; cases h)
    rw [hmi]
    show bindO False _ _
    simp only [zz,Nat.reduceEqDiff]
    refine (c12 (a := slotsN l A.T m) (b := slotsN l A.T n) (by omega) σ3).callB ?_
    refine (c14 F m).callB ?_
    refine (c14 F n).callB ?_
    rw [hmr m hlt,hmr n hnl]
    have hiff := slots_num (l := l) (T := A.T) (x := m) (y := n) (F.met _ (F.all m hlt)) (F.all m hlt)
    have heq : vBin none .eql (pvN (numN l A.T m)) (pvN (numN l A.T n)) = some (.bool (decide (slotsN l A.T m = slotsN l A.T n))) := by
     unfold pvN pvI
     simp only [zz]
     congr 2
     by_cases h : slotsN l A.T m = slotsN l A.T n
     ·rw [decide_eq_true h,hiff.1 h]
      simp
     ·rw [decide_eq_false h]
      have hne : numN l A.T m ≠ numN l A.T n := fun e => h (hiff.2 e)
      exact beq_eq_false_iff_ne.2 (by omega)
    have hbb : ∀ b : Bool,vBin (some .bool) .neq (.bool b) (.bool b) = some (.bool false) := fun b => by cases b <;> rfl
    simp only [heq,hbb,zz,Nat.reduceEqDiff]
    rw [vBin_add _ (by omega) (by omega)]
    simp only [zz,Nat.reduceEqDiff]
    exact next3 _ _ hltn ⟨rfl,rfl⟩
   ·simp only [hltn,zz,Nat.reduceEqDiff]
    rw [vBin_add _ (by omega) (by omega)]
    simp only [zz,Nat.reduceEqDiff]
    exact next _ _ hlt ⟨rfl,rfl⟩
 ·simp only [hlt,zz,Nat.reduceEqDiff]
  exact weakW_keep (hR _)
end Go.Proofs.YteikomnahelckaaGreatDoor
namespace Go.Proofs.YteikomnahelckaaGreatDoor
open Go Go.Abs Go.ChangeShapes Go.WideShapes Go.ChangeAt Go.RowKit
section
variable {H : Type} {encH : TypeId × Value → H} {W : World}
theorem datSl_nil {α : Type} {dat : α → DataW H → Prop} {p : Sl α} {d : DataW H} (h : datSl dat p d) : p.1 = .nil → p.2 = [] := by
 rcases h with ⟨rfl,rfl⟩ | ⟨es,sp,rfl,h1,_⟩
 ·exact fun _ => rfl
 ·intro h; rw [h1] at h; cases h
theorem modes_ok {p : Sl ModeS} {d : DataW H} (dx : datSl dMode p d) (hb : Rows.uptoBulk d ≤ 1048576) : (p.1 = .nil → p.2 = []) ∧ p.2.length ≤ 1048576 ∧ (∀ m ∈ p.2,Bd m) ∧ ∀ m ∈ p.2,NilM m := by
 obtain ⟨h1,h2⟩ := bulk_sl dx hb
 refine ⟨datSl_nil dx,h1,fun m hm => ?_,fun m hm => ?_⟩
 ·obtain ⟨e,⟨a,b,c,e',f,g,rfl,_,_,hc,he,_,_⟩,hbe⟩ := h2 m hm
  obtain ⟨q1,_⟩ := bulk_sl hc (bulk_agg hbe (by simp))
  obtain ⟨q2,q3⟩ := bulk_sl he (bulk_agg hbe (by simp))
  refine ⟨q1,q2,fun s hs => ?_⟩
  obtain ⟨e2,h3,h4⟩ := q3 s hs
  exact bulk_str h3 h4
 ·obtain ⟨e,⟨a,b,c,e',f,g,rfl,_,_,hc,he,_,_⟩,hbe⟩ := h2 m hm
  exact ⟨datSl_nil hc,datSl_nil he⟩
theorem sums_law {p : Sl ModeS} {d : DataW H} (dx : datSl dMode p d) (hb : Rows.uptoBulk d ≤ 1048576) : ∀ R : Res → St → Prop,R = (fun r _ => r = .ret (.bool true)) → callW Tryz.prog annF 3 [pvSl pvMode p] [] R := by
 rintro R rfl
 obtain ⟨h1,h2,h3,h4⟩ := modes_ok dx hb
 exact c3 h1 h2 h3 h4 fun _ => rfl
end
end Go.Proofs.YteikomnahelckaaGreatDoor
