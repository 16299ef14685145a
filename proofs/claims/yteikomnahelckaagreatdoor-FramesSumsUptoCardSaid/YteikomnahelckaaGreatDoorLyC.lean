import Derived.Test.YteikomnahelckaaGreatDoorLyB
set_option linter.unusedVariables false
set_option linter.unusedSimpArgs false
namespace Go.Proofs.YteikomnahelckaaGreatDoor
open Go Go.Abs
def PostR (l : Tbl) (d : ED) (p : Nat) (A : LC) (x : OV) (σ : St) (n : Nat) (ks : List Key) (R : List Key → St → Prop) : Prop :=
 ∀ A' uo' so' x' σ',MS l d σ' p A' uo' so' x' → A'.T = dfs (chR (rwT l)) n A.T ks → Grown (rwT l) A A' → Stp (ow d p x) σ (ow d p x') σ' → R A'.T σ'
def P32 (l : Tbl) (d : ED) (n : Nat) : Prop := ∀ (p : Nat) (A : LC) (uo so : List Nat) (x : OV) (σ : St) (g : Nat) (R : Res → St → Prop),MS l d σ p A uo so x → free (univ l) A.T ≤ n → g < (gN l).length →
 PostR l d p A x σ n [.node (repT l (ndG l g))] (fun T σ' => R (.ret (pvN (rankK T (.node (repT l (ndG l g)))))) σ') → W 32 [.ptr p 0 0 0,pvN g] σ R
def P128 (l : Tbl) (d : ED) (n : Nat) : Prop := ∀ (p : Nat) (A : LC) (uo so : List Nat) (x : OV) (σ : St) (m : Nat) (R : Res → St → Prop),MS l d σ p A uo so x → free (univ l) A.T ≤ n → m < l.length → unionK (mAtM l m) = true →
 PostR l d p A x σ n [.uni (uniM l m)] (fun T σ' => R (.ret (pvN (rankK T (.uni (uniM l m))))) σ') → W 128 [.ptr p 0 0 0,pvN m] σ R
def P64 (l : Tbl) (d : ED) (n : Nat) : Prop := ∀ (p : Nat) (A : LC) (uo so : List Nat) (x : OV) (σ : St) (m : Nat) (R : Res → St → Prop),MS l d σ p A uo so x → free (univ l) A.T ≤ n → m ∈ procs l →
 PostR l d p A x σ n [.sig (sigM l m).1 (sigM l m).2] (fun T σ' => R (.ret (pvN (rankK T (.sig (sigM l m).1 (sigM l m).2)))) σ') → W 64 [.ptr p 0 0 0,pvN m] σ R
section
variable {l : Tbl} {d : ED} {σ : St} {p : Nat} {A : LC} {uo so : List Nat} {x : OV}
theorem elem_head (E : Env l d) {m : Nat} (hm : m < l.length) (h : (refK (mAtM l m) || rowK (mAtM l m)) = true) : (mAtM l m).elems.2[0]? = some (((elemsN (mAtM l m)).headD 0 : Nat) : Int) := by
 have hne := parts_pos E.ok hm (.inl h)
 unfold elemsN at hne ⊢
 cases he : (mAtM l m).elems.2 with
 | nil => rw [he] at hne; exact absurd rfl hne
 | cons e es =>
  simp only [List.map_cons,List.headD_cons,List.getElem?_cons_zero]
  rw [← (E.elems hm (e := e) (by rw [he]; simp)).1]
theorem c84 {n : Nat} (E : Env l d) (hP : P32 l d n ∧ P128 l d n ∧ P64 l d n) (M : MS l d σ p A uo so x) (hn : free (univ l) A.T ≤ n) {m : Nat} (hm : m < l.length) {R : Res → St → Prop}
  (hR : PostR l d p A x σ n (keyM l m).toList fun T σ' => R (.ret (pvSlot (numS T (slotOf (mAtM l m),keyM l m)))) σ') : W 84 [.ptr p 0 0 0,pvSlG l m] σ R := by
 refine callW_fold ?_
 rw [fn84_eq]
 delta fn84 bF pF uF lF nI nL wvR
 obtain ⟨k1,k2,hix⟩ := E.tab.index hm d.kt
 have hbox : opC.vBoxAny (pvSlG l m) = some (6,pvSlG l m) := rfl
 have h0 : vLoad false 1 (.ptr p 0 0 0) σ = some (.list d.kt d.tvs) := M.cell rfl
 have hnl : vNil (.ptr p 0 0 0) = some (.ptr p 0 0 0) := rfl
 have q5 : vPart false 1 (pvSlG l m) 5 = some (pvN m) := rfl
 have hpt : vPart true 6 (pvModeK k1 k2 (mAtM l m)) 0 = some (pvModeK k1 k2 (mAtM l m)) := rfl
 have hput : vPut 6 (.agg [(.int .i64 0),(.int .i64 0),(.list .nil []),(.list .nil []),(.int .i64 0),(.bool false)]) 0 (pvModeK k1 k2 (mAtM l m)) = some (pvModeK k1 k2 (mAtM l m)) := rfl
 have q0 : vPart false 1 (pvSlG l m) 0 = some (.int .i64 (slotOf (mAtM l m)).kind) := rfl
 have p2 : vPart false 1 (pvModeK k1 k2 (mAtM l m)) 2 = some (.list k1 ((mAtM l m).elems.2.map pvI)) := rfl
 have s2 : ∀ r : Nat,vPut 1 (pvSlG l m) 2 (pvN r) = some (.agg [pvI (slotOf (mAtM l m)).kind,pvI (slotOf (mAtM l m)).size,pvI (r : Int),pvI (slotOf (mAtM l m)).dims,.bool (slotOf (mAtM l m)).flex,pvN m]) := fun r => rfl
 have s3 : ∀ r : Int,vPart true 5 (.agg [pvI (slotOf (mAtM l m)).kind,pvI (slotOf (mAtM l m)).size,pvI r,pvI (slotOf (mAtM l m)).dims,.bool (slotOf (mAtM l m)).flex,pvN m]) 0 = some (pvSlot { slotOf (mAtM l m) with map := r }) := fun r => rfl
 have s3' : vPart true 5 (pvSlG l m) 0 = some (pvSlot (slotOf (mAtM l m))) := rfl
 have s4 : ∀ s : SlotS,vPut 5 (.agg [(.int .i64 0),(.int .i64 0),(.int .i64 0),(.int .i64 0),(.bool false)]) 0 (pvSlot s) = some (pvSlot s) := fun s => rfl
 have s5 : ∀ s : SlotS,resCons (vPart true 5 (pvSlot s) 0) (some []) = some [pvSlot s] := fun s => rfl
 simp only [hbox,hnl,h0,q5,hix,hpt,hput,q0,zz,Nat.reduceEqDiff]
 have fin : ∀ (r : Nat) (σ' : St),R (.ret (pvSlot { slotOf (mAtM l m) with map := (r : Int) })) σ' → (bindO False (vPut 1 (pvSlG l m) 2 (pvN r)) fun z15 => bindO False (vPart true 5 z15 0) fun v16 => bindO False (vPut 5 (.agg [(.int .i64 0),(.int .i64 0),(.int .i64 0),(.int .i64 0),(.bool false)]) 0 v16) fun z17 =>
   bindO False (resCons (vPart true 5 z17 0) (some [])) fun vs => weakW σ (vResults vs) σ' fun v σ => R (.ret v) σ) := by
  intro r σ' h
  simp only [s2,s3,s4,s5,zz,Nat.reduceEqDiff]
  exact weakW_keep h
 have eqf : ∀ a b : Int,a ≠ b → (a == b) = false := fun a b h => beq_eq_false_iff_ne.2 h
 by_cases c1 : refK (mAtM l m) = true
 ·have hk : (slotOf (mAtM l m)).kind = 8 := kindS_ref c1
  have hkey := key_ref (l := l) c1
  rw [hkey] at hR
  have hh := elem_head E hm (by simp [c1])
  have hi : vIndex 1 (.list k1 ((mAtM l m).elems.2.map pvI)) (.int .i64 0) = some (.eptr (pvI (((elemsN (mAtM l m)).headD 0 : Nat) : Int)) 0) := encInt.index (i := 0) hh
  have hlt := ref_head E.ok hm (by simp [c1])
  have e8 : ((8 : Int) == 8) = true := rfl
  simp only [hk,e8,p2,hi,encInt.part,zz,Nat.reduceEqDiff]
  refine hP.1 p A uo so x σ _ _ M hn (mode_lt_gN hlt) fun A' uo' so' x' σ' M' hT hG hS => ?_
  rw [ndG_mode hlt] at hT ⊢
  exact fin _ _ (hR A' uo' so' x' σ' M' hT hG hS)
 by_cases c2 : rowK (mAtM l m) = true
 ·have hk : (slotOf (mAtM l m)).kind = 9 := kindS_row c2
  have hkey := key_row (l := l) c2
  rw [hkey] at hR
  have hh := elem_head E hm (by simp [c2])
  have hi : vIndex 1 (.list k1 ((mAtM l m).elems.2.map pvI)) (.int .i64 0) = some (.eptr (pvI (((elemsN (mAtM l m)).headD 0 : Nat) : Int)) 0) := encInt.index (i := 0) hh
  have hlt := ref_head E.ok hm (by simp [c2])
  have e8 : ((9 : Int) == 8) = false := rfl
  have e9 : ((9 : Int) == 9) = true := rfl
  simp only [hk,e8,e9,p2,hi,encInt.part,zz,Nat.reduceEqDiff]
  refine hP.1 p A uo so x σ _ _ M hn (mode_lt_gN hlt) fun A' uo' so' x' σ' M' hT hG hS => ?_
  rw [ndG_mode hlt] at hT ⊢
  exact fin _ _ (hR A' uo' so' x' σ' M' hT hG hS)
 by_cases c3 : unionK (mAtM l m) = true
 ·have hk : (slotOf (mAtM l m)).kind = 10 := kindS_union c3
  have hkey := key_union (l := l) c3
  rw [hkey] at hR
  have e8 : ((10 : Int) == 8) = false := rfl
  have e9 : ((10 : Int) == 9) = false := rfl
  have e10 : ((10 : Int) == 10) = true := rfl
  simp only [hk,e8,e9,e10,q5,zz,Nat.reduceEqDiff]
  exact hP.2.1 p A uo so x σ m _ M hn hm c3 fun A' uo' so' x' σ' M' hT hG hS => fin _ _ (hR A' uo' so' x' σ' M' hT hG hS)
 by_cases c4 : procK (mAtM l m) = true
 ·have hk : (slotOf (mAtM l m)).kind = 11 := kindS_proc c4
  have hkey := key_proc (l := l) c4
  rw [hkey] at hR
  have e8 : ((11 : Int) == 8) = false := rfl
  have e9 : ((11 : Int) == 9) = false := rfl
  have e10 : ((11 : Int) == 10) = false := rfl
  have e11 : ((11 : Int) == 11) = true := rfl
  simp only [hk,e8,e9,e10,e11,q5,zz,Nat.reduceEqDiff]
  exact hP.2.2 p A uo so x σ m _ M hn (mem_procs.2 ⟨hm,c4⟩) fun A' uo' so' x' σ' M' hT hG hS => fin _ _ (hR A' uo' so' x' σ' M' hT hG hS)
 ·obtain ⟨a,b,c,e⟩ := kindS_other (by simpa using c1) (by simpa using c2) (by simpa using c3) (by simpa using c4)
  have hkey := key_other (l := l) (m := m) (by simpa using c1) (by simpa using c2) (by simpa using c3) (by simpa using c4)
  rw [hkey] at hR
  have hk : ∀ q : Int,kindS (mAtM l m).kind ≠ q → ((slotOf (mAtM l m)).kind == q) = false := fun q h => eqf _ _ h
  simp only [hk 8 a,hk 9 b,hk 10 c,hk 11 e,s3',s4,s5,zz,Nat.reduceEqDiff]
  refine weakW_keep ?_
  exact hR A uo so x σ M (dfs_nil _ _ _).symm (Grown.refl M.fit) (Stp.refl _ _)
end
end Go.Proofs.YteikomnahelckaaGreatDoor
