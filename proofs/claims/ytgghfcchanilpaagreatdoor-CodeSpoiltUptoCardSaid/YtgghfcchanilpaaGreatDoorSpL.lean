import Derived.Test.YtgghfcchanilpaaGreatDoorSpD
import Derived.Test.YtgghfcchanilpaaGreatDoorSpJ
import Derived.Test.YtgghfcchanilpaaGreatDoorFnE
set_option linter.unusedVariables false
set_option linter.unusedSimpArgs false
namespace Go.Proofs.YtgghfcchanilpaaGreatDoor
open Go Go.Abs
theorem slot_parts (s : SlotS) : opC.vBoxAny (pvSlot s) = some (5,pvSlot s) ∧ vPart false 1 (pvSlot s) 0 = some (.int .i64 s.kind) ∧ vPart false 1 (pvSlot s) 1 = some (.int .i64 s.size) ∧ vPart false 1 (pvSlot s) 2 = some (.int .i64 s.map) ∧ vPart false 1 (pvSlot s) 3 = some (.int .i64 s.dims) ∧ vPart false 1 (pvSlot s) 4 = some (.bool s.flex) :=
 ⟨rfl,rfl,rfl,rfl,rfl,rfl⟩
def linkMap (c : CodeS) : Blk := .map 4 [(.int .i64 8,.int .i64 (len c.maps)),(.int .i64 9,.int .i64 (len c.maps)),(.int .i64 10,.int .i64 (len c.unions)),(.int .i64 11,.int .i64 (len c.sigs))]
theorem lm1 (σ : St) (x : PV) : vMapSet .int (.mref σ.length) (.int .i64 8) x (σ ++ [.map 0 []]) = some (σ ++ [.map 1 [(.int .i64 8,x)]]) := by
 simp [vMapSet,isKey,vFind]
theorem lm2 (σ : St) (x y : PV) : vMapSet .int (.mref σ.length) (.int .i64 9) y (σ ++ [.map 1 [(.int .i64 8,x)]]) = some (σ ++ [.map 2 [(.int .i64 8,x),(.int .i64 9,y)]]) := by
 simp [vMapSet,isKey,vFind,vEqS]
theorem lm3 (σ : St) (x y z : PV) : vMapSet .int (.mref σ.length) (.int .i64 10) z (σ ++ [.map 2 [(.int .i64 8,x),(.int .i64 9,y)]]) = some (σ ++ [.map 3 [(.int .i64 8,x),(.int .i64 9,y),(.int .i64 10,z)]]) := by
 simp [vMapSet,isKey,vFind,vEqS]
theorem lm4 (σ : St) (x y z u : PV) : vMapSet .int (.mref σ.length) (.int .i64 11) u (σ ++ [.map 3 [(.int .i64 8,x),(.int .i64 9,y),(.int .i64 10,z)]]) = some (σ ++ [.map 4 [(.int .i64 8,x),(.int .i64 9,y),(.int .i64 10,z),(.int .i64 11,u)]]) := by
 simp [vMapSet,isKey,vFind,vEqS]
theorem lm_look (σ : St) (c : CodeS) (k : Int) : vLookup .int (.int .i64 0) true (.mref σ.length) (.int .i64 k) (σ ++ [linkMap c]) =
  some (.tuple [.int .i64 (if k = 8 ∨ k = 9 ∨ k = 10 ∨ k = 11 then slotN c k else 0),.bool (decide (k = 8 ∨ k = 9 ∨ k = 10 ∨ k = 11))]) := by
 unfold linkMap slotN
 simp only [vLookup,isKey,new_get,if_true]
 by_cases h8 : k = 8
 ·subst h8; simp [vFind,vEqS]
 by_cases h9 : k = 9
 ·subst h9; simp [vFind,vEqS]
 by_cases h10 : k = 10
 ·subst h10; simp [vFind,vEqS]
 by_cases h11 : k = 11
 ·subst h11; simp [vFind,vEqS]
 have e8 : ¬ (8 : Int) = k := fun h => h8 h.symm
 have e9 : ¬ (9 : Int) = k := fun h => h9 h.symm
 have e10 : ¬ (10 : Int) = k := fun h => h10 h.symm
 have e11 : ¬ (11 : Int) = k := fun h => h11 h.symm
 have b8 : (k == 8) = false := by simp [h8]
 have b9 : (k == 9) = false := by simp [h9]
 have b10 : (k == 10) = false := by simp [h10]
 have b11 : (k == 11) = false := by simp [h11]
 simp [vFind,vEqS,h8,h9,h10,h11,e8,e9,e10,e11,b8,b9,b10,b11]
theorem guardB {b s : Bool} {op : ((Nat → EV) → St → Prop) → Prop} {σ : St} {C : (Nat → EV) → St → Prop} (h1 : b = true → guardG False (.bool true) s op σ C) (h2 : b = false → guardG False (.bool false) s op σ C) : guardG False (.bool b) s op σ C := by
 cases b with
 | true => exact h1 rfl
 | false => exact h2 rfl
theorem under_bool (n : Nat) (b : Bool) : Under n (.bool b) := .bool b
theorem c112 {c : CodeS} (r i : Int) (s : SlotS) (σ : St) : Ret W 112 [pvChk c r i,pvSlot s] σ (.bool (slotB c s)) := by
 refine ret_of fun R hR => ?_
 rw [fn112_eq]
 delta fn112 bF pF gF kF nI
 simp only [chk_parts,slot_parts,sl_len,lm1,lm2,lm3,lm4,newMapW,zz,Nat.reduceEqDiff]
 have fin : ∀ b : Bool,slotB c s = b → weakW σ (.bool b) (σ ++ [linkMap c]) fun v σ => R (.ret v) σ := fun b hb => by
  rw [hb] at hR
  exact weakW_clean (List.prefix_append _ _) (frz_same (under_bool _ _)) hR
 clear hR
 refine orG (s.kind == 3) (fun _ J hJ => ?_) ?_
 ·exact hJ _ rfl
 refine orG (s.kind == 4) (fun _ J hJ => ?_) ?_
 ·exact hJ _ rfl
 have hk := lm_look σ c s.kind
 unfold linkMap at hk
 simp only [hk,lm1,lm2,lm3,lm4,newMapW,zz,Nat.reduceEqDiff]
 clear hk
 refine CutW_by (fun x τ => x 3 = pvSlot s ∧ x 5 = .bool (s.kind == 2 || s.kind == 3 || s.kind == 4) ∧ x 6 = .bool (s.kind == 9) ∧ x 8 = .int .i64 (slotN c s.kind) ∧ τ = σ ++ [linkMap c]) (fun x τ hx => ?_) ?_
 case refine_2 =>
  refine condB (fun hb => ⟨rfl,rfl,rfl,?_,rfl⟩) (fun hb => ⟨rfl,rfl,rfl,?_,rfl⟩)
  ·simp at hb
   simp [slotN,hb,lookP]
  ·simp at hb
   have h' : s.kind = 8 ∨ s.kind = 9 ∨ s.kind = 10 ∨ s.kind = 11 := by omega
   show PV.int .i64 (if s.kind = 8 ∨ s.kind = 9 ∨ s.kind = 10 ∨ s.kind = 11 then slotN c s.kind else 0) = _
   rw [if_pos h']
 obtain ⟨h3,h5,h6,h8,rfl⟩ := hx
 simp only [h3,h5,h6,h8,slot_parts,zz,Nat.reduceEqDiff]
 refine andG (decide (s.kind < 12)) (fun _ J hJ => ?_) ?_
 ·exact hJ _ rfl
 repeat' first
  | (refine guardB (fun hb => ?_) (fun hb => ?_) <;> simp only [hb,zz,Nat.reduceEqDiff])
  | (refine (c42 _ _ _).callB ?_; try simp only [zz,Nat.reduceEqDiff])
  | refine fin _ ?_
 all_goals clear fin h3 h5 h6 h8
 all_goals first | (simp_all [slotB,sizedB]; done) | (simp only [slotB,sizedB]; grind)
end Go.Proofs.YtgghfcchanilpaaGreatDoor
namespace Go.Proofs.YtgghfcchanilpaaGreatDoor
open Go Go.Abs
theorem Lfp_any {n : St} {α : Type} {F : ((Nat → PV) → St → Prop) → (Nat → PV) → St → Prop} (l : List α) (q : α → Bool) (mk : Nat → Nat → PV) (σ : St) {x0 : Nat → PV} (h0 : x0 = mk 0)
  (hend : l.any q = false → ∀ Φ : (Nat → PV) → St → Prop,F Φ (mk l.length) σ)
  (step : ∀ (Φ : (Nat → PV) → St → Prop) (j : Nat) (a : α),l[j]? = some a → a ∈ l → j < l.length → (q a = true → l.any q = true) → (q a = false → Φ (mk (j + 1)) σ) → F Φ (mk j) σ) : Lfp n F x0 σ := by
 refine Lfp_up l.length (fun j x σ' => x = mk j ∧ σ' = σ ∧ (l.take j).any q = false) ?_ ⟨h0,rfl,rfl⟩
 rintro Φ j x σ' hj ⟨rfl,rfl,hp⟩ next
 by_cases hlt : j < l.length
 ·have hg : l[j]? = some l[j] := by simp [hlt]
  refine step Φ j l[j] hg (by simp) hlt (fun h => any_of_get hg (q := q) h) fun hb => ?_
  exact next _ _ hlt ⟨rfl,rfl,any_cons_false hp hg hb⟩
 ·obtain rfl : j = l.length := by omega
  rw [List.take_length] at hp
  exact hend hp Φ
theorem lt_len' {n j : Nat} (h : j < n) : decide ((j : Int) < (n : Int)) = true := decide_eq_true (by omega)
theorem not_lt_len' (n : Nat) : decide ((n : Int) < (n : Int)) = false := decide_eq_false (by omega)
theorem lt_len {α : Type} {l : Sl α} {j : Nat} (h : j < l.2.length) : decide ((j : Int) < len l) = true := lt_len' h
theorem not_lt_len {α : Type} (l : Sl α) : decide ((l.2.length : Int) < len l) = false := not_lt_len' _
theorem put_map (m : Sl SlotS) : vPut 1 (.agg [(.list .nil [])]) 0 (pvMap m) = some (pvMap m) := rfl
theorem put_slot (s : SlotS) : vPut 5 (.agg [(.int .i64 0),(.int .i64 0),(.int .i64 0),(.int .i64 0),(.bool false)]) 0 (pvSlot s) = some (pvSlot s) := rfl
theorem part_slot (s : SlotS) : vPart true 5 (pvSlot s) 0 = some (pvSlot s) := rfl
theorem map_part (m : Sl SlotS) : vPart false 1 (pvMap m) 0 = some (pvSl pvSlot m) := rfl
theorem c59 {c : CodeS} (hc : Okay c) (r i : Int) (σ : St) : Ret W 59 [pvChk c r i] σ (.int .i64 (if slotsBad c then 13 else 0)) := by
 refine ret_of fun R hR => ?_
 rw [fn59_eq]
 delta fn59 bF pF uF kF nI nL
 simp only [chk_parts,sl_len,zz,Nat.reduceEqDiff]
 have hm := hc.maps
 refine Lfp_any c.maps.2 (fun m => m.2.any fun s => !slotB c s) (fun j => lookP [(9,pvSl pvMap c.maps),(10,.int .i64 (len c.maps)),(11,.int .i64 j),(1,pvChk c r i)]) σ rfl (fun hb Φ => ?_) (fun Φ j m hg hmem hj hit next => ?_)
 ·simp only [not_lt_len,zz,Nat.reduceEqDiff]
  unfold slotsBad at hR
  rw [hb] at hR
  exact weakW_keep hR
 ·have hs := hc.slots m hmem
  simp only [lt_len hj,sl_idx encMap hg,encMap.part,put_map,map_part,sl_len,List.length_map,zz,Nat.reduceEqDiff]
  refine Lfp_any m.2 (fun s => !slotB c s) (fun k => lookP [(9,pvSl pvMap c.maps),(10,.int .i64 (len c.maps)),(11,.int .i64 j),(16,pvSl pvSlot m),(17,.int .i64 (m.2.length : Nat)),(18,.int .i64 k),(1,pvChk c r i)]) σ rfl (fun hb Ψ => ?_) (fun Ψ k s hg' hmem' hk hit' next' => ?_)
  ·simp only [Nat.lt_irrefl,decide_false,zz,Nat.reduceEqDiff]
   rw [vBin_add _ (by omega) (by omega)]
   simp only [zz,Nat.reduceEqDiff]
   exact next hb
  ·simp only [hk,decide_true,sl_idx encSlot hg',put_slot,part_slot,chk_parts,zz,Nat.reduceEqDiff]
   refine (c112 _ _ _ _).callB ?_
   simp only [zz,Nat.reduceEqDiff]
   refine condB (fun hb => ?_) (fun hb => ?_)
   ·have := hit (hit' hb)
    unfold slotsBad at hR
    rw [this] at hR
    exact weakW_keep hR
   ·rw [vBin_add _ (by omega) (by omega)]
    simp only [zz,Nat.reduceEqDiff]
    exact next' hb
theorem c115 (l : Sl Int) (σ : St) : Ret W 115 [pvInts l] σ (.bool (decide (len l = 0))) := by
 refine ret_of fun R hR => ?_
 rw [fn115_eq]
 delta fn115 bF nI
 unfold pvInts
 simp only [sl_len,zz,Nat.reduceEqDiff]
 exact weakW_keep hR
def chkA (σ : St) (c : CodeS) (r i : Int) : St := σ ++ [.arr 0 12 [pvChk c r i]]
theorem fld (n g i : Nat) (o k : Nat) : vField k (.ptr n g i o) = some (.ptr n g i (o + k)) := rfl
theorem ldA (σ : St) (c : CodeS) (r i : Int) : vLoad false 1 (.ptr σ.length 0 0 0) (chkA σ c r i) = some (pvSl pvMap c.maps) ∧ vLoad false 1 (.ptr σ.length 0 0 1) (chkA σ c r i) = some (pvSl pvInts c.unions) ∧ vLoad false 1 (.ptr σ.length 0 0 2) (chkA σ c r i) = some (pvSl pvSig c.sigs) := by
 unfold chkA
 simp only [vLoad,new_get]
 exact ⟨rfl,rfl,rfl⟩
theorem c114 {c : CodeS} (σ : St) (r i : Int) (m : Int) : Ret W 114 [.int .i64 m,.ptr σ.length 0 0 0] (chkA σ c r i) (.bool (!inS m (len c.maps))) := by
 refine ret_of fun R hR => ?_
 rw [fn114_eq]
 delta fn114
 simp only [fld,ldA,sl_len,zz,Nat.reduceEqDiff,Nat.reduceAdd]
 refine (c42 _ _ _).callB ?_
 simp only [zz,Nat.reduceEqDiff]
 exact weakW_keep hR
theorem sig_parts (p : Int × Int) : vPart false 1 (pvSig p) 0 = some (.int .i64 p.1) ∧ vPart false 1 (pvSig p) 1 = some (.int .i64 p.2) ∧ vPut 2 (.agg [.int .i64 0,.int .i64 0]) 0 (pvSig p) = some (pvSig p) := ⟨rfl,rfl,rfl⟩
theorem c60 {c : CodeS} (hc : Okay c) (r i : Int) (σ : St) : Ret W 60 [pvChk c r i] σ (.int .i64 (linksE c)) := by
 refine ret_of fun R hR => ?_
 rw [fn60_eq]
 delta fn60 bF pF gF kF nI
 have hu := hc.unions
 have hs := hc.sigs
 have h012 : (0 : Nat) < 12 := by omega
 have hn : σ ++ [.arr 0 12 [pvChk c r i]] = chkA σ c r i := rfl
 have fin : ∀ n : Int,linksE c = n → weakW σ (.int .i64 n) (chkA σ c r i) fun v σ => R (.ret v) σ := fun n hb => by
  rw [hb] at hR
  exact weakW_clean (List.prefix_append _ _) (frz_same (.int _ _)) hR
 clear hR
 simp only [chk_parts,sl_len,newW_eq,h012,if_true,hn,fld,ldA,zz,Nat.reduceEqDiff,Nat.reduceAdd]
 refine Lfp_any c.unions.2 (fun u => u.2.any fun m => !inS m (len c.maps)) (fun j => lookP [(1,.ptr σ.length 0 0 0),(9,pvSl pvInts c.unions),(10,.int .i64 (len c.unions)),(11,.int .i64 j)]) _ rfl (fun hb Φ => ?_) (fun Φ j u hg hmem hj hit next => ?_)
 case refine_2 =>
  have hul := hc.union u hmem
  simp only [lt_len hj,hj,decide_true,sl_idx encInts hg,encInts.part,zz,Nat.reduceEqDiff]
  refine (c113 encI (fun m => !inS m (len c.maps)) (by kernel_rfl) (by omega) (fun m _ => c114 σ r i m)).callB ?_
  refine condB (fun hb => ?_) (fun hb => ?_)
  ·refine fin _ ?_
   have := hit hb
   simp only [linksE,unionsBad,this,if_true]
  ·rw [vBin_add _ (by omega) (by omega)]
   simp only [zz,Nat.reduceEqDiff]
   exact next hb
 simp only [not_lt_len,Nat.lt_irrefl,decide_false,fld,ldA,sl_len,zz,Nat.reduceEqDiff,Nat.reduceAdd]
 refine Lfp_any c.sigs.2 (fun p => !inS p.1 (len c.maps) || !inS p.2 (len c.maps)) (fun j => lookP [(1,.ptr σ.length 0 0 0),(21,pvSl pvSig c.sigs),(22,.int .i64 (len c.sigs)),(23,.int .i64 j)]) _ rfl (fun hb2 Ψ => ?_) (fun Ψ j p hg hmem hj hit next => ?_)
 case refine_2 =>
  simp only [lt_len hj,hj,decide_true,sl_idx encSig hg,encSig.part,sig_parts,fld,ldA,sl_len,zz,Nat.reduceEqDiff,Nat.reduceAdd]
  refine (c42 _ _ _).callB ?_
  simp only [zz,Nat.reduceEqDiff]
  refine orG (!inS p.2 (len c.maps)) (fun _ J hJ => ?_) ?_
  ·simp only [ldA,sl_len,zz,Nat.reduceEqDiff]
   refine (c42 _ _ _).callB ?_
   simp only [zz,Nat.reduceEqDiff]
   exact hJ _ rfl
  refine condB (fun hb => ?_) (fun hb => ?_)
  ·refine fin _ ?_
   have := hit hb
   simp only [linksE,unionsBad,sigsBad,this,if_true]
   split <;> rfl
  ·rw [vBin_add _ (by omega) (by omega)]
   simp only [zz,Nat.reduceEqDiff]
   exact next hb
 simp only [not_lt_len,Nat.lt_irrefl,decide_false,fld,ldA,sl_len,zz,Nat.reduceEqDiff,Nat.reduceAdd]
 refine (c110 encInts (fun u => decide (len u = 0)) (by kernel_rfl) (by omega) (fun m _ => c115 m _)).callB ?_
 refine condB (fun hb3 => ?_) (fun hb3 => ?_)
 ·refine fin _ ?_
  simp only [linksE,unionsBad,sigsBad,unionsEmpty,hb,hb2,hb3,if_true,Bool.false_eq_true,if_false]
 ·refine fin _ ?_
  simp only [linksE,unionsBad,sigsBad,unionsEmpty,hb,hb2,hb3,if_true,Bool.false_eq_true,if_false]
theorem fldE (e : PV) (o k : Nat) : vField k (.eptr e o) = some (.eptr e (o + k)) := rfl
theorem put_sig (p : Int × Int) : vPart false 1 (pvSig p) 0 = some (.int .i64 p.1) ∧ vPart false 1 (pvSig p) 1 = some (.int .i64 p.2) := ⟨rfl,rfl⟩
end Go.Proofs.YtgghfcchanilpaaGreatDoor
