import Derived.Test.YtgghfcchanilpaaGreatDoorSpK
set_option linter.unusedVariables false
set_option linter.unusedSimpArgs false
namespace Go.Proofs.YtgghfcchanilpaaGreatDoor
open Go Go.Abs
theorem Lfp_any {n : St} {α : Type} {F : ((Nat → PV) → St → Prop) → (Nat → PV) → St → Prop} (l : List α) (q : α → Bool) (mk : Nat → Nat → PV) (σ : St) {x0 : Nat → PV} (h0 : x0 = mk 0)
  (hend : l.any q = false → ∀ Φ : (Nat → PV) → St → Prop,F Φ (mk l.length) σ)
  (step : ∀ (Φ : (Nat → PV) → St → Prop) (j : Nat) (a : α),l[j]? = some a → a ∈ l → j < l.length → (q a = true → l.any q = true) → (q a = false → Φ (mk (j + 1)) σ) → F Φ (mk j) σ) : Lfp n F x0 σ := by
 refine Lfp_up l.length (fun j x σ' => x = mk j ∧ σ' = σ ∧ (l.take j).any q = false) ?_ ⟨h0,rfl,rfl⟩
 rintro Φ j x σ' hj ⟨rfl,rfl,hp⟩ next
 by_cases hlt : j < l.length
 ·have hg : l[j]? = some l[j] := by simp [hlt]
  refine step Φ j l[j] hg (by simp) hlt (fun h => any_of_get hg (q := q) h) fun hb => ?_
  exact next _ _ hlt ⟨rfl,rfl,any_cons_false hp hg hb⟩
 ·obtain rfl : j = l.length := by omega
  rw [List.take_length] at hp
  exact hend hp Φ
theorem lt_len' {n j : Nat} (h : j < n) : decide ((j : Int) < (n : Int)) = true := decide_eq_true (by omega)
theorem not_lt_len' (n : Nat) : decide ((n : Int) < (n : Int)) = false := decide_eq_false (by omega)
theorem lt_len {α : Type} {l : Sl α} {j : Nat} (h : j < l.2.length) : decide ((j : Int) < len l) = true := lt_len' h
theorem not_lt_len {α : Type} (l : Sl α) : decide ((l.2.length : Int) < len l) = false := not_lt_len' _
theorem put_map (m : Sl SlotS) : vPut 1 (.agg [(.list .nil [])]) 0 (pvMap m) = some (pvMap m) := rfl
theorem put_slot (s : SlotS) : vPut 5 (.agg [(.int .i64 0),(.int .i64 0),(.int .i64 0),(.int .i64 0),(.bool false)]) 0 (pvSlot s) = some (pvSlot s) := rfl
theorem part_slot (s : SlotS) : vPart true 5 (pvSlot s) 0 = some (pvSlot s) := rfl
theorem map_part (m : Sl SlotS) : vPart false 1 (pvMap m) 0 = some (pvSl pvSlot m) := rfl
theorem c59 {c : CodeS} (hc : Okay c) (r i : Int) (σ : St) : Ret W 59 [pvChk c r i] σ (.int .i64 (if slotsBad c then 13 else 0)) := by
 refine ret_of fun R hR => ?_
 rw [fn59_eq]
 unfold fn59
 simp only [chk_parts,sl_len,zz,Nat.reduceEqDiff]
 have hm := hc.maps
 refine Lfp_any c.maps.2 (fun m => m.2.any fun s => !slotB c s) (fun j => lookP [(9,pvSl pvMap c.maps),(10,.int .i64 (len c.maps)),(11,.int .i64 j),(1,pvChk c r i)]) σ rfl (fun hb Φ => ?_) (fun Φ j m hg hmem hj hit next => ?_)
 ·simp only [not_lt_len,zz,Nat.reduceEqDiff]
  unfold slotsBad at hR
  rw [hb] at hR
  exact weakW_keep hR
 ·have hs := hc.slots m hmem
  simp only [lt_len hj,sl_idx encMap hg,encMap.part,put_map,map_part,sl_len,List.length_map,zz,Nat.reduceEqDiff]
  refine Lfp_any m.2 (fun s => !slotB c s) (fun k => lookP [(9,pvSl pvMap c.maps),(10,.int .i64 (len c.maps)),(11,.int .i64 j),(16,pvSl pvSlot m),(17,.int .i64 (m.2.length : Nat)),(18,.int .i64 k),(1,pvChk c r i)]) σ rfl (fun hb Ψ => ?_) (fun Ψ k s hg' hmem' hk hit' next' => ?_)
  ·simp only [Nat.lt_irrefl,decide_false,zz,Nat.reduceEqDiff]
   rw [vBin_add _ (by omega) (by omega)]
   simp only [zz,Nat.reduceEqDiff]
   exact next hb
  ·simp only [hk,decide_true,sl_idx encSlot hg',put_slot,part_slot,chk_parts,zz,Nat.reduceEqDiff]
   refine (c112 _ _ _ _).callB ?_
   simp only [zz,Nat.reduceEqDiff]
   refine condB (fun hb => ?_) (fun hb => ?_)
   ·have := hit (hit' hb)
    unfold slotsBad at hR
    rw [this] at hR
    exact weakW_keep hR
   ·rw [vBin_add _ (by omega) (by omega)]
    simp only [zz,Nat.reduceEqDiff]
    exact next' hb
theorem c115 (l : Sl Int) (σ : St) : Ret W 115 [pvInts l] σ (.bool (decide (len l = 0))) := by
 refine ret_of fun R hR => ?_
 rw [fn115_eq]
 unfold fn115
 unfold pvInts
 simp only [sl_len,zz,Nat.reduceEqDiff]
 exact weakW_keep hR
def chkA (σ : St) (c : CodeS) (r i : Int) : St := σ ++ [.arr 0 12 [pvChk c r i]]
theorem fld (n g i : Nat) (o k : Nat) : vField k (.ptr n g i o) = some (.ptr n g i (o + k)) := rfl
theorem ldA (σ : St) (c : CodeS) (r i : Int) : vLoad false 1 (.ptr σ.length 0 0 0) (chkA σ c r i) = some (pvSl pvMap c.maps) ∧ vLoad false 1 (.ptr σ.length 0 0 1) (chkA σ c r i) = some (pvSl pvInts c.unions) ∧ vLoad false 1 (.ptr σ.length 0 0 2) (chkA σ c r i) = some (pvSl pvSig c.sigs) := by
 unfold chkA
 simp only [vLoad,new_get]
 exact ⟨rfl,rfl,rfl⟩
theorem c114 {c : CodeS} (σ : St) (r i : Int) (m : Int) : Ret W 114 [.int .i64 m,.ptr σ.length 0 0 0] (chkA σ c r i) (.bool (!inS m (len c.maps))) := by
 refine ret_of fun R hR => ?_
 rw [fn114_eq]
 unfold fn114
 simp only [fld,ldA,sl_len,zz,Nat.reduceEqDiff,Nat.reduceAdd]
 refine (c42 _ _ _).callB ?_
 simp only [zz,Nat.reduceEqDiff]
 exact weakW_keep hR
theorem sig_parts (p : Int × Int) : vPart false 1 (pvSig p) 0 = some (.int .i64 p.1) ∧ vPart false 1 (pvSig p) 1 = some (.int .i64 p.2) ∧ vPut 2 (.agg [.int .i64 0,.int .i64 0]) 0 (pvSig p) = some (pvSig p) := ⟨rfl,rfl,rfl⟩
theorem c60 {c : CodeS} (hc : Okay c) (r i : Int) (σ : St) : Ret W 60 [pvChk c r i] σ (.int .i64 (linksE c)) := by
 refine ret_of fun R hR => ?_
 rw [fn60_eq]
 unfold fn60
 have hu := hc.unions
 have hs := hc.sigs
 have h012 : (0 : Nat) < 12 := by omega
 have hn : σ ++ [.arr 0 12 [pvChk c r i]] = chkA σ c r i := rfl
 have fin : ∀ n : Int,linksE c = n → weakW σ (.int .i64 n) (chkA σ c r i) fun v σ => R (.ret v) σ := fun n hb => by
  rw [hb] at hR
  exact weakW_clean (List.prefix_append _ _) (frz_same (.int _ _)) hR
 clear hR
 simp only [chk_parts,sl_len,newW_eq,h012,if_true,hn,fld,ldA,zz,Nat.reduceEqDiff,Nat.reduceAdd]
 refine Lfp_any c.unions.2 (fun u => u.2.any fun m => !inS m (len c.maps)) (fun j => lookP [(1,.ptr σ.length 0 0 0),(9,pvSl pvInts c.unions),(10,.int .i64 (len c.unions)),(11,.int .i64 j)]) _ rfl (fun hb Φ => ?_) (fun Φ j u hg hmem hj hit next => ?_)
 case refine_2 =>
  have hul := hc.union u hmem
  simp only [lt_len hj,hj,decide_true,sl_idx encInts hg,encInts.part,zz,Nat.reduceEqDiff]
  refine (c113 encI (fun m => !inS m (len c.maps)) (by kernel_rfl) (by omega) (fun m _ => c114 σ r i m)).callB ?_
  refine condB (fun hb => ?_) (fun hb => ?_)
  ·refine fin _ ?_
   have := hit hb
   simp only [linksE,unionsBad,this,if_true]
  ·rw [vBin_add _ (by omega) (by omega)]
   simp only [zz,Nat.reduceEqDiff]
   exact next hb
 simp only [not_lt_len,Nat.lt_irrefl,decide_false,fld,ldA,sl_len,zz,Nat.reduceEqDiff,Nat.reduceAdd]
 refine Lfp_any c.sigs.2 (fun p => !inS p.1 (len c.maps) || !inS p.2 (len c.maps)) (fun j => lookP [(1,.ptr σ.length 0 0 0),(21,pvSl pvSig c.sigs),(22,.int .i64 (len c.sigs)),(23,.int .i64 j)]) _ rfl (fun hb2 Ψ => ?_) (fun Ψ j p hg hmem hj hit next => ?_)
 case refine_2 =>
  simp only [lt_len hj,hj,decide_true,sl_idx encSig hg,encSig.part,sig_parts,fld,ldA,sl_len,zz,Nat.reduceEqDiff,Nat.reduceAdd]
  refine (c42 _ _ _).callB ?_
  simp only [zz,Nat.reduceEqDiff]
  refine orG (!inS p.2 (len c.maps)) (fun _ J hJ => ?_) ?_
  ·simp only [ldA,sl_len,zz,Nat.reduceEqDiff]
   refine (c42 _ _ _).callB ?_
   simp only [zz,Nat.reduceEqDiff]
   exact hJ _ rfl
  refine condB (fun hb => ?_) (fun hb => ?_)
  ·refine fin _ ?_
   have := hit hb
   simp only [linksE,unionsBad,sigsBad,this,if_true]
   split <;> rfl
  ·rw [vBin_add _ (by omega) (by omega)]
   simp only [zz,Nat.reduceEqDiff]
   exact next hb
 simp only [not_lt_len,Nat.lt_irrefl,decide_false,fld,ldA,sl_len,zz,Nat.reduceEqDiff,Nat.reduceAdd]
 refine (c110 encInts (fun u => decide (len u = 0)) (by kernel_rfl) (by omega) (fun m _ => c115 m _)).callB ?_
 refine condB (fun hb3 => ?_) (fun hb3 => ?_)
 ·refine fin _ ?_
  simp only [linksE,unionsBad,sigsBad,unionsEmpty,hb,hb2,hb3,if_true,Bool.false_eq_true,if_false]
 ·refine fin _ ?_
  simp only [linksE,unionsBad,sigsBad,unionsEmpty,hb,hb2,hb3,if_true,Bool.false_eq_true,if_false]
def slotsE (c : CodeS) : Int := if slotsBad c then 13 else linksE c
theorem fldE (e : PV) (o k : Nat) : vField k (.eptr e o) = some (.eptr e (o + k)) := rfl
theorem put_sig (p : Int × Int) : vPart false 1 (pvSig p) 0 = some (.int .i64 p.1) ∧ vPart false 1 (pvSig p) 1 = some (.int .i64 p.2) := ⟨rfl,rfl⟩
theorem c65 {c : CodeS} (hc : Okay c) (σ : St) : Ret W 65 [pvCode c] σ (.int .i64 (slotsE c)) := by
 refine ret_of fun R hR => ?_
 rw [fn65_eq]
 unfold fn65
 have hm := hc.maps
 have hu := hc.unions
 have hs := hc.sigs
 have fin : ∀ n : Int,slotsE c = n → weakW σ (.int .i64 n) σ fun v σ => R (.ret v) σ := fun n hb => by
  rw [hb] at hR
  exact weakW_keep hR
 clear hR
 simp only [code_parts,zz,Nat.reduceEqDiff]
 refine CutW_by (fun x τ => x 1 = pvCode c ∧ τ = σ ∧ slotsBad c = false) (fun x τ hx => ?_) ?_
 case refine_2 =>
  refine Lfp_any c.maps.2 (fun m => m.2.any fun s => !slotB c s) (fun j => lookP [(3,.int .i64 j),(1,pvCode c)]) _ rfl (fun hb Φ => ?_) (fun Φ j m hg hmem hj hit next => ?_)
  ·simp only [code_parts,sl_len,not_lt_len,Nat.lt_irrefl,decide_false,zz,Nat.reduceEqDiff]
   exact ⟨trivial,trivial,hb⟩
  have hml := hc.slots m hmem
  simp only [code_parts,sl_len,lt_len hj,hj,decide_true,zz,Nat.reduceEqDiff]
  refine CutW_by (fun x τ => x 1 = pvCode c ∧ x 3 = .int .i64 j ∧ τ = σ ∧ (m.2.any fun s => !slotB c s) = false) (fun x τ hx => ?_) ?_
  ·obtain ⟨h1,h3,rfl,hb⟩ := hx
   simp only [h1,h3]
   rw [vBin_add _ (by omega) (by omega)]
   simp only [zz,Nat.reduceEqDiff]
   exact next hb
  refine Lfp_any m.2 (fun s => !slotB c s) (fun k => lookP [(3,.int .i64 j),(4,.int .i64 k),(1,pvCode c)]) _ rfl (fun hb Ψ => ?_) (fun Ψ k s hg' hmem' hk hit' next' => ?_)
  ·simp only [code_parts,sl_len,sl_idx encMap hg,fldE,map_part,not_lt_len,Nat.lt_irrefl,decide_false,zz,Nat.reduceEqDiff,Nat.reduceAdd]
   exact ⟨trivial,trivial,trivial,hb⟩
  ·simp only [code_parts,sl_len,sl_idx encMap hg,fldE,map_part,sl_idx encSlot hg',part_slot,lt_len hk,hk,decide_true,zz,Nat.reduceEqDiff,Nat.reduceAdd]
   refine (c123 _ _).callB ?_
   simp only [zz,Nat.reduceEqDiff]
   refine condB (fun hb => ?_) (fun hb => ?_)
   ·refine fin _ ?_
    have := hit (hit' hb)
    simp only [slotsE,slotsBad,this,if_true]
   ·rw [vBin_add _ (by omega) (by omega)]
    simp only [zz,Nat.reduceEqDiff]
    exact next' hb
 obtain ⟨h1,rfl,hsb⟩ := hx
 simp only [h1]
 clear h1 x
 refine CutW_by (fun x τ' => x 1 = pvCode c ∧ τ' = τ ∧ unionsBad c = false) (fun x τ' hx => ?_) ?_
 case refine_2 =>
  refine Lfp_any c.unions.2 (fun m => m.2.any fun s => !inS s (len c.maps)) (fun j => lookP [(5,.int .i64 j),(1,pvCode c)]) _ rfl (fun hb Φ => ?_) (fun Φ j m hg hmem hj hit next => ?_)
  ·simp only [code_parts,sl_len,not_lt_len,Nat.lt_irrefl,decide_false,zz,Nat.reduceEqDiff]
   exact ⟨trivial,trivial,hb⟩
  have hml := hc.union m hmem
  simp only [code_parts,sl_len,lt_len hj,hj,decide_true,zz,Nat.reduceEqDiff]
  refine CutW_by (fun x τ' => x 1 = pvCode c ∧ x 5 = .int .i64 j ∧ τ' = τ ∧ (m.2.any fun s => !inS s (len c.maps)) = false) (fun x τ' hx => ?_) ?_
  ·obtain ⟨h1,h3,rfl,hb⟩ := hx
   simp only [h1,h3]
   rw [vBin_add _ (by omega) (by omega)]
   simp only [zz,Nat.reduceEqDiff]
   exact next hb
  refine Lfp_any m.2 (fun s => !inS s (len c.maps)) (fun k => lookP [(5,.int .i64 j),(6,.int .i64 k),(1,pvCode c)]) _ rfl (fun hb Ψ => ?_) (fun Ψ k s hg' hmem' hk hit' next' => ?_)
  ·simp only [code_parts,sl_idx encInts hg,encInts.part,zz,Nat.reduceEqDiff]
   unfold pvInts
   simp only [sl_len,not_lt_len,Nat.lt_irrefl,decide_false,zz,Nat.reduceEqDiff]
   exact ⟨trivial,trivial,trivial,hb⟩
  ·have hi : vIndex 1 (pvInts m) (.int .i64 k) = some (.eptr (pvI s) 0) := sl_idx encI hg'
   have hl : vLen .sl (pvInts m) τ = some (.int .i64 (len m)) := sl_len _ _ _
   simp only [code_parts,sl_idx encInts hg,encInts.part,hl,hi,encI.part,sl_len,lt_len hk,hk,decide_true,zz,Nat.reduceEqDiff,Nat.reduceAdd]
   refine (c75 _ _ _).callB ?_
   simp only [zz,Nat.reduceEqDiff]
   refine condB (fun hb => ?_) (fun hb => ?_)
   ·refine fin _ ?_
    have := hit (hit' hb)
    simp only [slotsE,linksE,unionsBad,hsb,this,if_true,Bool.false_eq_true,if_false]
   ·rw [vBin_add _ (by omega) (by omega)]
    simp only [zz,Nat.reduceEqDiff]
    exact next' hb
 obtain ⟨h1,rfl,hub⟩ := hx
 simp only [h1]
 clear h1 x
 refine CutW_by (fun x τ => x 1 = pvCode c ∧ τ = τ' ∧ sigsBad c = false) (fun x τ hx => ?_) ?_
 case refine_2 =>
  refine Lfp_any c.sigs.2 (fun p => !inS p.1 (len c.maps) || !inS p.2 (len c.maps)) (fun j => lookP [(7,.int .i64 j),(1,pvCode c)]) _ rfl (fun hb Φ => ?_) (fun Φ j p hg hmem hj hit next => ?_)
  ·simp only [code_parts,sl_len,not_lt_len,Nat.lt_irrefl,decide_false,zz,Nat.reduceEqDiff]
   exact ⟨trivial,trivial,hb⟩
  simp only [code_parts,sl_len,lt_len hj,hj,decide_true,sl_idx encSig hg,fldE,put_sig,zz,Nat.reduceEqDiff,Nat.reduceAdd]
  refine (c75 _ _ _).callB ?_
  simp only [zz,Nat.reduceEqDiff]
  refine orG (!inS p.2 (len c.maps)) (fun _ J hJ => ?_) ?_
  ·refine (c75 _ _ _).callB ?_
   simp only [zz,Nat.reduceEqDiff]
   exact hJ _ rfl
  refine condB (fun hb => ?_) (fun hb => ?_)
  ·refine fin _ ?_
   have := hit hb
   simp only [slotsE,linksE,sigsBad,hsb,hub,this,if_true,Bool.false_eq_true,if_false]
  ·rw [vBin_add _ (by omega) (by omega)]
   simp only [zz,Nat.reduceEqDiff]
   exact next hb
 obtain ⟨h1,rfl,hgb⟩ := hx
 simp only [h1]
 clear h1 x
 refine CutW_by (fun x τ' => τ' = τ ∧ unionsEmpty c = false) (fun x τ' hx => ?_) ?_
 case refine_2 =>
  refine Lfp_any c.unions.2 (fun u => decide (len u = 0)) (fun j => lookP [(8,.int .i64 j),(1,pvCode c)]) _ rfl (fun hb Φ => ?_) (fun Φ j m hg hmem hj hit next => ?_)
  ·simp only [code_parts,sl_len,not_lt_len,Nat.lt_irrefl,decide_false,zz,Nat.reduceEqDiff]
   exact ⟨trivial,hb⟩
  have hl : vLen .sl (pvInts m) τ = some (.int .i64 (len m)) := sl_len _ _ _
  simp only [code_parts,sl_len,lt_len hj,hj,decide_true,sl_idx encInts hg,encInts.part,hl,zz,Nat.reduceEqDiff]
  refine condB (fun hb => ?_) (fun hb => ?_)
  ·refine fin _ ?_
   have := hit (by simpa using hb)
   simp only [slotsE,linksE,unionsEmpty,hsb,hub,hgb,this,if_true,Bool.false_eq_true,if_false]
  ·rw [vBin_add _ (by omega) (by omega)]
   simp only [zz,Nat.reduceEqDiff]
   exact next (by simpa using hb)
 obtain ⟨rfl,heb⟩ := hx
 refine fin _ ?_
 simp only [slotsE,linksE,hsb,hub,hgb,heb,Bool.false_eq_true,if_false]
end Go.Proofs.YtgghfcchanilpaaGreatDoor
