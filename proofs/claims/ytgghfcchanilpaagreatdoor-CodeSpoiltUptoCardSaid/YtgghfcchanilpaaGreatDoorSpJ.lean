import Derived.Test.YtgghfcchanilpaaGreatDoorPlB
import Derived.Test.YtgghfcchanilpaaGreatDoorSpD
import Derived.Test.YtgghfcchanilpaaGreatDoorFnD
import Derived.Test.YtgghfcchanilpaaGreatDoorPlJ
set_option linter.unusedVariables false
set_option linter.unusedSimpArgs false
namespace Go.Abs
theorem orG {b : Bool} {k : Nat} {op : ((Nat → EV) → St → Prop) → Prop} {σ : St} {C : PV → St → Prop} (c : Bool)
  (h1 : b = false → ∀ J : (Nat → EV) → St → Prop,(∀ y,(y k).pv = .bool c → J y σ) → op J) (h2 : C (.bool (b || c)) σ) :
  guardG False (.bool b) false op σ (fun y σ' => bindO False (vPick (.bool b) (.bool true) (y k).pv) fun v => C v σ') := by
 cases b with
 | true => exact h2
 | false =>
  show op _
  refine h1 rfl _ fun y hy => ?_
  show bindO False (vPick (.bool false) (.bool true) (y k).pv) fun v => C v σ
  rw [hy]
  exact h2
theorem andG {b : Bool} {k : Nat} {op : ((Nat → EV) → St → Prop) → Prop} {σ : St} {C : PV → St → Prop} (c : Bool)
  (h1 : b = true → ∀ J : (Nat → EV) → St → Prop,(∀ y,(y k).pv = .bool c → J y σ) → op J) (h2 : C (.bool (b && c)) σ) :
  guardG False (.bool b) true op σ (fun y σ' => bindO False (vPick (.bool b) (y k).pv (.bool false)) fun v => C v σ') := by
 cases b with
 | false => exact h2
 | true =>
  show op _
  refine h1 rfl _ fun y hy => ?_
  show bindO False (vPick (.bool true) (y k).pv (.bool false)) fun v => C v σ
  rw [hy]
  exact h2
theorem condB {b : Bool} {A B : Prop} (h1 : b = true → A) (h2 : b = false → B) : condW (.bool b) A B := by
 cases b with
 | true => exact h1 rfl
 | false => exact h2 rfl
end Go.Abs
namespace Go.Proofs.YtgghfcchanilpaaGreatDoor
open Go Go.Abs
theorem encMap : EncOk pvMap true 1 := ⟨fun _ => ⟨_,rfl,rfl⟩,fun _ => rfl⟩
theorem encRout : EncOk pvRout true 9 := ⟨fun _ => ⟨_,rfl,rfl⟩,fun _ => rfl⟩
theorem encSlot : EncOk pvSlot true 5 := ⟨fun _ => ⟨_,rfl,rfl⟩,fun _ => rfl⟩
theorem encInts : EncOk pvInts false 1 := ⟨fun _ => ⟨_,rfl,rfl⟩,fun _ => rfl⟩
theorem encStr : EncOk PV.str false 1 := ⟨fun _ => ⟨_,rfl,rfl⟩,fun _ => rfl⟩
theorem encI : EncOk pvI false 1 := ⟨fun _ => ⟨_,rfl,rfl⟩,fun _ => rfl⟩
theorem encSig : EncOk pvSig true 2 := ⟨fun _ => ⟨_,rfl,rfl⟩,fun _ => rfl⟩
theorem encRange : EncOk pvRange true 3 := ⟨fun _ => ⟨_,rfl,rfl⟩,fun _ => rfl⟩
theorem encInst : EncOk pvInst true 12 := ⟨fun _ => ⟨_,rfl,rfl⟩,fun _ => rfl⟩
theorem encTrans : EncOk pvTrans true 3 := ⟨fun _ => ⟨_,rfl,rfl⟩,fun _ => rfl⟩
theorem sl_len {α : Type} (enc : α → PV) (l : Sl α) (σ : St) : vLen .sl (pvSl enc l) σ = some (.int .i64 (len l)) := by
 simp [pvSl,vLen,len]
theorem sl_idx {α : Type} {enc : α → PV} {ag : Bool} {sz : Nat} (E : EncOk enc ag sz) {l : Sl α} {i : Nat} {a : α} (h : l.2[i]? = some a) {k : IntKind} : vIndex sz (pvSl enc l) (.int k i) = some (.eptr (enc a) 0) := E.index h
theorem code_parts (c : CodeS) : opC.vBoxAny (pvCode c) = some (10,pvCode c) ∧ vPart true 10 (pvCode c) 0 = some (pvCode c) ∧ vPart false 1 (pvCode c) 0 = some (pvSl pvMap c.maps) ∧ vPart false 1 (pvCode c) 1 = some (pvSl pvInts c.unions) ∧ vPart false 1 (pvCode c) 2 = some (pvSl pvSig c.sigs) ∧ vPart false 1 (pvCode c) 3 = some (pvSl pvRout c.routs) ∧
  vPart false 1 (pvCode c) 4 = some (pvSl pvInst c.insts) ∧ vPart false 1 (pvCode c) 5 = some (pvSl pvInts c.jumps) ∧ vPart false 1 (pvCode c) 6 = some (pvSl pvInts c.parts) ∧ vPart false 1 (pvCode c) 7 = some (pvSl PV.str c.texts) ∧ vPart false 1 (pvCode c) 8 = some (pvSl pvTrans c.trans) ∧ vPart false 1 (pvCode c) 9 = some (pvSl pvSig c.lines) :=
 ⟨rfl,rfl,rfl,rfl,rfl,rfl,rfl,rfl,rfl,rfl,rfl,rfl⟩
theorem chk_parts (c : CodeS) (r i : Int) : opC.vBoxAny (pvChk c r i) = some (12,pvChk c r i) ∧ vPart true 12 (pvChk c r i) 0 = some (pvChk c r i) ∧ vPart false 1 (pvChk c r i) 0 = some (pvSl pvMap c.maps) ∧ vPart false 1 (pvChk c r i) 1 = some (pvSl pvInts c.unions) ∧ vPart false 1 (pvChk c r i) 2 = some (pvSl pvSig c.sigs) ∧ vPart false 1 (pvChk c r i) 3 = some (pvSl pvRout c.routs) ∧
  vPart false 1 (pvChk c r i) 4 = some (pvSl pvInst c.insts) ∧ vPart false 1 (pvChk c r i) 5 = some (pvSl pvInts c.jumps) ∧ vPart false 1 (pvChk c r i) 6 = some (pvSl pvInts c.parts) ∧ vPart false 1 (pvChk c r i) 7 = some (pvSl PV.str c.texts) ∧ vPart false 1 (pvChk c r i) 8 = some (pvSl pvTrans c.trans) ∧ vPart false 1 (pvChk c r i) 9 = some (pvSl pvSig c.lines) ∧
  vPart false 1 (pvChk c r i) 10 = some (.int .i64 r) ∧ vPart false 1 (pvChk c r i) 11 = some (.int .i64 i) :=
 ⟨rfl,rfl,rfl,rfl,rfl,rfl,rfl,rfl,rfl,rfl,rfl,rfl,rfl,rfl⟩
theorem map_parts (m : Sl SlotS) : opC.vBoxAny (pvMap m) = some (1,pvMap m) ∧ vPart false 1 (pvMap m) 0 = some (pvSl pvSlot m) := ⟨rfl,rfl⟩
theorem rout_ranges (r : RoutS) : opC.vBoxAny (pvRout r) = some (9,pvRout r) ∧ vPart false 1 (pvRout r) 8 = some (pvSl pvRange r.ranges) := ⟨rfl,rfl⟩
theorem c105 (m : Sl SlotS) (σ : St) : Ret W 105 [pvMap m] σ (.bool (decide (len m > 1000))) := by
 refine ret_of fun R hR => ?_
 rw [fn105_eq]
 delta fn105 bF pF nI
 simp only [map_parts,sl_len,zz,Nat.reduceEqDiff]
 exact weakW_keep hR
theorem c107 (r : RoutS) (σ : St) : Ret W 107 [pvRout r] σ (.bool (decide (len r.ranges > 4000))) := by
 refine ret_of fun R hR => ?_
 rw [fn107_eq]
 delta fn107 bF pF nI
 simp only [rout_ranges,sl_len,zz,Nat.reduceEqDiff]
 exact weakW_keep hR
theorem c109 (s : Str) (σ : St) : Ret W 109 [.str s] σ (.bool (decide ((s.length : Int) > 65536))) := by
 refine ret_of fun R hR => ?_
 rw [fn109_eq]
 delta fn109 bF nI
 simp only [zz,Nat.reduceEqDiff]
 exact weakW_keep hR
theorem c111 (l : Sl Int) (σ : St) : Ret W 111 [pvInts l] σ (.bool (decide (len l > 4000))) := by
 refine ret_of fun R hR => ?_
 rw [fn111_eq]
 delta fn111 bF nI
 unfold pvInts
 simp only [sl_len,zz,Nat.reduceEqDiff]
 exact weakW_keep hR
theorem b10_ints (l : List Int) (h : l.length = 10) : vBuildSl 1 (List.replicate 10 (.int .i64 0)) [(0,.int .i64 (l.getD 0 0)),(1,.int .i64 (l.getD 1 0)),(2,.int .i64 (l.getD 2 0)),(3,.int .i64 (l.getD 3 0)),(4,.int .i64 (l.getD 4 0)),(5,.int .i64 (l.getD 5 0)),(6,.int .i64 (l.getD 6 0)),(7,.int .i64 (l.getD 7 0)),(8,.int .i64 (l.getD 8 0)),(9,.int .i64 (l.getD 9 0))] = some (l.map pvI) := by
 match l,h with
 | [a,b,c,d,e,f,g,h,i,j],_ => rfl
def allLens (c : CodeS) : List Int := [len c.insts,len c.maps,len c.unions,len c.sigs,len c.routs,len c.jumps,len c.parts,len c.texts,len c.trans,len c.lines]
theorem b10_lens (c : CodeS) : vBuildSl 1 (List.replicate 10 (.int .i64 0)) [(0,.int .i64 (len c.insts)),(1,.int .i64 (len c.maps)),(2,.int .i64 (len c.unions)),(3,.int .i64 (len c.sigs)),(4,.int .i64 (len c.routs)),(5,.int .i64 (len c.jumps)),(6,.int .i64 (len c.parts)),(7,.int .i64 (len c.texts)),(8,.int .i64 (len c.trans)),(9,.int .i64 (len c.lines))] = some ((allLens c).map pvI) := b10_ints (allLens c) rfl
theorem b3_lists (a b c : Sl (Sl Int)) : vBuildSl 1 (List.replicate 3 (.list .nil [])) [(0,pvSl pvInts a),(1,pvSl pvInts b),(2,pvSl pvInts c)] = some ([a,b,c].map (pvSl pvInts)) := rfl
theorem encLists : EncOk (pvSl pvInts) false 1 := ⟨fun _ => ⟨_,rfl,rfl⟩,fun _ => rfl⟩
theorem c58 {c : CodeS} (hc : Okay c) (r i : Int) (σ : St) : Ret W 58 [pvChk c r i] σ (.int .i64 (if overB c then 3 else 0)) := by
 refine ret_of fun R hR => ?_
 rw [fn58_eq]
 delta fn58 bF pF gF kF nI nL
 simp only [chk_parts,sl_len,b10_lens,zz,Nat.reduceEqDiff]
 have hll : (allLens c).length = 10 := rfl
 have hlo : lensOver c = (allLens c).any fun n => decide (n > 16384) := rfl
 unfold overB at hR
 rw [hlo] at hR
 generalize allLens c = l at hR hll
 simp only [List.length_map,zz,Nat.reduceEqDiff]
 refine Lfp_up l.length (fun j x σ' => x = lookP [(48,.list .full (l.map pvI)),(49,.int .i64 l.length),(50,.int .i64 j),(1,pvChk c r i)] ∧ σ' = σ ∧ ((l.take j).any fun n => decide (n > 16384)) = false) ?_ ⟨rfl,rfl,rfl⟩
 rintro Φ j x σ' hj ⟨rfl,rfl,hp⟩ next
 simp only [zz,Nat.reduceEqDiff]
 by_cases hlt : j < l.length
 ·have hg : l[j]? = some l[j] := by simp [hlt]
  generalize l[j] = n at hg
  simp only [hlt,decide_true,encI.index hg,encI.part,zz,Nat.reduceEqDiff]
  refine condB (fun hb => ?_) (fun hb => ?_)
  ·refine weakW_keep ?_
   rw [any_of_get hg (q := fun n => decide (n > 16384)) hb] at hR
   exact hR
  ·rw [vBin_add _ (by omega) (by omega)]
   simp only [zz,Nat.reduceEqDiff]
   exact next _ _ hlt ⟨by simp,rfl,any_cons_false hp hg hb⟩
 ·obtain rfl : j = l.length := by omega
  rw [List.take_length] at hp
  rw [hp] at hR
  simp only [Bool.false_or] at hR
  simp only [hlt,decide_false,chk_parts,zz,Nat.reduceEqDiff]
  refine (c104 encMap (fun m => decide (len m > 1000)) (by kernel_rfl) (by have := hc.maps; omega) (fun m _ => c105 m _)).callB ?_
  refine orG (c.routs.2.any fun r => decide (len r.ranges > 4000)) (fun _ J hJ => ?_) ?_
  ·refine (c106 encRout (fun r => decide (len r.ranges > 4000)) (by kernel_rfl) (by have := hc.routs; omega) (fun m _ => c107 m _)).callB ?_
   exact hJ _ rfl
  refine orG (c.texts.2.any fun s => decide ((s.length : Int) > 65536)) (fun _ J hJ => ?_) ?_
  ·refine (c108 encStr (fun s : Str => decide ((s.length : Int) > 65536)) (by kernel_rfl) (by have := hc.texts; omega) (fun m _ => c109 m _)).callB ?_
   exact hJ _ rfl
  have hio : innerOver c = ((c.maps.2.any fun m => decide (len m > 1000)) || (c.routs.2.any fun r => decide (len r.ranges > 4000)) || (c.texts.2.any fun s => decide ((s.length : Int) > 65536))) := by
   unfold innerOver
   rw [Bool.or_assoc]
  rw [← hio]
  simp only [chk_parts,b3_lists,zz,Nat.reduceEqDiff]
  have h3 : (longL c.unions || (longL c.jumps || longL c.parts)) = ([c.unions,c.jumps,c.parts].any longL) := by simp
  have hl3 : ∀ q ∈ [c.unions,c.jumps,c.parts],q.2.length ≤ 1048576 := by
   intro q hq
   simp at hq
   rcases hq with rfl | rfl | rfl
   ·exact hc.unions
   ·exact hc.jumps
   ·exact hc.parts
  rw [h3] at hR
  have h33 : [c.unions,c.jumps,c.parts].length = 3 := rfl
  generalize [c.unions,c.jumps,c.parts] = q at hR hl3 h33
  generalize innerOver c = b0 at hR
  simp only [List.length_map,zz,Nat.reduceEqDiff]
  refine Lfp_up q.length (fun j x τ => x = lookP [(5,.bool (b0 || (q.take j).any longL)),(82,.list .full (q.map (pvSl pvInts))),(83,.int .i64 q.length),(84,.int .i64 j)] ∧ τ = σ') ?_ ⟨by simp,rfl⟩
  rintro Φ2 j x τ hj ⟨rfl,rfl⟩ next2
  simp only [zz,Nat.reduceEqDiff]
  by_cases hlt2 : j < q.length
  ·have hg : q[j]? = some q[j] := by simp [hlt2]
   have hmem : q[j] ∈ q := by simp
   generalize q[j] = t at hg hmem
   simp only [hlt2,decide_true,encLists.index hg,encLists.part,zz,Nat.reduceEqDiff]
   refine orG (longL t) (fun _ J hJ => ?_) ?_
   ·refine (c110 encInts (fun t => decide (len t > 4000)) (by kernel_rfl) (by have := hl3 t hmem; omega) (fun m _ => c111 m _)).callB ?_
    exact hJ _ rfl
   rw [vBin_add _ (by omega) (by omega)]
   simp only [zz,Nat.reduceEqDiff]
   refine next2 _ _ hlt2 ⟨?_,rfl⟩
   rw [List.take_add_one,hg,List.any_append]
   simp [Bool.or_assoc]
  ·obtain rfl : j = q.length := by omega
   rw [List.take_length]
   simp only [hlt2,decide_false,zz,Nat.reduceEqDiff]
   refine condB (fun hb => ?_) (fun hb => ?_)
   ·rw [hb] at hR
    exact weakW_keep hR
   ·rw [hb] at hR
    exact weakW_keep hR
end Go.Proofs.YtgghfcchanilpaaGreatDoor
