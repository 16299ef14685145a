import Derived.Test.YtgghfcchanilpaaGreatDoorSpRh
import Derived.Test.YtgghfcchanilpaaGreatDoorPlK
import Derived.Test.YtgghfcchanilpaaGreatDoorSpWd
import Derived.Test.YtgghfcchanilpaaGreatDoorSpNb
set_option linter.unusedVariables false
set_option linter.unusedSimpArgs false
namespace Go.Proofs.YtgghfcchanilpaaGreatDoor
open Go Go.Abs
theorem grow_mk {α β : Type} {enc : β → PV} {enc' : α → PV} {f : α → β} (h : ∀ a,enc' a = enc (f a)) (l : List α) : growV (l.map enc') = pvSl enc (mkSl f l) := by
 cases l with
 | nil => rfl
 | cons a l =>
  show PV.list .part _ = PV.list .part ((List.map f (a :: l)).map enc)
  rw [List.map_map]
  congr 1
  exact List.map_congr_left fun b _ => h b
theorem grow_id {α : Type} (enc : α → PV) (l : List α) : growV (l.map enc) = pvSl enc (mkSl id l) := grow_mk (fun _ => rfl) l
theorem pv_code (c : CodeL) : pvCodeL c = pvCode (codeS c) := by
 have hm : ∀ l,pvMapL l = pvMap (mkSl id l) := fun l => by
  unfold pvMapL pvMap
  rw [grow_id pvSlot]
 have hi : ∀ l,pvIntsL l = pvInts (mkSl id l) := fun l => grow_id pvI l
 have hr : ∀ r,pvRoutL r = pvRout (routS r) := fun r => by
  unfold pvRoutL pvRout routS
  rw [grow_id pvRange]
 unfold pvCodeL pvCode codeCells codeS
 rw [grow_mk hm,grow_mk hi,grow_mk hi,grow_mk hi,grow_mk hr,grow_id pvSig,grow_id pvSig,grow_id pvInst,grow_id PV.str,grow_id pvTrans]
theorem code_back (c : CodeL) : codeL (codeS c) = c := by
 cases c
 simp [codeL,codeS,mkSl,routL,routS,Function.comp_def]
theorem nums_P {c : CodeL} (h : CodeP c) : Nums (codeS c) := nums_of (by rw [code_back]; exact h.codeI)
def readR (s : Str) : Except Int CodeL :=
 if s.length > 1048576 then .error 3
 else if s.length < 8 then .error 16
 else if s.take 4 ≠ markB then .error 13
 else if fourB (sumS (s.take (s.length - 4))) ≠ s.drop (s.length - 4) then .error 15
 else match pCode1 ((s.take (s.length - 4)).drop 4) with
  | .error e => .error e
  | .ok (c,rest) => if rest.length > 0 then .error 2 else if (checkS (codeS c) 470 49).2 ≠ 0 then .error (checkS (codeS c) 470 49).2 else .ok c
abbrev nil10 : List PV := [(.list .nil []),(.list .nil []),(.list .nil []),(.list .nil []),(.list .nil []),(.list .nil []),(.list .nil []),(.list .nil []),(.list .nil []),(.list .nil [])]
def resR (r : Except Int CodeL) : PV := match r with
 | .error e => .tuple [.agg nil10,.int .i64 e]
 | .ok c => .tuple [pvCodeL c,.int .i64 0]
structure Hold (σ : St) (cs : List PV) (e : Int) (τ : St) : Prop where
 pre : σ <+: τ
 code : τ[σ.length]? = some (.arr 0 10 [.agg cs])
 err : τ[σ.length + 1]? = some (.arr 0 1 [.int .i64 e])
 ten : cs.length = 10
theorem pre_get {σ τ : St} (h : ∀ (i : Nat) k,σ[i]? = some k → τ[i]? = some k) : σ <+: τ := by
 rw [List.prefix_iff_eq_take]
 apply List.ext_getElem?
 intro i
 rw [List.getElem?_take]
 split
 ·rename_i hi
  rw [List.getElem?_eq_getElem hi]
  exact (h i _ (List.getElem?_eq_getElem hi)).symm
 ·rename_i hi
  exact List.getElem?_eq_none (by omega)
theorem Hold.same {σ τ υ : St} {cs : List PV} {e : Int} (h : Hold σ cs e τ) {p : Nat} (hp : σ.length + 2 ≤ p) (hs : Same p τ υ) : Hold σ cs e υ where
 pre := pre_get fun i k hk => by
  have := (List.getElem?_eq_some_iff.1 hk).1
  exact hs i k (by omega) (get_pre h.pre hk)
 code := hs _ _ (by omega) h.code
 err := hs _ _ (by omega) h.err
 ten := h.ten
theorem Hold.app {σ τ : St} {cs : List PV} {e : Int} (h : Hold σ cs e τ) (t : St) : Hold σ cs e (τ ++ t) :=
 ⟨h.pre.trans ⟨_,rfl⟩,get_pre ⟨_,rfl⟩ h.code,get_pre ⟨_,rfl⟩ h.err,h.ten⟩
theorem Hold.load0 {σ τ : St} {cs : List PV} {e : Int} (h : Hold σ cs e τ) : vLoad true 10 (.ptr σ.length 0 0 0) τ = some (.agg cs) := by
 simp [vLoad,h.code,vPart,h.ten]
theorem Hold.load1 {σ τ : St} {cs : List PV} {e : Int} (h : Hold σ cs e τ) : vLoad false 1 (.ptr (σ.length + 1) 0 0 0) τ = some (.int .i64 e) := by
 simp [vLoad,h.err,vPart,PV.cells?]
theorem Hold.store0 {σ τ : St} {cs : List PV} {e : Int} (h : Hold σ cs e τ) {ds : List PV} (hd : ds.length = 10) : ∃ υ,vStore 10 (.ptr σ.length 0 0 0) (.agg ds) τ = some υ ∧ Hold σ ds e υ ∧ ∀ i,i ≠ σ.length → υ[i]? = τ[i]? := by
 have hl := (List.getElem?_eq_some_iff.1 h.code).1
 refine ⟨τ.set σ.length (.arr 0 10 [.agg ds]),by simp [vStore,h.code,vPut_agg h.ten hd],⟨pre_set h.pre (Nat.le_refl _) _,by simp [hl],?_,hd⟩,fun i hi => List.getElem?_set_ne (Ne.symm hi)⟩
 rw [List.getElem?_set_ne (by omega)]
 exact h.err
theorem Hold.store1 {σ τ : St} {cs : List PV} {e : Int} (h : Hold σ cs e τ) (d : Int) : ∃ υ,vStore 1 (.ptr (σ.length + 1) 0 0 0) (.int .i64 d) τ = some υ ∧ Hold σ cs d υ ∧ ∀ i,i ≠ σ.length + 1 → υ[i]? = τ[i]? := by
 have hl := (List.getElem?_eq_some_iff.1 h.err).1
 refine ⟨τ.set (σ.length + 1) (.arr 0 1 [.int .i64 d]),by simp [vStore,h.err,vPut,PV.cells?],⟨pre_set h.pre (by omega) _,?_,by simp [hl],h.ten⟩,fun i hi => List.getElem?_set_ne (Ne.symm hi)⟩
 rw [List.getElem?_set_ne (by omega)]
 exact h.code
theorem str_neq (a b : Str) : vBin none .neq (.str a) (.str b) = some (.bool (!(a == b))) := rfl
theorem flatNil : Flat (.agg nil10) := .agg _ fun x h => by
 simp only [nil10,List.mem_cons,List.not_mem_nil,or_false] at h
 rcases h with rfl | rfl | rfl | rfl | rfl | rfl | rfl | rfl | rfl | rfl <;> exact .list _ _ (by simp)
theorem Hold.back {σ τ : St} {cs : List PV} {e : Int} (h : Hold σ cs e τ) (hf : Flat (.agg cs)) {K : PV → St → Prop} (k : K (.tuple [.agg cs,.int .i64 e]) σ) : weakW σ (.tuple [.agg cs,.int .i64 e]) τ K :=
 weakW_kill (fun c => σ.length ≤ c) ⟨fun b hb => hb,h.pre.length_le,fun b hb _ => hb,fun b k hk => .inr ⟨by have := (List.getElem?_eq_some_iff.1 hk).1; omega,k,get_pre h.pre hk,.inr ⟨rfl,hk⟩⟩⟩ (.base _ (.tuple _ fun i x hx => by
  match i,hx with
  | 0,hx => cases hx; exact hf.free _
  | 1,hx => cases hx; exact .int _ _)) k
end Go.Proofs.YtgghfcchanilpaaGreatDoor
namespace Go.Proofs.YtgghfcchanilpaaGreatDoor
open Go Go.Abs
theorem neq_self (n : Int) : (n != n) = false := by simp
theorem at_same {α β : Type} {f : α → β} {l m : List α} (h : l.map f = m.map f) {j : Nat} {a : α} (ha : l[j]? = some a) : ∃ b,m[j]? = some b ∧ f b = f a := by
 have h2 := congrArg (fun x => x[j]?) h
 simp only [List.getElem?_map,ha] at h2
 cases hb : m[j]? with
 | none => rw [hb] at h2; cases h2
 | some b =>
  rw [hb] at h2
  exact ⟨b,rfl,(Option.some.inj h2).symm⟩
theorem len_same {α β : Type} {f : α → β} {p q : Sl α} (h : p.2.map f = q.2.map f) : len q = len p := by
 have := congrArg List.length h
 simp only [List.length_map] at this
 unfold len
 omega
theorem c87 {p q : Sl (Sl Int)} (h : p.2.map (·.2) = q.2.map (·.2)) (hl : p.2.length ≤ 1048576) (hm : ∀ m ∈ p.2,m.2.length ≤ 1048576) (σ : St) : Ret W 87 [pvSl pvInts p,pvSl pvInts q] σ (.bool true) := by
 refine ret_of fun R hR => ?_
 rw [fn87_eq]
 delta fn87 bF kF nI
 simp only [sl_len,len_same h,neq_self,bne_self_eq_false,zz,Nat.reduceEqDiff]
 refine CutW_by (fun x τ => τ = σ) (fun x τ hx => ?_) ?_
 ·subst hx
  exact weakW_keep hR
 refine Lfp_up p.2.length (fun j x τ => x = lookP [(0,pvSl pvInts p),(1,pvSl pvInts q),(5,.int .i64 j)] ∧ τ = σ) ?_ ⟨rfl,rfl⟩
 rintro Φ j x τ hj ⟨rfl,rfl⟩ next
 by_cases hlt : j < p.2.length
 ·have hg : p.2[j]? = some p.2[j] := by simp [hlt]
  have hmem : p.2[j] ∈ p.2 := by simp
  generalize p.2[j] = a at hg hmem
  obtain ⟨b,hb,hab⟩ := at_same h hg
  simp only [sl_len,lt_len hlt,sl_idx encInts hg,sl_idx encInts hb,encInts.part,i_ld,zz,Nat.reduceEqDiff]
  have hc : Ret W 28 [pvInts a,pvInts b] τ (.bool true) := by
   have := c28 (k := a.1) (m := b.1) (l := a.2) (by have := hm a hmem; omega) τ
   unfold pvInts pvSl
   rw [hab]
   exact this
  refine hc.callB ?_
  simp only [zz,Nat.reduceEqDiff]
  rw [vBin_add _ (by omega) (by omega)]
  simp only [zz,Nat.reduceEqDiff]
  exact next _ _ hlt ⟨rfl,rfl⟩
 ·obtain rfl : j = p.2.length := by omega
  simp only [sl_len,not_lt_len,zz,Nat.reduceEqDiff]
theorem map_ld (a : Sl SlotS) : vPart false 1 (pvMap a) 0 = some (pvSl pvSlot a) := rfl
theorem slot_ld (a : SlotS) : vPart true 5 (pvSlot a) 0 = some (pvSlot a) := rfl
theorem slot_ne (a : SlotS) : vBin (some (.st [.int,.int,.int,.int,.bool])) .neq (pvSlot a) (pvSlot a) = some (.bool false) := by
 simp [vBin,vEq,vEqL,vEqS,pvSlot]
theorem c86 {p q : Sl (Sl SlotS)} (h : p.2.map (·.2) = q.2.map (·.2)) (hl : p.2.length ≤ 1048576) (hm : ∀ m ∈ p.2,m.2.length ≤ 1048576) (σ : St) : Ret W 86 [pvSl pvMap p,pvSl pvMap q] σ (.bool true) := by
 refine ret_of fun R hR => ?_
 rw [fn86_eq]
 delta fn86 bF kF nI
 simp only [sl_len,len_same h,neq_self,bne_self_eq_false,zz,Nat.reduceEqDiff]
 refine CutW_by (fun x τ => τ = σ) (fun x τ hx => ?_) ?_
 ·subst hx
  exact weakW_keep hR
 refine Lfp_up p.2.length (fun j x τ => x = lookP [(0,pvSl pvMap p),(1,pvSl pvMap q),(5,.int .i64 j)] ∧ τ = σ) ?_ ⟨rfl,rfl⟩
 rintro Φ j x τ hj ⟨rfl,rfl⟩ next
 by_cases hlt : j < p.2.length
 ·have hg : p.2[j]? = some p.2[j] := by simp [hlt]
  have hmem : p.2[j] ∈ p.2 := by simp
  generalize p.2[j] = a at hg hmem
  obtain ⟨b,hb,hab⟩ := at_same h hg
  have hal := hm a hmem
  simp only [sl_len,lt_len hlt,zz,Nat.reduceEqDiff]
  refine CutW_by (fun x τ' => x = lookP [(0,pvSl pvMap p),(1,pvSl pvMap q),(5,.int .i64 j)] ∧ τ' = τ) (fun x τ' hx => ?_) ?_
  ·obtain ⟨rfl,rfl⟩ := hx
   simp only [zz,Nat.reduceEqDiff]
   rw [vBin_add _ (by omega) (by omega)]
   simp only [zz,Nat.reduceEqDiff]
   exact next _ _ hlt ⟨rfl,rfl⟩
  have hlab : len b = len a := by unfold len; rw [hab]
  simp only [sl_len,sl_idx encMap hg,sl_idx encMap hb,fldE,map_ld,hlab,bne_self_eq_false,zz,Nat.reduceEqDiff]
  refine Lfp_up a.2.length (fun i x τ' => x = lookP [(0,pvSl pvMap p),(1,pvSl pvMap q),(5,.int .i64 j),(6,.int .i64 i)] ∧ τ' = τ) ?_ ⟨rfl,rfl⟩
  rintro Ψ i x τ' hi ⟨rfl,rfl⟩ next2
  by_cases hlt2 : i < a.2.length
  ·have hs : a.2[i]? = some a.2[i] := by simp [hlt2]
   have hs2 : b.2[i]? = some a.2[i] := by rw [hab]; exact hs
   generalize a.2[i] = s at hs hs2
   simp only [sl_len,sl_idx encMap hg,sl_idx encMap hb,fldE,map_ld,lt_len hlt2,sl_idx encSlot hs,sl_idx encSlot hs2,slot_ld,slot_ne,zz,Nat.reduceEqDiff]
   rw [vBin_add _ (by omega) (by omega)]
   simp only [zz,Nat.reduceEqDiff]
   exact next2 _ _ hlt2 ⟨rfl,rfl⟩
  ·obtain rfl : i = a.2.length := by omega
   simp only [sl_len,sl_idx encMap hg,fldE,map_ld,not_lt_len,zz,Nat.reduceEqDiff]
   exact ⟨trivial,trivial⟩
 ·obtain rfl : j = p.2.length := by omega
  simp only [sl_len,not_lt_len,zz,Nat.reduceEqDiff]
theorem both {A : Prop} (h : A) : A ∧ A := ⟨h,h⟩
theorem rt_parts (r : RoutS) : vPart true 9 (pvRout r) 0 = some (pvRout r) ∧ vPut 9 (.agg [(.int .i64 0),(.int .i64 0),(.int .i64 0),(.int .i64 0),(.int .i64 0),(.int .i64 0),(.int .i64 0),(.int .i64 0),(.list .nil [])]) 0 (pvRout r) = some (pvRout r) ∧
  vPart false 1 (pvRout r) 0 = some (.int .i64 r.sig) ∧ vPart false 1 (pvRout r) 1 = some (.int .i64 r.frame) ∧ vPart false 1 (pvRout r) 2 = some (.int .i64 r.fr) ∧ vPart false 1 (pvRout r) 3 = some (.int .i64 r.to) ∧ vPart false 1 (pvRout r) 4 = some (.int .i64 r.outer) ∧
  vPart false 1 (pvRout r) 5 = some (.int .i64 r.within) ∧ vPart false 1 (pvRout r) 6 = some (.int .i64 r.level) ∧ vPart false 1 (pvRout r) 7 = some (.int .i64 r.needs) ∧ vPart false 1 (pvRout r) 8 = some (pvSl pvRange r.ranges) := ⟨rfl,rfl,rfl,rfl,rfl,rfl,rfl,rfl,rfl,rfl,rfl⟩
theorem range_ld (a : RangeS) : vPart true 3 (pvRange a) 0 = some (pvRange a) := rfl
theorem range_ne (a : RangeS) : vBin (some (.st [.int,.int,.int])) .neq (pvRange a) (pvRange a) = some (.bool false) := by
 simp [vBin,vEq,vEqL,vEqS,pvRange]
set_option maxRecDepth 100000 in
theorem c88 {p q : Sl RoutS} (h : p.2.map routL = q.2.map routL) (hl : p.2.length ≤ 1048576) (hm : ∀ m ∈ p.2,m.ranges.2.length ≤ 1048576) (σ : St) : Ret W 88 [pvSl pvRout p,pvSl pvRout q] σ (.bool true) := by
 refine ret_of fun R hR => ?_
 rw [fn88_eq]
 delta fn88 bF pF gF kF nI nL
 simp only [sl_len,len_same h,neq_self,bne_self_eq_false,zz,Nat.reduceEqDiff]
 refine CutW_by (fun x τ => τ = σ) (fun x τ hx => ?_) ?_
 ·subst hx
  exact weakW_keep hR
 refine Lfp_up p.2.length (fun j x τ => x = lookP [(0,pvSl pvRout p),(1,pvSl pvRout q),(5,.int .i64 j)] ∧ τ = σ) ?_ ⟨rfl,rfl⟩
 rintro Φ j x τ hj ⟨rfl,rfl⟩ next
 by_cases hlt : j < p.2.length
 ·have hg : p.2[j]? = some p.2[j] := by simp [hlt]
  have hmem : p.2[j] ∈ p.2 := by simp
  generalize p.2[j] = a at hg hmem
  obtain ⟨b,hb,hab⟩ := at_same h hg
  have hal := hm a hmem
  simp only [sl_len,lt_len hlt,zz,Nat.reduceEqDiff]
  refine CutW_by (fun x τ' => x = lookP [(0,pvSl pvRout p),(1,pvSl pvRout q),(5,.int .i64 j)] ∧ τ' = τ) (fun x τ' hx => ?_) ?_
  ·obtain ⟨rfl,rfl⟩ := hx
   simp only [zz,Nat.reduceEqDiff]
   rw [vBin_add _ (by omega) (by omega)]
   simp only [zz,Nat.reduceEqDiff]
   exact next _ _ hlt ⟨rfl,rfl⟩
  refine both ?_
  have g1 : b.sig = a.sig := congrArg RoutL.sig hab
  have g2 : b.frame = a.frame := congrArg RoutL.frame hab
  have g3 : b.fr = a.fr := congrArg RoutL.fr hab
  have g4 : b.to = a.to := congrArg RoutL.to hab
  have g5 : b.outer = a.outer := congrArg RoutL.outer hab
  have g6 : b.within = a.within := congrArg RoutL.within hab
  have g7 : b.level = a.level := congrArg RoutL.level hab
  have g8 : b.needs = a.needs := congrArg RoutL.needs hab
  have g9 : b.ranges.2 = a.ranges.2 := congrArg RoutL.ranges hab
  have hlab : len b.ranges = len a.ranges := by unfold len; rw [g9]
  simp only [sl_len,sl_idx encRout hg,sl_idx encRout hb,rt_parts,g1,g2,g3,g4,g5,g6,g7,g8,hlab,bne_self_eq_false,zz,Nat.reduceEqDiff]
  refine Lfp_up a.ranges.2.length (fun i x τ' => x = lookP [(0,pvSl pvRout p),(1,pvSl pvRout q),(5,.int .i64 j),(8,.int .i64 i),(6,pvRout a),(7,pvRout b)] ∧ τ' = τ) ?_ ⟨rfl,rfl⟩
  rintro Ψ i x τ' hi ⟨rfl,rfl⟩ next2
  by_cases hlt2 : i < a.ranges.2.length
  ·have hs : a.ranges.2[i]? = some a.ranges.2[i] := by simp [hlt2]
   have hs2 : b.ranges.2[i]? = some a.ranges.2[i] := by rw [g9]; exact hs
   generalize a.ranges.2[i] = s at hs hs2
   simp only [sl_len,rt_parts,lt_len hlt2,sl_idx encRange hs,sl_idx encRange hs2,range_ld,range_ne,zz,Nat.reduceEqDiff]
   rw [vBin_add _ (by omega) (by omega)]
   simp only [zz,Nat.reduceEqDiff]
   exact next2 _ _ hlt2 ⟨rfl,rfl⟩
  ·obtain rfl : i = a.ranges.2.length := by omega
   simp only [sl_len,rt_parts,not_lt_len,zz,Nat.reduceEqDiff]
   exact ⟨trivial,trivial⟩
 ·obtain rfl : j = p.2.length := by omega
  simp only [sl_len,not_lt_len,zz,Nat.reduceEqDiff]
end Go.Proofs.YtgghfcchanilpaaGreatDoor
