import Derived.Test.YteikomnahelckaaGreatDoorSpC
set_option linter.unusedVariables false
set_option linter.unusedSimpArgs false
namespace Go.Proofs.YteikomnahelckaaGreatDoor
open Go Go.Abs
def okAt (i : Nat) (c : UInt8) : Bool := letterB c || (i != 0 && digitB c)
theorem tag_all {s : Str} (h : ∀ i c,s[i]? = some c → okAt i c = true) : tagB s = (decide (1 ≤ s.length) && decide (s.length ≤ 40)) := by
 cases s with
 | nil => rfl
 | cons c s =>
  have h0 := h 0 c rfl
  have hw : wordB (c :: s) = true := by
   simp only [wordB,Bool.and_eq_true,List.all_eq_true]
   refine ⟨by simpa [okAt] using h0,fun d hd => ?_⟩
   obtain ⟨i,hi⟩ := List.getElem?_of_mem hd
   simpa [okAt] using h (i + 1) d (by simpa using hi)
  simp [tagB,hw]
theorem tag_bad {s : Str} {i : Nat} {c : UInt8} (hc : s[i]? = some c) (h : okAt i c = false) : tagB s = false := by
 cases s with
 | nil => simp at hc
 | cons d s =>
  cases i with
  | zero =>
   simp at hc
   subst hc
   simp only [okAt,bne_self_eq_false,Bool.false_and,Bool.or_false] at h
   simp [tagB,wordB,h]
  | succ i =>
   have hc' : s[i]? = some c := by simpa using hc
   have h' : (letterB c || digitB c) = false := by simpa [okAt] using h
   have : s.all (fun c => letterB c || digitB c) = false := by
    rw [Bool.eq_false_iff]
    intro ha
    rw [List.all_eq_true] at ha
    rw [ha c (List.mem_of_getElem? hc')] at h'
    cases h'
   simp [tagB,wordB,this]
theorem c191 {s : Str} (hs : s.length < 4611686018427387904) (σ : St) : Ret W 191 [.str s,.int .u8 97,.int .u8 122] σ (.bool (tagB s)) := by
 refine ret_of fun R hR => ?_
 rw [fn191_eq]
 delta fn191 bF gF kF nI
 simp only [zz,Nat.reduceEqDiff]
 refine Lfp_up s.length (fun i x σ' => x = lookP [(0,.str s),(1,.int .u8 97),(2,.int .u8 122),(10,.int .i64 s.length),(11,.int .i64 i)] ∧ σ' = σ ∧ ∀ j c,j < i → s[j]? = some c → okAt j c = true) ?_ ⟨rfl,rfl,fun j c hj => absurd hj (by omega)⟩
 rintro Φ i x σ' hi ⟨rfl,rfl,hp⟩ next
 simp only [zz,Nat.reduceEqDiff]
 by_cases hlt : i < s.length
 ·have hc : s[i]? = some s[i] := by simp [hlt]
  generalize s[i] = c at hc
  simp only [hlt,vStrAt_nat _ hc,zz,Nat.reduceEqDiff]
  have bad : okAt i c = false → weakW σ' (.bool false) σ' fun v σ => R (.ret v) σ := fun h => by
   rw [tag_bad hc h] at hR
   exact weakW_keep hR
  have good : okAt i c = true → Φ (lookP [(0,.str s),(1,.int .u8 97),(2,.int .u8 122),(10,.int .i64 s.length),(11,.int .i64 (i + 1 : Nat))]) σ' := fun h => by
   refine next _ _ hlt ⟨rfl,rfl,fun j d hj hd => ?_⟩
   by_cases hji : j = i
   ·subst hji
    rw [hc] at hd
    cases hd
    exact h
   ·exact hp j d (by omega) hd
  refine andG (decide ((c.toNat : Int) ≤ 122)) (fun hb J nx => ?_) ?_
  ·exact nx _ rfl
  have hl : (decide ((c.toNat : Int) ≥ 97) && decide ((c.toNat : Int) ≤ 122)) = letterB c := by
   simp only [letterB]
   congr 1 <;> (congr 1; apply propext; omega)
  rw [hl]
  cases hcl : letterB c with
  | true =>
   simp only [zz,Nat.reduceEqDiff]
   rw [vBin_add _ (by omega) (by omega)]
   simp only [zz,Nat.reduceEqDiff]
   exact good (by simp [okAt,hcl])
  | false =>
   simp only [zz,Nat.reduceEqDiff]
   by_cases h0 : i = 0
   ·have e0 : ((i : Int) == 0) = true := by simp [h0]
    simp only [e0,zz,Nat.reduceEqDiff]
    exact bad (by simp [okAt,hcl,h0])
   ·have e0 : ((i : Int) == 0) = false := by simpa using h0
    simp only [e0,zz,Nat.reduceEqDiff]
    cases h1 : decide ((c.toNat : Int) < 48) with
    | true =>
     simp only [zz,Nat.reduceEqDiff]
     refine bad ?_
     simp only [decide_eq_true_eq] at h1
     have : digitB c = false := by simp [digitB]; omega
     simp [okAt,hcl,this]
    | false =>
     simp only [zz,Nat.reduceEqDiff]
     cases h2 : decide ((c.toNat : Int) > 57) with
     | true =>
      simp only [zz,Nat.reduceEqDiff]
      refine bad ?_
      simp only [decide_eq_true_eq] at h2
      have : digitB c = false := by simp [digitB]; omega
      simp [okAt,hcl,this]
     | false =>
      simp only [zz,Nat.reduceEqDiff]
      rw [vBin_add _ (by omega) (by omega)]
      simp only [zz,Nat.reduceEqDiff]
      refine good ?_
      simp only [decide_eq_false_iff_not] at h1 h2
      have : digitB c = true := by simp [digitB]; omega
      simp [okAt,this,h0]
 ·simp only [hlt,zz,Nat.reduceEqDiff]
  refine andG (decide ((s.length : Int) ≤ 40)) (fun hb J nx => ?_) ?_
  ·exact nx _ rfl
  have hi' : i = s.length := by omega
  have ht := tag_all (s := s) fun j c hj => hp j c (by have := (List.getElem?_eq_some_iff.1 hj).1; omega) hj
  have e : (decide ((s.length : Int) ≥ 1) && decide ((s.length : Int) ≤ 40)) = tagB s := by
   rw [ht]
   congr 1 <;> (congr 1; apply propext; omega)
  rw [e]
  exact weakW_keep hR
theorem c115 {s : Str} (hs : s.length < 4611686018427387904) (σ : St) : Ret W 115 [.str s] σ (.bool (tagB s)) := by
 refine ret_of fun R hR => ?_
 rw [fn115_eq]
 delta fn115
 refine (c191 hs σ).callB ?_
 exact weakW_keep hR
theorem c114 {s : Str} (hs : s.length < 4611686018427387904) (σ : St) : Ret W 114 [.str s] σ (.bool (!tagB s)) := by
 refine ret_of fun R hR => ?_
 rw [fn114_eq]
 delta fn114
 refine (c115 hs σ).callB ?_
 simp only [zz,Nat.reduceEqDiff]
 exact weakW_keep hR
theorem c112 {k : LK} {xs : List PV} (hx : xs.length < 4611686018427387904) (i : Int) (σ : St) : Ret W 112 [.list k xs,.int .i64 i] σ (.bool (inN xs.length i)) := by
 refine ret_of fun R hR => ?_
 rw [fn112_eq]
 delta fn112 bF gF nI
 simp only [zz,Nat.reduceEqDiff]
 refine andG (decide (i < (xs.length : Int))) (fun hb J nx => ?_) ?_
 ·exact nx _ rfl
 exact weakW_keep hR
theorem c111 {k : LK} {xs : List PV} (hx : xs.length < 4611686018427387904) (i : Int) {p : PV} {σ : St} (hp : vLoad false 1 p σ = some (.list k xs)) : Ret W 111 [.int .i64 i,p] σ (.bool (!inN xs.length i)) := by
 refine ret_of fun R hR => ?_
 rw [fn111_eq]
 delta fn111
 simp only [hp,zz,Nat.reduceEqDiff]
 refine (c112 hx i σ).callB ?_
 simp only [zz,Nat.reduceEqDiff]
 exact weakW_keep hR
theorem encStr : EncOk PV.str false 1 := ⟨fun a => ⟨_,rfl,rfl⟩,fun a => rfl⟩
theorem encInt : EncOk pvI false 1 := ⟨fun a => ⟨_,rfl,rfl⟩,fun a => rfl⟩
theorem encMode : EncOk pvMode true 6 := ⟨fun a => ⟨_,rfl,rfl⟩,fun a => rfl⟩
theorem c192 {l : List Str} (hl : l.length < 4611686018427387904) (s : Str) {k : LK} (σ : St) : Ret W 192 [.list k (l.map PV.str),.str s] σ (.int .i64 (idxOf (fun t => s == t) l 0)) := by
 refine ret_of fun R hR => ?_
 rw [fn192_eq]
 delta fn192 bF kF nI
 simp only [List.length_map,zz,Nat.reduceEqDiff]
 refine Lfp_up l.length (fun i x σ' => x = lookP [(0,.list k (l.map PV.str)),(1,.str s),(7,.int .i64 l.length),(8,.int .i64 i)] ∧ σ' = σ ∧ (l.take i).all (fun t => !(s == t)) = true) ?_ ⟨rfl,rfl,rfl⟩
 rintro Φ i x σ' hi ⟨rfl,rfl,hp⟩ next
 simp only [zz,Nat.reduceEqDiff]
 by_cases hlt : i < l.length
 ·have hc : l[i]? = some l[i] := by simp [hlt]
  generalize l[i] = a at hc
  simp only [hlt,encStr.index hc,encStr.part,zz,Nat.reduceEqDiff]
  cases hpa : s == a with
  | true =>
   simp only [zz,Nat.reduceEqDiff]
   refine weakW_keep ?_
   rw [idxOf_hit (p := fun t => s == t) hc hpa hp] at hR
   simpa using hR
  | false =>
   simp only [zz,Nat.reduceEqDiff]
   rw [vBin_add _ (by omega) (by omega)]
   simp only [zz,Nat.reduceEqDiff]
   exact next _ _ hlt ⟨rfl,rfl,all_take_succ hp hc (by simp [hpa])⟩
 ·obtain rfl : i = l.length := by omega
  rw [List.take_length] at hp
  simp only [hlt,zz,Nat.reduceEqDiff]
  refine weakW_keep ?_
  rw [idxOf_none hp] at hR
  exact hR
theorem c116 {l : List Str} (hl : l.length < 4611686018427387904) (s : Str) {k : LK} (σ : St) : Ret W 116 [.list k (l.map PV.str),.str s] σ (.bool (l.contains s)) := by
 refine ret_of fun R hR => ?_
 rw [fn116_eq]
 delta fn116 bF nI
 refine (c192 hl s σ).callB ?_
 simp only [idxOf_ge,zz,Nat.reduceEqDiff]
 have e : l.any (fun t => s == t) = l.contains s := by
  rw [Bool.eq_iff_iff]
  simp
 rw [e]
 exact weakW_keep hR
theorem c119 (m : ModeS) (σ : St) : Ret W 119 [pvMode m] σ (.bool (yinB m)) := by
 refine ret_of fun R hR => ?_
 rw [fn119_eq]
 delta fn119 bF pF gF nI
 have hbox : opC.vBoxAny (pvMode m) = some (6,pvMode m) := rfl
 have p0 : vPart false 1 (pvMode m) 0 = some (.int .i64 m.kind) := rfl
 simp only [hbox,p0,zz,Nat.reduceEqDiff]
 refine orG (m.kind == 13) (fun hb J nx => ?_) ?_
 ·exact nx _ rfl
 exact weakW_keep hR
theorem c120 (m : ModeS) (σ : St) : Ret W 120 [pvMode m] σ (.bool (yangB m)) := by
 refine ret_of fun R hR => ?_
 rw [fn120_eq]
 delta fn120 bF pF gF nI
 have hbox : opC.vBoxAny (pvMode m) = some (6,pvMode m) := rfl
 have p0 : vPart false 1 (pvMode m) 0 = some (.int .i64 m.kind) := rfl
 have p2 : vPart false 1 (pvMode m) 2 = some (.list m.elems.1 (m.elems.2.map pvI)) := rfl
 simp only [hbox,p0,p2,List.length_map,zz,Nat.reduceEqDiff]
 have e1 : (m.kind == 11) = structK m := rfl
 have e2 : (m.kind == 13) = procK m := rfl
 rw [e1,e2]
 unfold yangB at hR
 cases h1 : structK m with
 | true =>
  simp only [zz,Nat.reduceEqDiff]
  simp only [h1,Bool.true_or] at hR
  exact weakW_keep hR
 | false =>
  simp only [h1,Bool.false_or] at hR
  simp only [zz,Nat.reduceEqDiff]
  cases h2 : procK m with
  | false =>
   simp only [h2,Bool.false_and] at hR
   simp only [zz,Nat.reduceEqDiff]
   exact weakW_keep hR
  | true =>
   simp only [h2,Bool.true_and] at hR
   simp only [zz,Nat.reduceEqDiff]
   have e3 : decide ((m.elems.2.length : Int) > 1) = decide (m.elems.2.length > 1) := by congr 1; apply propext; omega
   rw [e3]
   exact weakW_keep hR
theorem c123 (m : ModeS) (σ : St) : Ret W 123 [pvMode m] σ (.bool true) := by
 refine ret_of fun R hR => ?_
 rw [fn123_eq]
 exact weakW_keep hR
theorem c122 {f : FuncId} {sh : ModeS → Bool} (hf : hasBody f = true) (m : ModeS) {p : PV} {σ : St} (hp : vLoad false 1 p σ = some (.func f 0 [])) (h : Ret W f [pvMode m] σ (.bool (sh m))) : Ret W 122 [pvMode m,p] σ (.bool (!sh m)) := by
 refine ret_of fun R hR => ?_
 rw [fn122_eq]
 delta fn122
 have hbox : opC.vBoxAny (pvMode m) = some (6,pvMode m) := rfl
 have pt : vPart true 6 (pvMode m) 0 = some (pvMode m) := rfl
 simp only [hbox,hp,pt,callG_func hf,zz,Nat.reduceEqDiff]
 refine h.callB ?_
 simp only [zz,Nat.reduceEqDiff]
 exact weakW_keep hR
end Go.Proofs.YteikomnahelckaaGreatDoor
namespace Go.Proofs.YteikomnahelckaaGreatDoor
open Go Go.Abs
structure Bd (m : ModeS) : Prop where
 elems : m.elems.2.length ≤ 1048576
 names : m.names.2.length ≤ 1048576
 name : ∀ s ∈ m.names.2,s.length ≤ 1048576
theorem sub_take {α : Type} {enc : α → PV} {ag : Bool} {sz : Nat} (E : EncOk enc ag sz) {k : LK} {l : List α} {i : Nat} (hi : i ≤ l.length) : vSubSl sz (.list k (l.map enc)) none (some (.int .i64 (i : Int))) = some (.list (k.sub (i == l.length)) ((l.take i).map enc)) := by
 have hs : headSized sz (l.map enc) = true := headSized_of fun x hx => by
  obtain ⟨a,_,rfl⟩ := List.mem_map.1 hx
  exact E.cells a
 simp only [vSubSl,bound,hs,List.length_map]
 simp [hi,List.map_take]
theorem once_nodup : ∀ l : List Str,onceB l = true ↔ l.Nodup
 | [] => by simp [onceB]
 | s :: l => by simp [onceB,once_nodup l]
theorem once_all {l : List Str} (h : ∀ i s,l[i]? = some s → (l.take i).contains s = false) : onceB l = true := by
 rw [once_nodup,List.Nodup,List.pairwise_iff_getElem]
 intro i j hi hj hij he
 have := h j l[j] (by simp [hj])
 have hm : l[i] ∈ l.take j := List.mem_iff_getElem?.2 ⟨i,by rw [List.getElem?_take,if_pos hij]; simp [hi]⟩
 simp only [List.contains_eq_mem,decide_eq_false_iff_not] at this
 exact this (he ▸ hm)
theorem once_bad {l : List Str} {i : Nat} {s : Str} (hs : l[i]? = some s) (h : (l.take i).contains s = true) : onceB l = false := by
 rw [Bool.eq_false_iff]
 intro ho
 rw [once_nodup,List.Nodup,List.pairwise_iff_getElem] at ho
 have hm : s ∈ l.take i := by simpa using h
 obtain ⟨j,hj⟩ := List.mem_iff_getElem?.1 hm
 rw [List.getElem?_take] at hj
 split at hj
 ·rename_i hji
  obtain ⟨hjl,hj'⟩ := List.getElem?_eq_some_iff.1 hj
  obtain ⟨hil,hi'⟩ := List.getElem?_eq_some_iff.1 hs
  exact ho j i hjl hil hji (hj'.trans hi'.symm)
 ·cases hj
theorem prefix_new {σ : St} {g : Blk} : σ <+: σ ++ [g] := List.prefix_append _ _
theorem c68 {l : List ModeS} (hl : l.length < 4611686018427387904) {m : ModeS} (hb : Bd m) {k : LK} (σ : St) : Err 68 [.list k (l.map pvMode),pvMode m] σ (plainOk l.length m = true) := by
 refine err_of fun R hR => ?_
 rw [fn68_eq]
 delta fn68 bF pF kF nI
 have b0 : opC.vBoxAny (.list k (l.map pvMode)) = some (1,.list k (l.map pvMode)) := rfl
 have b1 : opC.vBoxAny (pvMode m) = some (6,pvMode m) := rfl
 have pt : vPart true 6 (pvMode m) 0 = some (pvMode m) := rfl
 have p2 : vPart false 1 (pvMode m) 2 = some (.list m.elems.1 (m.elems.2.map pvI)) := rfl
 have p3 : vPart false 1 (pvMode m) 3 = some (.list m.names.1 (m.names.2.map PV.str)) := rfl
 have hld : vLoad false 1 (.ptr σ.length 0 0 0) (σ ++ [.arr 0 1 [.list k (l.map pvMode)]]) = some (.list k (l.map pvMode)) := load_cell (g := 0) (z := 1) (xs := [.list k (l.map pvMode)]) (x := .list k (l.map pvMode)) (by simp) rfl rfl
 simp only [b0,b1,newW_eq,Nat.zero_lt_one,if_true,pt,zz,Nat.reduceEqDiff]
 have hb1 := hb.elems
 have hb2 := hb.names
 have out : ∀ e : Int,(e = 0 ↔ plainOk l.length m = true) → weakW σ (.int .i64 e) (σ ++ [.arr 0 1 [.list k (l.map pvMode)]]) fun v σ => R (.ret v) σ := fun e he =>
  weakW_clean prefix_new (frz_same (.int _ _)) (hR e he)
 refine (c110 m _).callB fun e he => ?_
 cases hs : shapeOk m with
 | false =>
  have hne : (e != 0) = true := by
   rw [bne_iff_ne]
   intro h0
   rw [he,hs] at h0
   cases h0
  simp only [hne,zz,Nat.reduceEqDiff]
  refine out e ?_
  rw [he]
  simp [plainOk,hs]
 | true =>
 have he0 : e = 0 := he.2 hs
 have hne : (e != 0) = false := by simp [he0]
 simp only [hne,p2,p3,zz,Nat.reduceEqDiff]
 have hlen : (l.map pvMode).length < 4611686018427387904 := by simpa using hl
 refine (c73 encInt (fun i => !inN l.length i) (by kernel_rfl) (by omega) (fun a _ => by
  have := c111 hlen a hld
  rw [List.length_map] at this
  exact this)).callB ?_
 cases h1 : m.elems.2.any (fun i => !inN l.length i) with
 | true =>
  simp only [zz,Nat.reduceEqDiff]
  refine out 11 ?_
  have : m.elems.2.all (inN l.length) = false := by
   rw [List.any_eq_not_all_not] at h1
   simpa using h1
  simp [plainOk,this]
 | false =>
 have h1' : m.elems.2.all (inN l.length) = true := by
  rw [List.any_eq_not_all_not] at h1
  simpa using h1
 simp only [zz,Nat.reduceEqDiff]
 refine (c113 encStr (fun s => !tagB s) (by kernel_rfl) (by omega) (fun s hs => c114 (by have := hb.name s hs; omega) _)).callB ?_
 cases h2 : m.names.2.any (fun s => !tagB s) with
 | true =>
  simp only [zz,Nat.reduceEqDiff]
  refine out 8 ?_
  have : m.names.2.all tagB = false := by
   rw [List.any_eq_not_all_not] at h2
   simpa using h2
  simp [plainOk,this]
 | false =>
 have h2' : m.names.2.all tagB = true := by
  rw [List.any_eq_not_all_not] at h2
  simpa using h2
 simp only [List.length_map,zz,Nat.reduceEqDiff]
 refine Lfp_up m.names.2.length (fun i x σ' => x = lookP [(21,.list m.names.1 (m.names.2.map PV.str)),(22,.int .i64 m.names.2.length),(23,.int .i64 i),(3,pvMode m)] ∧ σ' = σ ++ [.arr 0 1 [.list k (l.map pvMode)]] ∧ ∀ j s,j < i → m.names.2[j]? = some s → (m.names.2.take j).contains s = false) ?_ ⟨rfl,rfl,fun j s hj => absurd hj (by omega)⟩
 rintro Φ i x σ' hi ⟨rfl,rfl,hp⟩ next
 simp only [zz,Nat.reduceEqDiff]
 by_cases hlt : i < m.names.2.length
 ·have hc : m.names.2[i]? = some m.names.2[i] := by simp [hlt]
  generalize m.names.2[i] = s at hc
  simp only [hlt,encStr.index hc,encStr.part,p3,sub_take encStr (Nat.le_of_lt hlt),zz,Nat.reduceEqDiff]
  refine (c116 (by rw [List.length_take]; omega) s _).callB ?_
  cases hcs : (m.names.2.take i).contains s with
  | true =>
   simp only [zz,Nat.reduceEqDiff]
   refine out 5 ?_
   simp [plainOk,once_bad hc hcs]
  | false =>
   simp only [zz,Nat.reduceEqDiff]
   rw [vBin_add _ (by omega) (by omega)]
   simp only [zz,Nat.reduceEqDiff]
   refine next _ _ hlt ⟨rfl,rfl,fun j d hj hd => ?_⟩
   by_cases hji : j = i
   ·subst hji
    rw [hc] at hd
    cases hd
    exact hcs
   ·exact hp j d (by omega) hd
 ·simp only [hlt,zz,Nat.reduceEqDiff]
  refine out 0 (iff_of_true rfl ?_)
  have ho : onceB m.names.2 = true := once_all fun j s hj => hp j s (by have := (List.getElem?_eq_some_iff.1 hj).1; omega) hj
  simp [plainOk,hs,h1',h2',ho]
end Go.Proofs.YteikomnahelckaaGreatDoor
namespace Go.Proofs.YteikomnahelckaaGreatDoor
open Go Go.Abs
theorem mode_at {l : List ModeS} {i : Int} (h : 0 ≤ i ∧ i.toNat < l.length ∧ (i.toNat : Int) = i) (k : LK) : vIndex 6 (.list k (l.map pvMode)) (.int .i64 i) = some (.eptr (pvMode (mAtM l i.toNat)) 0) := by
 obtain ⟨_,h1,h2⟩ := h
 have hc : l[i.toNat]? = some (mAtM l i.toNat) := by
  unfold mAtM
  rw [List.getD_eq_getElem?_getD]
  simp [h1]
 rw [← h2]
 exact encMode.index hc
theorem c117 {l : List ModeS} {k : LK} {i : Int} (h : 0 ≤ i ∧ i.toNat < l.length ∧ (i.toNat : Int) = i) {p : PV} {σ : St} (hp : vLoad false 1 p σ = some (.list k (l.map pvMode))) :
  Ret W 117 [.int .i64 i,p] σ (.bool ((mAtM l i.toNat).kind == 0)) := by
 refine ret_of fun R hR => ?_
 rw [fn117_eq]
 delta fn117 bF nI
 have p0 : vPart false 1 (pvMode (mAtM l i.toNat)) (0 + 0) = some (.int .i64 (mAtM l i.toNat).kind) := rfl
 simp only [hp,mode_at h,zz,Nat.reduceEqDiff]
 have p0 : vPart false 1 (pvMode (mAtM l i.toNat)) 0 = some (.int .i64 (mAtM l i.toNat).kind) := rfl
 simp only [p0,zz,Nat.reduceEqDiff]
 exact weakW_keep hR
theorem under_bool (n : Nat) (b : Bool) : Under n (.bool b) := .bool b
theorem c69 {l : List ModeS} (hl : l.length < 4611686018427387904) (hp : ∀ m ∈ l,plainOk l.length m = true) {m : ModeS} (hm : m ∈ l) (hb : Bd m) {k : LK} (σ : St) : Ret W 69 [.list k (l.map pvMode),pvMode m] σ (.bool (voidsB l m)) := by
 refine ret_of fun R hR => ?_
 rw [fn69_eq]
 delta fn69 bF pF nI
 have b0 : opC.vBoxAny (.list k (l.map pvMode)) = some (1,.list k (l.map pvMode)) := rfl
 have b1 : opC.vBoxAny (pvMode m) = some (6,pvMode m) := rfl
 have p0 : vPart false 1 (pvMode m) 0 = some (.int .i64 m.kind) := rfl
 have p2 : vPart false 1 (pvMode m) 2 = some (.list m.elems.1 (m.elems.2.map pvI)) := rfl
 have hld : vLoad false 1 (.ptr σ.length 0 0 0) (σ ++ [.arr 0 1 [.list k (l.map pvMode)]]) = some (.list k (l.map pvMode)) := load_cell (g := 0) (z := 1) (xs := [.list k (l.map pvMode)]) (x := .list k (l.map pvMode)) (by simp) rfl rfl
 have hb1 := hb.elems
 have e12 : (m.kind == 12) = unionK m := rfl
 have e13 : (m.kind == 13) = procK m := rfl
 simp only [b0,b1,newW_eq,Nat.zero_lt_one,if_true,p0,p2,e12,e13,zz,Nat.reduceEqDiff]
 have out : weakW σ (.bool (voidsB l m)) (σ ++ [.arr 0 1 [.list k (l.map pvMode)]]) fun v σ => R (.ret v) σ :=
  weakW_clean prefix_new (frz_same (under_bool _ _)) hR
 unfold voidsB solidE at out
 cases hu : unionK m with
 | true =>
  simp only [hu,if_true,List.any_nil] at out
  simp only [zz,Nat.reduceEqDiff]
  exact out
 | false =>
 simp only [hu,Bool.false_eq_true,if_false] at out
 simp only [zz,Nat.reduceEqDiff]
 cases hpr : procK m with
 | true =>
  simp only [hpr,if_true] at out
  have hpo := shapeOk_parts (by
   have := hp m hm
   simp only [plainOk,Bool.and_eq_true] at this
   exact this.1.1.1)
  have hk : m.kind = 13 := by simpa [procK] using hpr
  have h1 : 1 ≤ m.elems.2.length := by
   simpa [partsOk,refK,rowK,structK,procK,unionK,hk] using hpo
  simp only [List.length_map,zz,Nat.reduceEqDiff]
  rw [vBin_sub _ (by omega) (by omega)]
  have e : ((m.elems.2.length : Int) - 1) = ((m.elems.2.length - 1 : Nat) : Int) := by omega
  simp only [e,sub_take encInt (show m.elems.2.length - 1 ≤ m.elems.2.length by omega),zz,Nat.reduceEqDiff]
  refine (c73 encInt (fun i => (mAtM l i.toNat).kind == 0) (by kernel_rfl) (by rw [List.length_take]; omega) (fun a ha => c117 (plain_elem hp hm (List.mem_of_mem_take ha)) hld)).callB ?_
  rw [← List.dropLast_eq_take]
  exact out
 | false =>
  simp only [hpr,Bool.false_eq_true,if_false] at out
  simp only [zz,Nat.reduceEqDiff]
  refine (c73 encInt (fun i => (mAtM l i.toNat).kind == 0) (by kernel_rfl) (by omega) (fun a ha => c117 (plain_elem hp hm ha) hld)).callB ?_
  exact out
end Go.Proofs.YteikomnahelckaaGreatDoor
