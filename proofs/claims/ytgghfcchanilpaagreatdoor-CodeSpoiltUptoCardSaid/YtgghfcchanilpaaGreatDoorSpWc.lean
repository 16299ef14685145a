import Derived.Test.YtgghfcchanilpaaGreatDoorSpWb
import Derived.Test.YtgghfcchanilpaaGreatDoorOpsC
set_option linter.unusedVariables false
set_option linter.unusedSimpArgs false
namespace Go.Proofs.YtgghfcchanilpaaGreatDoor
open Go Go.Abs
def qb (p : Nat) : Blk := .arr 0 1 [.ptr p 0 0 0]
theorem Wr.held {p q : Nat} {H : List (Nat × Blk)} {τ : St} {out : Str} (h : Wr p H τ out) (hq : (q,qb p) ∈ H) : vLoad false 1 (.ptr q 0 0 0) τ = some (.ptr p 0 0 0) := by
 obtain ⟨v,_,hH,_⟩ := h
 have := (hH _ hq).1
 simp only at this
 simp [vLoad,this,qb,vPart,PV.cells?]
theorem Wr.hold {p : Nat} {H : List (Nat × Blk)} {τ : St} {out : Str} (h : Wr p H τ out) (k : Blk) : Wr p ((τ.length,k) :: H) (τ ++ [k]) out := by
 obtain ⟨v,hp,hH,hv⟩ := h
 have hpl : p < τ.length := (List.getElem?_eq_some_iff.1 hp).1
 refine ⟨v,by rw [List.getElem?_append_left hpl]; exact hp,fun h hh => ?_,?_⟩
 ·rcases List.mem_cons.1 hh with rfl | hh
  ·exact ⟨by simp,by simp only; omega⟩
  ·obtain ⟨q1,q2⟩ := hH h hh
   exact ⟨by rw [List.getElem?_append_left (List.getElem?_eq_some_iff.1 q1).1]; exact q1,q2⟩
 ·rcases hv with h1 | ⟨b,g,h1,h2,h3,h4⟩
  ·exact .inl h1
  ·have hbl : b < τ.length := (List.getElem?_eq_some_iff.1 h2).1
   refine .inr ⟨b,g,h1,by rw [List.getElem?_append_left hbl]; exact h2,h3,fun h hh => ?_⟩
   rcases List.mem_cons.1 hh with rfl | hh
   ·simp only; omega
   ·exact h4 h hh
theorem Wr.drop {p : Nat} {H : List (Nat × Blk)} {h : Nat × Blk} {τ : St} {out : Str} (w : Wr p (h :: H) τ out) : Wr p H τ out := by
 obtain ⟨v,hp,hH,hv⟩ := w
 refine ⟨v,hp,fun h hh => hH h (List.mem_cons_of_mem _ hh),?_⟩
 rcases hv with h1 | ⟨b,g,h1,h2,h3,h4⟩
 ·exact .inl h1
 ·exact .inr ⟨b,g,h1,h2,h3,fun h hh => h4 h (List.mem_cons_of_mem _ hh)⟩
theorem nil_sub {H : List (Nat × Blk)} : ∀ h ∈ ([] : List (Nat × Blk)),h ∈ H := fun h hh => by cases hh
theorem one_sub {q : Nat × Blk} {H : List (Nat × Blk)} (h : q ∈ H) : ∀ x ∈ [q],x ∈ H := fun x hx => by
 rcases List.mem_cons.1 hx with rfl | hx
 ·exact h
 ·cases hx
theorem slot_flds (s : SlotS) : opC.vBoxAny (pvSlot s) = some (5,pvSlot s) ∧ vPart false 1 (pvSlot s) 0 = some (.int .i64 s.kind) ∧ vPart false 1 (pvSlot s) 1 = some (.int .i64 s.size) ∧ vPart false 1 (pvSlot s) 2 = some (.int .i64 s.map) ∧ vPart false 1 (pvSlot s) 3 = some (.int .i64 s.dims) ∧ vPart false 1 (pvSlot s) 4 = some (.bool s.flex) := ⟨rfl,rfl,rfl,rfl,rfl,rfl⟩
theorem sig_box (s : Int × Int) : opC.vBoxAny (pvSig s) = some (2,pvSig s) := rfl
theorem range_parts' (r : RangeS) : opC.vBoxAny (pvRange r) = some (3,pvRange r) ∧ vPart false 1 (pvRange r) 0 = some (.int .i64 r.outer) ∧ vPart false 1 (pvRange r) 1 = some (.int .i64 r.fr) ∧ vPart false 1 (pvRange r) 2 = some (.int .i64 r.to) := ⟨rfl,rfl,rfl,rfl⟩
theorem trans_parts' (t : TransS) : opC.vBoxAny (pvTrans t) = some (3,pvTrans t) ∧ vPart false 1 (pvTrans t) 0 = some (.str t.word) ∧ vPart false 1 (pvTrans t) 1 = some (.bool t.file) ∧ vPart false 1 (pvTrans t) 2 = some (.int .i64 t.map) := ⟨rfl,rfl,rfl,rfl⟩
theorem c145 {p : Nat} {s : SlotS} (hs : SlotI s) : Puts 145 [.ptr p 0 0 0,pvSlot s] p [] (slotW s) := puts_of fun H τ out R h0 hw hr hR => by
 rw [fn145_eq]
 delta fn145 pF
 simp only [slotW,List.length_append] at hr
 simp only [slot_flds,zz,Nat.reduceEqDiff]
 refine (c150 hs.1).callB nil_sub hw (by omega) fun τ hw => ?_
 refine (c150 hs.2.1).callB nil_sub hw (by simp only [List.length_append]; omega) fun τ hw => ?_
 refine (c150 hs.2.2.1).callB nil_sub hw (by simp only [List.length_append]; omega) fun τ hw => ?_
 refine (c150 hs.2.2.2).callB nil_sub hw (by simp only [List.length_append]; omega) fun τ hw => ?_
 refine c159.callB nil_sub hw (by simp only [List.length_append]; omega) fun τ hw => ?_
 exact weakW_keep (hR _ (by simpa only [slotW,List.append_assoc] using hw))
theorem c147 {p : Nat} {l : Sl Int} (hl : l.2.length ≤ 1048576) (hi : ∀ n ∈ l.2,InI n) : Puts 147 [.ptr p 0 0 0,pvInts l] p [] (intsW l.2) := puts_of fun H τ out R h0 hw hr hR => by
 rw [fn147_eq]
 delta fn147
 refine (c246 hl (by kernel_rfl) (f := numB) fun n hn => c150 (hi n hn)).callB nil_sub hw hr fun τ hw => ?_
 exact weakW_keep (hR _ hw)
theorem c143 {p q : Nat} {m : Sl SlotS} (hl : m.2.length ≤ 1048576) (hi : ∀ s ∈ m.2,SlotI s) : Puts 143 [pvMap m,.ptr q 0 0 0] p [(q,qb p)] (mapW m.2) := puts_of fun H τ out R h0 hw hr hR => by
 rw [fn143_eq]
 delta fn143 pF
 have hq : (q,qb p) ∈ H := h0 (q,qb p) (by simp)
 simp only [map_parts,hw.held hq,zz,Nat.reduceEqDiff]
 refine (c144 hl (by kernel_rfl) (f := slotW) fun s hs => c145 (hi s hs)).callB nil_sub hw hr fun τ hw => ?_
 exact weakW_keep (hR _ hw)
theorem c149 {p q : Nat} {s : Int × Int} (hs : SigI s) : Puts 149 [pvSig s,.ptr q 0 0 0] p [(q,qb p)] (sigW s) := puts_of fun H τ out R h0 hw hr hR => by
 rw [fn149_eq]
 delta fn149 pF
 have hq : (q,qb p) ∈ H := h0 (q,qb p) (by simp)
 simp only [sigW,List.length_append] at hr
 simp only [sig_box,put_sig,hw.held hq,zz,Nat.reduceEqDiff]
 refine (c150 hs.1).callB nil_sub hw (by omega) fun τ hw => ?_
 simp only [hw.held hq,zz,Nat.reduceEqDiff]
 refine (c150 hs.2).callB nil_sub hw (by simp only [List.length_append]; omega) fun τ hw => ?_
 exact weakW_keep (hR _ (by simpa only [sigW,List.append_assoc] using hw))
theorem c161 {p q : Nat} {s : Int × Int} (hs : SigI s) : Puts 161 [pvSig s,.ptr q 0 0 0] p [(q,qb p)] (sigW s) := puts_of fun H τ out R h0 hw hr hR => by
 rw [fn161_eq]
 delta fn161 pF
 have hq : (q,qb p) ∈ H := h0 (q,qb p) (by simp)
 simp only [sigW,List.length_append] at hr
 simp only [sig_box,put_sig,hw.held hq,zz,Nat.reduceEqDiff]
 refine (c150 hs.1).callB nil_sub hw (by omega) fun τ hw => ?_
 simp only [hw.held hq,zz,Nat.reduceEqDiff]
 refine (c150 hs.2).callB nil_sub hw (by simp only [List.length_append]; omega) fun τ hw => ?_
 exact weakW_keep (hR _ (by simpa only [sigW,List.append_assoc] using hw))
theorem c249 {p q : Nat} {r : RangeS} (hs : RangeI r) : Puts 249 [pvRange r,.ptr q 0 0 0] p [(q,qb p)] (rangeW r) := puts_of fun H τ out R h0 hw hr hR => by
 rw [fn249_eq]
 delta fn249 pF
 have hq : (q,qb p) ∈ H := h0 (q,qb p) (by simp)
 simp only [rangeW,List.length_append] at hr
 simp only [range_parts',hw.held hq,zz,Nat.reduceEqDiff]
 refine (c150 hs.1).callB nil_sub hw (by omega) fun τ hw => ?_
 simp only [hw.held hq,zz,Nat.reduceEqDiff]
 refine (c150 hs.2.1).callB nil_sub hw (by simp only [List.length_append]; omega) fun τ hw => ?_
 simp only [hw.held hq,zz,Nat.reduceEqDiff]
 refine (c150 hs.2.2).callB nil_sub hw (by simp only [List.length_append]; omega) fun τ hw => ?_
 exact weakW_keep (hR _ (by simpa only [rangeW,List.append_assoc] using hw))
theorem c158 {p q : Nat} {t : TransS} (hs : TransI t) : Puts 158 [pvTrans t,.ptr q 0 0 0] p [(q,qb p)] (transW t) := puts_of fun H τ out R h0 hw hr hR => by
 rw [fn158_eq]
 delta fn158 pF
 have hq : (q,qb p) ∈ H := h0 (q,qb p) (by simp)
 simp only [transW,List.length_append] at hr
 simp only [trans_parts',hw.held hq,zz,Nat.reduceEqDiff]
 refine c156.callB nil_sub hw (by omega) fun τ hw => ?_
 simp only [hw.held hq,zz,Nat.reduceEqDiff]
 refine c159.callB nil_sub hw (by simp only [List.length_append]; omega) fun τ hw => ?_
 simp only [hw.held hq,zz,Nat.reduceEqDiff]
 refine (c150 hs.2).callB nil_sub hw (by simp only [List.length_append]; omega) fun τ hw => ?_
 exact weakW_keep (hR _ (by simpa only [transW,List.append_assoc] using hw))
theorem oper_fld (o : OperS) : vPart false 1 (pvOper o) 0 = some (.int .i64 o.k) ∧ vPart false 1 (pvOper o) 1 = some (.int .i64 o.a) ∧ vPart false 1 (pvOper o) 2 = some (.int .i64 o.b) := ⟨rfl,rfl,rfl⟩
theorem c154 {p : Nat} {i : InstS} (hi : InstI i) : Puts 154 [.ptr p 0 0 0,pvInst i] p [] (instW i) := puts_of fun H τ out R h0 hw hr hR => by
 rw [fn154_eq]
 delta fn154 bF pF kF nI
 obtain ⟨i1,i2,i3,i4,i5,i6⟩ := hi
 have hiw : instW i = numB i.op ++ (([i.s,i.t,i.d].flatMap operW) ++ (numB i.n ++ numB i.k)) := by
  simp [instW,List.append_assoc]
 rw [hiw] at hr hR
 simp only [List.length_append] at hr
 simp only [inst_parts3,inst_opers,b3_opers,zz,Nat.reduceEqDiff]
 refine (c150 i1).callB nil_sub hw (by omega) fun τ hw => ?_
 have hop : ∀ o ∈ [i.s,i.t,i.d],OperI o := by
  intro o ho
  simp at ho
  rcases ho with rfl | rfl | rfl
  ·exact i2
  ·exact i3
  ·exact i4
 have h3 : [i.s,i.t,i.d].length = 3 := rfl
 generalize [i.s,i.t,i.d] = l at hr hR hop h3
 refine CutW_by (fun x τ' => x 0 = .ptr p 0 0 0 ∧ x 3 = pvInst i ∧ Wr p H τ' ((out ++ numB i.op) ++ l.flatMap operW)) (fun x τ' hx => ?_) ?_
 ·obtain ⟨q0,q3,hw⟩ := hx
  simp only [q0,q3,inst_parts3,zz,Nat.reduceEqDiff]
  refine (c247 i5).callB nil_sub hw (by simp only [List.length_append]; omega) fun τ hw => ?_
  refine (c150 i6).callB nil_sub hw (by simp only [List.length_append]; omega) fun τ hw => ?_
  exact weakW_keep (hR _ (by simpa only [List.append_assoc] using hw))
 simp only [List.length_map,h3,zz,Nat.reduceEqDiff]
 refine Lfp_up 3 (fun j x τ' => x = lookP [(0,.ptr p 0 0 0),(16,.list .full (l.map pvOper)),(17,.int .i64 3),(18,.int .i64 j),(3,pvInst i)] ∧ Wr p H τ' ((out ++ numB i.op) ++ (l.take j).flatMap operW)) ?_ ⟨rfl,by simpa using hw⟩
 rintro Φ j x τ' hj ⟨rfl,hw⟩ next
 by_cases hlt : j < 3
 ·have hg' : l[j]? = some l[j] := by simp [h3,hlt]
  have hmem : l[j] ∈ l := by simp
  have htake : l.take (j + 1) = l.take j ++ [l[j]] := by rw [List.take_add_one,hg']; rfl
  generalize l[j] = a at hg' hmem htake
  have hfl : (l.take (j + 1)).flatMap operW = (l.take j).flatMap operW ++ operW a := by rw [htake,List.flatMap_append]; simp
  have hb := flat_take operW l (j + 1)
  rw [hfl,List.length_append] at hb
  simp only [operW,List.length_append] at hb
  have e3 : decide ((j : Int) < 3) = true := decide_eq_true (by omega)
  have hio : vIndex 3 (.list .full (l.map pvOper)) (.int .i64 j) = some (.eptr (pvOper a) 0) := encOper3.index hg'
  obtain ⟨o1,o2,o3⟩ := hop a hmem
  simp only [e3,hio,encOper3.part,put_oper3,oper_fld,zz,Nat.reduceEqDiff]
  refine (c150 o1).callB nil_sub hw (by simp only [List.length_append]; omega) fun τ hw => ?_
  refine (c150 o2).callB nil_sub hw (by simp only [List.length_append]; omega) fun τ hw => ?_
  refine (c150 o3).callB nil_sub hw (by simp only [List.length_append]; omega) fun τ hw => ?_
  rw [vBin_add _ (by omega) (by omega)]
  simp only [zz,Nat.reduceEqDiff]
  refine next _ _ hlt ⟨rfl,?_⟩
  rw [hfl]
  simpa only [operW,List.append_assoc] using hw
 ·obtain rfl : j = 3 := by omega
  have e3 : decide (((3 : Nat) : Int) < 3) = false := rfl
  have ht3 : l.take 3 = l := List.take_of_length_le (by omega)
  rw [ht3] at hw
  simp only [e3,zz,Nat.reduceEqDiff]
  exact ⟨trivial,trivial,hw⟩
def routInts (r : RoutS) : List Int := [r.sig,r.frame,r.fr,r.to,r.outer,r.within,r.level,r.needs]
theorem b8_rout (r : RoutS) : vBuildSl 1 (List.replicate 8 (.int .i64 0)) [(0,.int .i64 r.sig),(1,.int .i64 r.frame),(2,.int .i64 r.fr),(3,.int .i64 r.to),(4,.int .i64 r.outer),(5,.int .i64 r.within),(6,.int .i64 r.level),(7,.int .i64 r.needs)] = some ((routInts r).map pvI) := rfl
theorem rout_parts8 (r : RoutS) : opC.vBoxAny (pvRout r) = some (9,pvRout r) ∧ vPart false 1 (pvRout r) 0 = some (.int .i64 r.sig) ∧ vPart false 1 (pvRout r) 1 = some (.int .i64 r.frame) ∧ vPart false 1 (pvRout r) 2 = some (.int .i64 r.fr) ∧ vPart false 1 (pvRout r) 3 = some (.int .i64 r.to) ∧ vPart false 1 (pvRout r) 4 = some (.int .i64 r.outer) ∧ vPart false 1 (pvRout r) 5 = some (.int .i64 r.within) ∧
 vPart false 1 (pvRout r) 6 = some (.int .i64 r.level) ∧ vPart false 1 (pvRout r) 7 = some (.int .i64 r.needs) ∧ vPart false 1 (pvRout r) 8 = some (pvSl pvRange r.ranges) := ⟨rfl,rfl,rfl,rfl,rfl,rfl,rfl,rfl,rfl,rfl⟩
theorem ptr_box (p : Nat) : opC.vBoxAny (.ptr p 0 0 0) = some (1,.ptr p 0 0 0) := rfl
theorem c152 {p : Nat} {r : RoutS} (hl : r.ranges.2.length ≤ 1048576) (hi : RoutI (routL r)) : Puts 152 [.ptr p 0 0 0,pvRout r] p [] (routW (routL r)) := puts_of fun H τ out R h0 hw hr hR => by
 rw [fn152_eq]
 delta fn152 bF pF kF nI
 obtain ⟨i1,i2,i3,i4,i5,i6,i7,i8,-,i9⟩ := hi
 have hrw : routW (routL r) = (routInts r).flatMap numB ++ listB rangeW r.ranges.2 := by
  simp [routW,routL,routInts,List.append_assoc]
 rw [hrw] at hr hR
 simp only [List.length_append] at hr
 have hii : ∀ n ∈ routInts r,InI n := by
  intro n hn
  simp [routInts] at hn
  rcases hn with rfl | rfl | rfl | rfl | rfl | rfl | rfl | rfl
  ·exact i1
  ·exact i2
  ·exact i3
  ·exact i4
  ·exact i5
  ·exact i6
  ·exact i7
  ·exact i8
 have h8 : (routInts r).length = 8 := rfl
 have h01 : (0 : Nat) < 1 := by omega
 simp only [ptr_box,h01,if_true,newW_eq,rout_parts8,b8_rout,zz,Nat.reduceEqDiff]
 generalize routInts r = l at hr hR hii h8
 have hw := hw.hold (qb p)
 have hqb : (Blk.arr 0 1 [.ptr p 0 0 0]) = qb p := rfl
 rw [hqb]
 generalize hH : (τ.length,qb p) :: H = H' at hw
 have hq : (τ.length,qb p) ∈ H' := by rw [← hH]; simp
 generalize τ.length = q at hH hq
 refine CutW_by (fun x τ' => x 2 = .ptr q 0 0 0 ∧ x 3 = pvRout r ∧ Wr p H' τ' (out ++ l.flatMap numB)) (fun x τ' hx => ?_) ?_
 ·obtain ⟨q2,q3,hw⟩ := hx
  simp only [q2,q3,hw.held hq,rout_parts8,zz,Nat.reduceEqDiff]
  refine (c248 hl (by kernel_rfl) (H0 := [(q,qb p)]) (f := rangeW) fun g hg => c249 (i9 g hg)).callB (one_sub hq) hw (by simp only [List.length_append]; omega) fun τ hw => ?_
  rw [List.append_assoc,← hH] at hw
  exact weakW_keep (hR _ hw.drop)
 simp only [List.length_map,h8,zz,Nat.reduceEqDiff]
 refine Lfp_up 8 (fun j x τ' => x = lookP [(2,.ptr q 0 0 0),(22,.list .full (l.map pvI)),(23,.int .i64 8),(24,.int .i64 j),(3,pvRout r)] ∧ Wr p H' τ' (out ++ (l.take j).flatMap numB)) ?_ ⟨rfl,by simpa using hw⟩
 rintro Φ j x τ' hj ⟨rfl,hw⟩ next
 by_cases hlt : j < 8
 ·have hg' : l[j]? = some l[j] := by simp [h8,hlt]
  have hmem : l[j] ∈ l := by simp
  have htake : l.take (j + 1) = l.take j ++ [l[j]] := by rw [List.take_add_one,hg']; rfl
  generalize l[j] = a at hg' hmem htake
  have hfl : (l.take (j + 1)).flatMap numB = (l.take j).flatMap numB ++ numB a := by rw [htake,List.flatMap_append]; simp
  have hb := flat_take numB l (j + 1)
  rw [hfl,List.length_append] at hb
  have e3 : decide ((j : Int) < 8) = true := decide_eq_true (by omega)
  have hio : vIndex 1 (.list .full (l.map pvI)) (.int .i64 j) = some (.eptr (pvI a) 0) := encI.index hg'
  have hpv : pvI a = .int .i64 a := rfl
  simp only [e3,hio,encI.part,hpv,hw.held hq,zz,Nat.reduceEqDiff]
  refine (c150 (hii a hmem)).callB nil_sub hw (by simp only [List.length_append]; omega) fun τ hw => ?_
  rw [vBin_add _ (by omega) (by omega)]
  simp only [zz,Nat.reduceEqDiff]
  refine next _ _ hlt ⟨rfl,?_⟩
  rw [hfl]
  simpa only [List.append_assoc] using hw
 ·obtain rfl : j = 8 := by omega
  have e3 : decide (((8 : Nat) : Int) < 8) = false := rfl
  have ht3 : l.take 8 = l := List.take_of_length_le (by omega)
  rw [ht3] at hw
  simp only [e3,zz,Nat.reduceEqDiff]
  exact ⟨trivial,trivial,hw⟩
theorem listB_map {α β : Type} (f : β → Str) (g : α → β) (l : List α) : listB (fun a => f (g a)) l = listB f (l.map g) := by
 simp [listB,List.flatMap_map]
theorem putsP {c : CodeS} (hc : Okay c) (hi : CodeI (codeL c)) (p : Nat) :
  (∀ q,Puts 142 [.ptr p 0 0 0,pvSl pvMap c.maps,.func 143 0 [.ptr q 0 0 0]] p [(q,qb p)] (listB mapW (codeL c).maps)) ∧
  Puts 146 [.ptr p 0 0 0,pvSl pvInts c.unions,.func 147 1 [.ptr p 0 0 0]] p [] (listB intsW (codeL c).unions) ∧
  (∀ q,Puts 148 [.ptr p 0 0 0,pvSl pvSig c.sigs,.func 149 0 [.ptr q 0 0 0]] p [(q,qb p)] (listB sigW (codeL c).sigs)) ∧
  Puts 151 [.ptr p 0 0 0,pvSl pvRout c.routs,.func 152 1 [.ptr p 0 0 0]] p [] (listB routW (codeL c).routs) ∧
  Puts 153 [.ptr p 0 0 0,pvSl pvInst c.insts,.func 154 1 [.ptr p 0 0 0]] p [] (listB instW (codeL c).insts) ∧
  Puts 146 [.ptr p 0 0 0,pvSl pvInts c.jumps,.func 147 1 [.ptr p 0 0 0]] p [] (listB intsW (codeL c).jumps) ∧
  Puts 146 [.ptr p 0 0 0,pvSl pvInts c.parts,.func 147 1 [.ptr p 0 0 0]] p [] (listB intsW (codeL c).parts) ∧
  Puts 155 [.ptr p 0 0 0,pvSl PV.str c.texts,.func 156 1 [.ptr p 0 0 0]] p [] (listB textB (codeL c).texts) ∧
  (∀ q,Puts 157 [.ptr p 0 0 0,pvSl pvTrans c.trans,.func 158 0 [.ptr q 0 0 0]] p [(q,qb p)] (listB transW (codeL c).trans)) ∧
  (∀ q,Puts 160 [.ptr p 0 0 0,pvSl pvSig c.lines,.func 161 0 [.ptr q 0 0 0]] p [(q,qb p)] (listB sigW (codeL c).lines)) := by
 have e1 : listB mapW (codeL c).maps = listB (fun m : Sl SlotS => mapW m.2) c.maps.2 := (listB_map mapW (fun m : Sl SlotS => m.2) c.maps.2).symm
 have e2 : listB intsW (codeL c).unions = listB (fun m : Sl Int => intsW m.2) c.unions.2 := (listB_map intsW (fun m : Sl Int => m.2) c.unions.2).symm
 have e4 : listB routW (codeL c).routs = listB (fun r : RoutS => routW (routL r)) c.routs.2 := (listB_map routW routL c.routs.2).symm
 have e6 : listB intsW (codeL c).jumps = listB (fun m : Sl Int => intsW m.2) c.jumps.2 := (listB_map intsW (fun m : Sl Int => m.2) c.jumps.2).symm
 have e7 : listB intsW (codeL c).parts = listB (fun m : Sl Int => intsW m.2) c.parts.2 := (listB_map intsW (fun m : Sl Int => m.2) c.parts.2).symm
 have m1 : ∀ m ∈ c.maps.2,∀ s ∈ m.2,SlotI s := fun m hm => (hi.maps.2 m.2 (List.mem_map_of_mem (f := (·.2)) hm)).2
 have m2 : ∀ m ∈ c.unions.2,∀ s ∈ m.2,InI s := fun m hm => (hi.unions.2 m.2 (List.mem_map_of_mem (f := (·.2)) hm)).2
 have m4 : ∀ r ∈ c.routs.2,RoutI (routL r) := fun m hm => hi.routs.2 (routL m) (List.mem_map_of_mem (f := routL) hm)
 have m6 : ∀ m ∈ c.jumps.2,∀ s ∈ m.2,InI s := fun m hm => (hi.jumps.2 m.2 (List.mem_map_of_mem (f := (·.2)) hm)).2
 have m7 : ∀ m ∈ c.parts.2,∀ s ∈ m.2,InI s := fun m hm => (hi.parts.2 m.2 (List.mem_map_of_mem (f := (·.2)) hm)).2
 rw [e1,e2,e4,e6,e7]
 exact ⟨fun q => c142 hc.maps (by kernel_rfl) fun m hm => c143 (hc.slots m hm) (m1 m hm),c146 hc.unions (by kernel_rfl) fun m hm => c147 (hc.union m hm) (m2 m hm),fun q => c148 hc.sigs (by kernel_rfl) fun m hm => c149 (hi.sigs.2 m hm),
  c151 hc.routs (by kernel_rfl) fun m hm => c152 (hc.ranges m hm) (m4 m hm),c153 hc.insts (by kernel_rfl) fun m hm => c154 (hi.insts.2 m hm),c146 hc.jumps (by kernel_rfl) fun m hm => c147 (hc.jump m hm) (m6 m hm),c146 hc.parts (by kernel_rfl) fun m hm => c147 (hc.part m hm) (m7 m hm),
  c155 hc.texts (by kernel_rfl) fun m hm => c156,fun q => c157 hc.trans (by kernel_rfl) fun m hm => c158 (hi.trans.2 m hm),fun q => c160 hc.lines (by kernel_rfl) fun m hm => c161 (hi.lines.2 m hm)⟩
theorem c77 {p : Nat} {c : CodeS} (hc : Okay c) (hi : CodeI (codeL c)) : Puts 77 [.ptr p 0 0 0,pvCode c] p [] (codeW (codeL c)) := puts_of fun H τ out R h0 hw hr hR => by
 rw [fn77_eq]
 delta fn77 pF
 obtain ⟨P1,P2,P3,P4,P5,P6,P7,P8,P9,P10⟩ := putsP hc hi p
 have h01 : (0 : Nat) < 1 := by omega
 simp only [ptr_box,h01,if_true,newW_eq,code_parts,zz,Nat.reduceEqDiff]
 have hw := hw.hold (qb p)
 have hqb : (Blk.arr 0 1 [.ptr p 0 0 0]) = qb p := rfl
 rw [hqb]
 simp only [codeW,List.length_append] at hr hR
 generalize listB mapW (codeL c).maps = A1 at hr hR P1
 generalize listB intsW (codeL c).unions = A2 at hr hR P2
 generalize listB sigW (codeL c).sigs = A3 at hr hR P3
 generalize listB routW (codeL c).routs = A4 at hr hR P4
 generalize listB instW (codeL c).insts = A5 at hr hR P5
 generalize listB intsW (codeL c).jumps = A6 at hr hR P6
 generalize listB intsW (codeL c).parts = A7 at hr hR P7
 generalize listB textB (codeL c).texts = A8 at hr hR P8
 generalize listB transW (codeL c).trans = A9 at hr hR P9
 generalize listB sigW (codeL c).lines = A10 at hr hR P10
 generalize hH : (τ.length,qb p) :: H = H' at hw
 have hq : (τ.length,qb p) ∈ H' := by rw [← hH]; simp
 generalize τ.length = q at hH hq
 simp only [hw.held hq,zz,Nat.reduceEqDiff]
 refine (P1 q).callB (one_sub hq) hw (by omega) fun τ hw => ?_
 simp only [hw.held hq,zz,Nat.reduceEqDiff]
 refine P2.callB nil_sub hw (by simp only [List.length_append]; omega) fun τ hw => ?_
 simp only [hw.held hq,zz,Nat.reduceEqDiff]
 refine (P3 q).callB (one_sub hq) hw (by simp only [List.length_append]; omega) fun τ hw => ?_
 simp only [hw.held hq,zz,Nat.reduceEqDiff]
 refine P4.callB nil_sub hw (by simp only [List.length_append]; omega) fun τ hw => ?_
 simp only [hw.held hq,zz,Nat.reduceEqDiff]
 refine P5.callB nil_sub hw (by simp only [List.length_append]; omega) fun τ hw => ?_
 simp only [hw.held hq,zz,Nat.reduceEqDiff]
 refine P6.callB nil_sub hw (by simp only [List.length_append]; omega) fun τ hw => ?_
 simp only [hw.held hq,zz,Nat.reduceEqDiff]
 refine P7.callB nil_sub hw (by simp only [List.length_append]; omega) fun τ hw => ?_
 simp only [hw.held hq,zz,Nat.reduceEqDiff]
 refine P8.callB nil_sub hw (by simp only [List.length_append]; omega) fun τ hw => ?_
 simp only [hw.held hq,zz,Nat.reduceEqDiff]
 refine (P9 q).callB (one_sub hq) hw (by simp only [List.length_append]; omega) fun τ hw => ?_
 simp only [hw.held hq,zz,Nat.reduceEqDiff]
 refine (P10 q).callB (one_sub hq) hw (by simp only [List.length_append]; omega) fun τ hw => ?_
 rw [← hH] at hw
 exact weakW_keep (hR _ (by simpa only [List.append_assoc] using hw.drop))
end Go.Proofs.YtgghfcchanilpaaGreatDoor
