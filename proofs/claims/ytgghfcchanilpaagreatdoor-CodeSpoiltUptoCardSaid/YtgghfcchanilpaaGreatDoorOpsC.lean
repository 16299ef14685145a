import Derived.Test.YtgghfcchanilpaaGreatDoorPlC
import Derived.Test.YtgghfcchanilpaaGreatDoorPlJ
set_option linter.unusedVariables false
set_option linter.unusedSimpArgs false
namespace Go.Proofs.YtgghfcchanilpaaGreatDoor
open Go Go.Abs Go.ChangeShapes Go.WideShapes Go.ChangeAt Go.RowKit
section
variable {H : Type} {encH : TypeId × Value → H} {W : World}
theorem bulk_mem {d : DataW H} : ∀ {l : List (DataW H)},d ∈ l → Rows.uptoBulk d ≤ Rows.uptoBulkAll l
 | x :: r,h => by
  simp only [Rows.uptoBulkAll]
  rcases List.mem_cons.1 h with rfl | h
  ·omega
  ·have := bulk_mem h
   omega
theorem bulk_one : ∀ d : DataW H,1 ≤ Rows.uptoBulk d
 | .lit (.string b) => by simp [Rows.uptoBulk]
 | .lit (.bool _) => by simp [Rows.uptoBulk]
 | .lit (.int _ _) => by simp [Rows.uptoBulk]
 | .lit (.float _ _) => by simp [Rows.uptoBulk]
 | .lit .nil => by simp [Rows.uptoBulk]
 | .nil => by simp [Rows.uptoBulk]
 | .ptr _ => by simp [Rows.uptoBulk]
 | .slice _ _ => by simp [Rows.uptoBulk]
 | .agg _ => by simp [Rows.uptoBulk]
 | .iface _ _ => by simp [Rows.uptoBulk]
 | .map _ => by simp [Rows.uptoBulk]
 | .held _ => by simp [Rows.uptoBulk]
theorem bulk_len : ∀ l : List (DataW H),l.length ≤ Rows.uptoBulkAll l
 | [] => Nat.zero_le _
 | d :: l => by
  have h1 := bulk_one d
  have h2 := bulk_len l
  simp only [Rows.uptoBulkAll,List.length_cons]
  omega
theorem bulk_sl {α : Type} {dat : α → DataW H → Prop} {p : Sl α} {d : DataW H} {n : Nat} (h : datSl dat p d) (hb : Rows.uptoBulk d ≤ n) : p.2.length ≤ n ∧ ∀ a ∈ p.2,∃ e,dat a e ∧ Rows.uptoBulk e ≤ n := by
 rcases h with ⟨rfl,rfl⟩ | ⟨es,sp,rfl,_,hl,hr⟩
 ·exact ⟨Nat.zero_le _,fun a ha => by cases ha⟩
 ·simp only [Rows.uptoBulk] at hb
  refine ⟨?_,fun a ha => ?_⟩
  ·have := bulk_len es
   omega
  ·obtain ⟨i,hi⟩ := List.getElem?_of_mem ha
   have hil : i < es.length := by rw [← hl]; exact (List.getElem?_eq_some_iff.1 hi).1
   have he : es[i]? = some es[i] := by simp [hil]
   refine ⟨es[i],hr i a _ hi he,?_⟩
   have := bulk_mem (List.mem_of_getElem? he)
   omega
theorem bulk_str {s : Str} {d : DataW H} {n : Nat} (h : dStr s d) (hb : Rows.uptoBulk d ≤ n) : s.length ≤ n := by
 subst h
 simp only [Rows.uptoBulk] at hb
 omega
theorem bulk_agg {d : DataW H} {l : List (DataW H)} {n : Nat} (hb : Rows.uptoBulk (.agg l : DataW H) ≤ n) (hd : d ∈ l) : Rows.uptoBulk d ≤ n := by
 simp only [Rows.uptoBulk] at hb
 have := bulk_mem hd
 omega
theorem sl_all {α : Type} {dat : α → DataW H → Prop} {Q : α → Prop} (hQ : ∀ a e,dat a e → Q a) {p : Sl α} {d : DataW H} (h : datSl dat p d) : ∀ a ∈ p.2,Q a := fun a ha => by
 obtain ⟨e,he,_⟩ := (bulk_sl h (Nat.le_refl _)).2 a ha
 exact hQ a e he
abbrev dSlot (s : SlotS) (d : DataW H) : Prop := ∃ a b c e f,d = .agg [a,b,c,e,f] ∧ dInt s.kind a ∧ dInt s.size b ∧ dInt s.map c ∧ dInt s.dims e ∧ dBool s.flex f
abbrev dMap (m : Sl SlotS) (d : DataW H) : Prop := ∃ a,d = .agg [a] ∧ datSl dSlot m a
abbrev dInts (l : Sl Int) (d : DataW H) : Prop := datSl dInt l d
abbrev dSig (p : Int × Int) (d : DataW H) : Prop := ∃ a b,d = .agg [a,b] ∧ dInt p.1 a ∧ dInt p.2 b
abbrev dRange (r : RangeS) (d : DataW H) : Prop := ∃ a b c,d = .agg [a,b,c] ∧ dInt r.outer a ∧ dInt r.fr b ∧ dInt r.to c
abbrev dRout (r : RoutS) (d : DataW H) : Prop := ∃ a b c e f g h i j,d = .agg [a,b,c,e,f,g,h,i,j] ∧ dInt r.sig a ∧ dInt r.frame b ∧ dInt r.fr c ∧ dInt r.to e ∧ dInt r.outer f ∧ dInt r.within g ∧ dInt r.level h ∧ dInt r.needs i ∧ datSl dRange r.ranges j
abbrev dTrans (t : TransS) (d : DataW H) : Prop := ∃ a b c,d = .agg [a,b,c] ∧ dStr t.word a ∧ dBool t.file b ∧ dInt t.map c
abbrev dCode (c : CodeS) (d : DataW H) : Prop := ∃ m u s r i j p t x l,d = .agg [m,u,s,r,i,j,p,t,x,l] ∧ datSl dMap c.maps m ∧ datSl dInts c.unions u ∧ datSl dSig c.sigs s ∧ datSl dRout c.routs r ∧ datSl dInst c.insts i ∧ datSl dInts c.jumps j ∧ datSl dInts c.parts p ∧ datSl dStr c.texts t ∧ datSl dTrans c.trans x ∧ datSl dSig c.lines l
theorem oSlot : Opens encH Tryz.prog W pvSlot dSlot 192 5 :=
 dat_iff (Opens'.iso (opens_struct Tryz.underlying192 (by kernel_rfl) (fields_cons rfl rfl oInt (fields_cons rfl rfl oInt (fields_cons rfl rfl oInt (fields_cons rfl rfl oInt (fields_cons rfl rfl oBool fields_nil))))))
  (fun p => SlotS.mk p.1 p.2.1 p.2.2.1 p.2.2.2.1 p.2.2.2.2.1) (fun o => (o.kind,o.size,o.map,o.dims,o.flex,())) (fun _ => rfl) (fun _ => rfl)) (by
   rintro a d ⟨ds,rfl,x,ds1,rfl,hx,y,ds2,rfl,hy,z,ds3,rfl,hz,u,ds4,rfl,hu,v,ds5,rfl,hv,rfl⟩
   exact ⟨_,_,_,_,_,rfl,hx,hy,hz,hu,hv⟩)
theorem oSlots : Opens encH Tryz.prog W (pvSl pvSlot) (datSl dSlot) 68 1 := opens_slice Tryz.underlying68 (by kernel_rfl) (by decide) oSlot
theorem oMap : Opens encH Tryz.prog W pvMap dMap 70 1 :=
 dat_iff (Opens'.iso (opens_struct Tryz.underlying70 (by kernel_rfl) (fields_cons rfl rfl oSlots fields_nil)) (fun p => p.1) (fun o => (o,())) (fun _ => rfl) (fun _ => rfl)) (by
   rintro a d ⟨ds,rfl,x,ds1,rfl,hx,rfl⟩
   exact ⟨_,rfl,hx⟩)
theorem oMaps : Opens encH Tryz.prog W (pvSl pvMap) (datSl dMap) 38 1 := opens_slice Tryz.underlying38 (by kernel_rfl) (by decide) oMap
theorem oInts : Opens encH Tryz.prog W pvInts dInts 52 1 := opens_slice Tryz.underlying52 (by kernel_rfl) (by decide) oInt
theorem oLists : Opens encH Tryz.prog W (pvSl pvInts) (datSl dInts) 39 1 := opens_slice Tryz.underlying39 (by kernel_rfl) (by decide) oInts
theorem oSig : Opens encH Tryz.prog W pvSig dSig 72 2 :=
 dat_iff (Opens'.iso (opens_struct Tryz.underlying72 (by kernel_rfl) (fields_cons rfl rfl oInt (fields_cons rfl rfl oInt fields_nil))) (fun p => (p.1,p.2.1)) (fun o => (o.1,o.2,())) (fun _ => rfl) (fun _ => rfl)) (by
   rintro a d ⟨ds,rfl,x,ds1,rfl,hx,y,ds2,rfl,hy,rfl⟩
   exact ⟨_,_,rfl,hx,hy⟩)
theorem oSigs : Opens encH Tryz.prog W (pvSl pvSig) (datSl dSig) 40 1 := opens_slice Tryz.underlying40 (by kernel_rfl) (by decide) oSig
theorem oLine : Opens encH Tryz.prog W pvSig dSig 155 2 :=
 dat_iff (Opens'.iso (opens_struct Tryz.underlying155 (by kernel_rfl) (fields_cons rfl rfl oInt (fields_cons rfl rfl oInt fields_nil))) (fun p => (p.1,p.2.1)) (fun o => (o.1,o.2,())) (fun _ => rfl) (fun _ => rfl)) (by
   rintro a d ⟨ds,rfl,x,ds1,rfl,hx,y,ds2,rfl,hy,rfl⟩
   exact ⟨_,_,rfl,hx,hy⟩)
theorem oLines : Opens encH Tryz.prog W (pvSl pvSig) (datSl dSig) 45 1 := opens_slice Tryz.underlying45 (by kernel_rfl) (by decide) oLine
theorem oRange : Opens encH Tryz.prog W pvRange dRange 74 3 :=
 dat_iff (Opens'.iso (opens_struct Tryz.underlying74 (by kernel_rfl) (fields_cons rfl rfl oInt (fields_cons rfl rfl oInt (fields_cons rfl rfl oInt fields_nil)))) (fun p => RangeS.mk p.1 p.2.1 p.2.2.1) (fun o => (o.outer,o.fr,o.to,())) (fun _ => rfl) (fun _ => rfl)) (by
   rintro a d ⟨ds,rfl,x,ds1,rfl,hx,y,ds2,rfl,hy,z,ds3,rfl,hz,rfl⟩
   exact ⟨_,_,_,rfl,hx,hy,hz⟩)
theorem oRanges : Opens encH Tryz.prog W (pvSl pvRange) (datSl dRange) 75 1 := opens_slice Tryz.underlying75 (by kernel_rfl) (by decide) oRange
theorem oRout : Opens encH Tryz.prog W pvRout dRout 77 9 :=
 dat_iff (Opens'.iso (opens_struct Tryz.underlying77 (by kernel_rfl) (fields_cons rfl rfl oInt (fields_cons rfl rfl oInt (fields_cons rfl rfl oInt (fields_cons rfl rfl oInt (fields_cons rfl rfl oInt (fields_cons rfl rfl oInt (fields_cons rfl rfl oInt (fields_cons rfl rfl oInt (fields_cons rfl rfl oRanges fields_nil))))))))))
  (fun p => RoutS.mk p.1 p.2.1 p.2.2.1 p.2.2.2.1 p.2.2.2.2.1 p.2.2.2.2.2.1 p.2.2.2.2.2.2.1 p.2.2.2.2.2.2.2.1 p.2.2.2.2.2.2.2.2.1) (fun o => (o.sig,o.frame,o.fr,o.to,o.outer,o.within,o.level,o.needs,o.ranges,())) (fun _ => rfl) (fun _ => rfl)) (by
   rintro a d ⟨ds,rfl,x1,ds1,rfl,h1,x2,ds2,rfl,h2,x3,ds3,rfl,h3,x4,ds4,rfl,h4,x5,ds5,rfl,h5,x6,ds6,rfl,h6,x7,ds7,rfl,h7,x8,ds8,rfl,h8,x9,ds9,rfl,h9,rfl⟩
   exact ⟨_,_,_,_,_,_,_,_,_,rfl,h1,h2,h3,h4,h5,h6,h7,h8,h9⟩)
theorem oRouts : Opens encH Tryz.prog W (pvSl pvRout) (datSl dRout) 41 1 := opens_slice Tryz.underlying41 (by kernel_rfl) (by decide) oRout
theorem oInsts : Opens encH Tryz.prog W (pvSl pvInst) (datSl dInst) 42 1 := opens_slice Tryz.underlying42 (by kernel_rfl) (by decide) oInst
theorem oTexts : Opens encH Tryz.prog W (pvSl PV.str) (datSl dStr) 43 1 := opens_slice Tryz.underlying43 (by kernel_rfl) (by decide) oStr
theorem oTran : Opens encH Tryz.prog W pvTrans dTrans 111 3 :=
 dat_iff (Opens'.iso (opens_struct Tryz.underlying111 (by kernel_rfl) (fields_cons rfl rfl oStr (fields_cons rfl rfl oBool (fields_cons rfl rfl oInt fields_nil)))) (fun p => TransS.mk p.1 p.2.1 p.2.2.1) (fun o => (o.word,o.file,o.map,())) (fun _ => rfl) (fun _ => rfl)) (by
   rintro a d ⟨ds,rfl,x,ds1,rfl,hx,y,ds2,rfl,hy,z,ds3,rfl,hz,rfl⟩
   exact ⟨_,_,_,rfl,hx,hy,hz⟩)
theorem oTrans : Opens encH Tryz.prog W (pvSl pvTrans) (datSl dTrans) 44 1 := opens_slice Tryz.underlying44 (by kernel_rfl) (by decide) oTran
theorem oCode : Opens encH Tryz.prog W pvCode dCode 47 10 :=
 dat_iff (Opens'.iso (opens_struct Tryz.underlying47 (by kernel_rfl) (fields_cons rfl rfl oMaps (fields_cons rfl rfl oLists (fields_cons rfl rfl oSigs (fields_cons rfl rfl oRouts (fields_cons rfl rfl oInsts (fields_cons rfl rfl oLists (fields_cons rfl rfl oLists (fields_cons rfl rfl oTexts (fields_cons rfl rfl oTrans (fields_cons rfl rfl oLines fields_nil)))))))))))
  (fun p => CodeS.mk p.1 p.2.1 p.2.2.1 p.2.2.2.1 p.2.2.2.2.1 p.2.2.2.2.2.1 p.2.2.2.2.2.2.1 p.2.2.2.2.2.2.2.1 p.2.2.2.2.2.2.2.2.1 p.2.2.2.2.2.2.2.2.2.1) (fun o => (o.maps,o.unions,o.sigs,o.routs,o.insts,o.jumps,o.parts,o.texts,o.trans,o.lines,())) (fun _ => rfl) (fun _ => rfl)) (by
   rintro a d ⟨ds,rfl,x1,ds1,rfl,h1,x2,ds2,rfl,h2,x3,ds3,rfl,h3,x4,ds4,rfl,h4,x5,ds5,rfl,h5,x6,ds6,rfl,h6,x7,ds7,rfl,h7,x8,ds8,rfl,h8,x9,ds9,rfl,h9,x10,ds10,rfl,h10,rfl⟩
   exact ⟨_,_,_,_,_,_,_,_,_,_,rfl,h1,h2,h3,h4,h5,h6,h7,h8,h9,h10⟩)
theorem dCode_okay {c : CodeS} {d : DataW H} (h : dCode c d) (hb : Rows.uptoBulk d ≤ 1048576) : Okay c := by
 obtain ⟨m,u,s,r,i,j,p,t,x,l,rfl,h1,h2,h3,h4,h5,h6,h7,h8,h9,h10⟩ := h
 obtain ⟨m1,m2⟩ := bulk_sl h1 (bulk_agg hb (by simp))
 obtain ⟨u1,u2⟩ := bulk_sl h2 (bulk_agg hb (by simp))
 obtain ⟨s1,s2⟩ := bulk_sl h3 (bulk_agg hb (by simp))
 obtain ⟨r1,r2⟩ := bulk_sl h4 (bulk_agg hb (by simp))
 obtain ⟨i1,i2⟩ := bulk_sl h5 (bulk_agg hb (by simp))
 obtain ⟨j1,j2⟩ := bulk_sl h6 (bulk_agg hb (by simp))
 obtain ⟨p1,p2⟩ := bulk_sl h7 (bulk_agg hb (by simp))
 obtain ⟨t1,t2⟩ := bulk_sl h8 (bulk_agg hb (by simp))
 obtain ⟨x1,x2⟩ := bulk_sl h9 (bulk_agg hb (by simp))
 obtain ⟨l1,l2⟩ := bulk_sl h10 (bulk_agg hb (by simp))
 have ints : ∀ {q : Sl Int} {e : DataW H},dInts q e → Rows.uptoBulk e ≤ 1048576 → q.2.length ≤ 1048576 := fun hq he => (bulk_sl hq he).1
 refine ⟨m1,fun a ha => ?_,u1,fun a ha => ?_,s1,r1,fun a ha => ?_,i1,j1,fun a ha => ?_,p1,fun a ha => ?_,t1,fun a ha => ?_,x1,fun a ha => ?_,l1⟩
 ·obtain ⟨e,⟨y,rfl,hy⟩,hbe⟩ := m2 a ha
  exact (bulk_sl hy (bulk_agg hbe (by simp))).1
 ·obtain ⟨e,he,hbe⟩ := u2 a ha
  exact ints he hbe
 ·obtain ⟨e,⟨_,_,_,_,_,_,_,_,y,rfl,_,_,_,_,_,_,_,_,hy⟩,hbe⟩ := r2 a ha
  exact (bulk_sl hy (bulk_agg hbe (by simp))).1
 ·obtain ⟨e,he,hbe⟩ := j2 a ha
  exact ints he hbe
 ·obtain ⟨e,he,hbe⟩ := p2 a ha
  exact ints he hbe
 ·obtain ⟨e,he,hbe⟩ := t2 a ha
  exact bulk_str he hbe
 ·obtain ⟨e,⟨y,_,_,rfl,hy,_,_⟩,hbe⟩ := x2 a ha
  exact bulk_str hy (bulk_agg hbe (by simp))
end
def routL (r : RoutS) : RoutL := ⟨r.sig,r.frame,r.fr,r.to,r.outer,r.within,r.level,r.needs,r.ranges.2⟩
def codeL (c : CodeS) : CodeL := ⟨c.maps.2.map (·.2),c.unions.2.map (·.2),c.sigs.2,c.routs.2.map routL,c.insts.2,c.jumps.2.map (·.2),c.parts.2.map (·.2),c.texts.2,c.trans.2,c.lines.2⟩
section
variable {H : Type} {encH : TypeId × Value → H} {W : World}
theorem dInt_I {n : Int} {d : DataW H} (h : dInt n d) : InI n := by
 have := dInt_in h
 simpa [inI64,InI] using this
theorem list_I {α : Type} {dat : α → DataW H → Prop} {Q : α → Prop} (hQ : ∀ a e,dat a e → Q a) {p : Sl α} {d : DataW H} (h : datSl dat p d) (hl : p.2.length ≤ 1048576) : ListI Q p.2 := ⟨by unfold LenI; omega,sl_all hQ h⟩
theorem ints_I {q : Sl Int} {e : DataW H} (h : dInts q e) (hl : q.2.length ≤ 1048576) : ListI InI q.2 := list_I (dat := dInt) (Q := InI) (fun _ _ h => dInt_I h) h hl
theorem lists_I {p : Sl (Sl Int)} {d : DataW H} (h : datSl dInts p d) (hl : p.2.length ≤ 1048576) (hm : ∀ m ∈ p.2,m.2.length ≤ 1048576) : ListI (ListI InI) (p.2.map (·.2)) := by
 refine ⟨by unfold LenI; rw [List.length_map]; omega,fun a ha => ?_⟩
 obtain ⟨q,hq,rfl⟩ := List.mem_map.1 ha
 obtain ⟨e,he,_⟩ := (bulk_sl h (Nat.le_refl _)).2 q hq
 exact ints_I he (hm q hq)
theorem dCode_I {c : CodeS} {d : DataW H} (h : dCode c d) (hc : Okay c) : CodeI (codeL c) := by
 obtain ⟨m,u,s,r,i,j,p,t,x,l,rfl,h1,h2,h3,h4,h5,h6,h7,h8,h9,h10⟩ := h
 refine ⟨⟨by unfold LenI; show (c.maps.2.map _).length ≤ _; rw [List.length_map]; have := hc.maps; omega,fun a ha => ?_⟩,lists_I h2 hc.unions hc.union,list_I (fun _ _ h => ?_) h3 hc.sigs,⟨by unfold LenI; show (c.routs.2.map _).length ≤ _; rw [List.length_map]; have := hc.routs; omega,fun a ha => ?_⟩,
  list_I (fun _ _ h => ?_) h5 hc.insts,lists_I h6 hc.jumps hc.jump,lists_I h7 hc.parts hc.part,⟨by have := hc.texts; show c.texts.2.length ≤ _; omega,fun a ha => by have := hc.text a ha; unfold LenI; omega⟩,⟨by have := hc.trans; show c.trans.2.length ≤ _; omega,fun a ha => ?_⟩,list_I (fun _ _ h => ?_) h10 hc.lines⟩
 ·obtain ⟨q,hq,rfl⟩ := List.mem_map.1 ha
  obtain ⟨e,⟨y,rfl,hy⟩,_⟩ := (bulk_sl h1 (Nat.le_refl _)).2 q hq
  refine list_I (fun _ _ h => ?_) hy (hc.slots q hq)
  obtain ⟨_,_,_,_,_,_,a1,a2,a3,a4,_⟩ := h
  exact ⟨dInt_I a1,dInt_I a2,dInt_I a3,dInt_I a4⟩
 ·obtain ⟨_,_,_,a1,a2⟩ := h
  exact ⟨dInt_I a1,dInt_I a2⟩
 ·obtain ⟨q,hq,rfl⟩ := List.mem_map.1 ha
  obtain ⟨e,⟨_,_,_,_,_,_,_,_,y,rfl,a1,a2,a3,a4,a5,a6,a7,a8,hy⟩,_⟩ := (bulk_sl h4 (Nat.le_refl _)).2 q hq
  refine ⟨dInt_I a1,dInt_I a2,dInt_I a3,dInt_I a4,dInt_I a5,dInt_I a6,dInt_I a7,dInt_I a8,list_I (fun _ _ h => ?_) hy (hc.ranges q hq)⟩
  obtain ⟨_,_,_,_,b1,b2,b3⟩ := h
  exact ⟨dInt_I b1,dInt_I b2,dInt_I b3⟩
 ·obtain ⟨_,_,_,_,_,_,_,a1,⟨_,_,_,_,b1,b2,b3⟩,⟨_,_,_,_,c1,c2,c3⟩,⟨_,_,_,_,d1,d2,d3⟩,a5,a6⟩ := h
  exact ⟨dInt_I a1,⟨dInt_I b1,dInt_I b2,dInt_I b3⟩,⟨dInt_I c1,dInt_I c2,dInt_I c3⟩,⟨dInt_I d1,dInt_I d2,dInt_I d3⟩,dInt_I a5,dInt_I a6⟩
 ·obtain ⟨e,⟨_,_,_,rfl,a1,_,a3⟩,_⟩ := (bulk_sl h9 (Nat.le_refl _)).2 a ha
  have := hc.word a ha
  exact ⟨by unfold LenI; omega,dInt_I a3⟩
 ·obtain ⟨_,_,_,a1,a2⟩ := h
  exact ⟨dInt_I a1,dInt_I a2⟩
end
end Go.Proofs.YtgghfcchanilpaaGreatDoor
