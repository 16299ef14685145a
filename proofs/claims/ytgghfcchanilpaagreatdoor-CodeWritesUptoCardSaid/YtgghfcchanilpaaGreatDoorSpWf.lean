import Derived.Test.YtgghfcchanilpaaGreatDoorSpWe
set_option linter.unusedVariables false
set_option linter.unusedSimpArgs false
namespace Go.Proofs.YtgghfcchanilpaaGreatDoor
open Go Go.Abs
theorem len_in {n : Nat} (h : n ≤ 1048576) : InI (n : Int) := ⟨by omega,by omega⟩
theorem i4 (a b c d : Int) : vBuildSl 1 (List.replicate 4 (.int .i64 0)) [(0,.int .i64 a),(1,.int .i64 b),(2,.int .i64 c),(3,.int .i64 d)] = some ([a,b,c,d].map pvI) := rfl
theorem i2 (a b : Int) : vBuildSl 1 (List.replicate 2 (.int .i64 0)) [(0,.int .i64 a),(1,.int .i64 b)] = some ([a,b].map pvI) := rfl
theorem i3 (a b c : Int) : vBuildSl 1 (List.replicate 3 (.int .i64 0)) [(0,.int .i64 a),(1,.int .i64 b),(2,.int .i64 c)] = some ([a,b,c].map pvI) := rfl
theorem i1 (a : Int) : vBuildSl 1 (List.replicate 1 (.int .i64 0)) [(0,.int .i64 a)] = some ([a].map pvI) := rfl
theorem i9 (a b c d e f g h i : Int) : vBuildSl 1 (List.replicate 9 (.int .i64 0)) [(0,.int .i64 a),(1,.int .i64 b),(2,.int .i64 c),(3,.int .i64 d),(4,.int .i64 e),(5,.int .i64 f),(6,.int .i64 g),(7,.int .i64 h),(8,.int .i64 i)] = some ([a,b,c,d,e,f,g,h,i].map pvI) := rfl
theorem i10 (a b c d e f g h i j : Int) : vBuildSl 1 (List.replicate 10 (.int .i64 0)) [(0,.int .i64 a),(1,.int .i64 b),(2,.int .i64 c),(3,.int .i64 d),(4,.int .i64 e),(5,.int .i64 f),(6,.int .i64 g),(7,.int .i64 h),(8,.int .i64 i),(9,.int .i64 j)] = some ([a,b,c,d,e,f,g,h,i,j].map pvI) := rfl
theorem inst_flds (i : InstS) : vPart false 1 (pvInst i) 0 = some (.int .i64 i.op) ∧ vPart false 1 (pvInst i) 1 = some (.int .i64 i.s.k) ∧ vPart false 1 (pvInst i) 2 = some (.int .i64 i.s.a) ∧ vPart false 1 (pvInst i) 3 = some (.int .i64 i.s.b) ∧ vPart false 1 (pvInst i) 4 = some (.int .i64 i.t.k) ∧ vPart false 1 (pvInst i) 5 = some (.int .i64 i.t.a) ∧ vPart false 1 (pvInst i) 6 = some (.int .i64 i.t.b) ∧
 vPart false 1 (pvInst i) 7 = some (.int .i64 i.d.k) ∧ vPart false 1 (pvInst i) 8 = some (.int .i64 i.d.a) ∧ vPart false 1 (pvInst i) 9 = some (.int .i64 i.d.b) ∧ vPart false 1 (pvInst i) 10 = some (.int .i64 i.n) ∧ vPart false 1 (pvInst i) 11 = some (.int .i64 i.k) := ⟨rfl,rfl,rfl,rfl,rfl,rfl,rfl,rfl,rfl,rfl,rfl,rfl⟩
theorem Lfp_adds {n σ : St} {α : Type} {F : ((Nat → PV) → St → Prop) → (Nat → PV) → St → Prop} (l : List α) (f : α → Str) (mk : Nat → PV → Nat → PV) (out : Str) {v0 : PV} {τ0 : St} {x0 : Nat → PV} (h0 : x0 = mk 0 v0) (hg : GB σ τ0 v0 out)
  (hend : ∀ (Φ : (Nat → PV) → St → Prop) v τ,GB σ τ v (out ++ l.flatMap f) → F Φ (mk l.length v) τ)
  (step : ∀ (Φ : (Nat → PV) → St → Prop) (j : Nat) (a : α) v τ cur,l[j]? = some a → a ∈ l → j < l.length → GB σ τ v cur → cur.length + (f a).length ≤ out.length + (l.flatMap f).length → (∀ v' τ',GB σ τ' v' (cur ++ f a) → Φ (mk (j + 1) v') τ') → F Φ (mk j v) τ) : Lfp n F x0 τ0 := by
 refine Lfp_up l.length (fun j x τ => ∃ v,x = mk j v ∧ GB σ τ v (out ++ (l.take j).flatMap f)) ?_ ⟨v0,h0,by simpa using hg⟩
 rintro Φ j x τ hj ⟨v,rfl,hg⟩ next
 by_cases hlt : j < l.length
 ·have hge : l[j]? = some l[j] := by simp [hlt]
  have hmem : l[j] ∈ l := by simp
  generalize l[j] = a at hge hmem
  have hfl := take_snoc hge f
  have hb := flat_take f l (j + 1)
  rw [hfl,List.length_append] at hb
  refine step Φ j a v τ _ hge hmem hlt hg (by rw [List.length_append]; omega) fun v' τ' hg' => next _ _ hlt ⟨v',rfl,?_⟩
  rw [hfl,← List.append_assoc]
  exact hg'
 ·obtain rfl : j = l.length := by omega
  rw [List.take_length] at hg
  exact hend Φ v τ hg
theorem c80 {c : CodeS} (hc : Okay c) (hi : CodeI (codeL c)) (σ : St) : ∃ lk,Ret W 80 [pvCode c] σ (.list lk (u8s (codeW (codeL c)))) := by
 refine ⟨(growV_list (u8s (codeW (codeL c)))).choose,ret_of fun R hR => ?_⟩
 rw [← (growV_list (u8s (codeW (codeL c)))).choose_spec] at hR
 rw [fn80_eq]
 unfold fn80
 have htot := codeW_len hc
 have m1 : ∀ m ∈ c.maps.2,∀ s ∈ m.2,SlotI s := fun m hm => (hi.maps.2 m.2 (List.mem_map_of_mem (f := (·.2)) hm)).2
 have m2 : ∀ m ∈ c.unions.2,∀ s ∈ m.2,InI s := fun m hm => (hi.unions.2 m.2 (List.mem_map_of_mem (f := (·.2)) hm)).2
 have m4 : ∀ r ∈ c.routs.2,RoutI (routL r) := fun m hm => hi.routs.2 (routL m) (List.mem_map_of_mem (f := routL) hm)
 have m6 : ∀ m ∈ c.jumps.2,∀ s ∈ m.2,InI s := fun m hm => (hi.jumps.2 m.2 (List.mem_map_of_mem (f := (·.2)) hm)).2
 have m7 : ∀ m ∈ c.parts.2,∀ s ∈ m.2,InI s := fun m hm => (hi.parts.2 m.2 (List.mem_map_of_mem (f := (·.2)) hm)).2
 have T2 := c165 hc.unions hc.union m2
 have T6 := c165 hc.jumps hc.jump m6
 have T7 := c165 hc.parts hc.part m7
 have e1 : listB mapW (codeL c).maps = numB (c.maps.2.length : Int) ++ c.maps.2.flatMap (fun m : Sl SlotS => mapW m.2) := (listB_map mapW (fun m : Sl SlotS => m.2) c.maps.2).symm
 have e2 : listB intsW (codeL c).unions = listB (fun m : Sl Int => intsW m.2) c.unions.2 := (listB_map intsW (fun m : Sl Int => m.2) c.unions.2).symm
 have e3 : listB sigW (codeL c).sigs = numB (c.sigs.2.length : Int) ++ c.sigs.2.flatMap sigW := rfl
 have e4 : listB routW (codeL c).routs = numB (c.routs.2.length : Int) ++ c.routs.2.flatMap (fun r : RoutS => routW (routL r)) := (listB_map routW routL c.routs.2).symm
 have e5 : listB instW (codeL c).insts = numB (c.insts.2.length : Int) ++ c.insts.2.flatMap instW := rfl
 have e6 : listB intsW (codeL c).jumps = listB (fun m : Sl Int => intsW m.2) c.jumps.2 := (listB_map intsW (fun m : Sl Int => m.2) c.jumps.2).symm
 have e7 : listB intsW (codeL c).parts = listB (fun m : Sl Int => intsW m.2) c.parts.2 := (listB_map intsW (fun m : Sl Int => m.2) c.parts.2).symm
 have e8 : listB textB (codeL c).texts = numB (c.texts.2.length : Int) ++ c.texts.2.flatMap textB := rfl
 have e9 : listB transW (codeL c).trans = numB (c.trans.2.length : Int) ++ c.trans.2.flatMap transW := rfl
 have e10 : listB sigW (codeL c).lines = numB (c.lines.2.length : Int) ++ c.lines.2.flatMap sigW := rfl
 have hcw : codeW (codeL c) = (numB (c.maps.2.length : Int) ++ c.maps.2.flatMap (fun m : Sl SlotS => mapW m.2)) ++ (listB (fun m : Sl Int => intsW m.2) c.unions.2 ++ ((numB (c.sigs.2.length : Int) ++ c.sigs.2.flatMap sigW) ++ ((numB (c.routs.2.length : Int) ++ c.routs.2.flatMap (fun r : RoutS => routW (routL r))) ++
   ((numB (c.insts.2.length : Int) ++ c.insts.2.flatMap instW) ++ (listB (fun m : Sl Int => intsW m.2) c.jumps.2 ++ (listB (fun m : Sl Int => intsW m.2) c.parts.2 ++ ((numB (c.texts.2.length : Int) ++ c.texts.2.flatMap textB) ++ ((numB (c.trans.2.length : Int) ++ c.trans.2.flatMap transW) ++ (numB (c.lines.2.length : Int) ++ c.lines.2.flatMap sigW))))))))) := by
  rw [← e1,← e2,← e3,← e4,← e5,← e6,← e7,← e8,← e9,← e10]
  rfl
 clear e1 e2 e3 e4 e5 e6 e7 e8 e9 e10
 rw [hcw] at htot hR
 clear hcw
 generalize listB (fun m : Sl Int => intsW m.2) c.unions.2 = U at htot hR T2
 generalize listB (fun m : Sl Int => intsW m.2) c.jumps.2 = JJ at htot hR T6
 generalize listB (fun m : Sl Int => intsW m.2) c.parts.2 = PP at htot hR T7
 simp only [List.length_append] at htot
 simp only [code_parts,sl_len,zz,Nat.reduceEqDiff]
 have g0 : GB σ σ (.list .nil []) [] := ⟨List.prefix_refl _,.inl ⟨rfl,rfl⟩⟩
 refine (c162 (len_in hc.maps)).callB g0 (by simp; omega) fun v1 τ1 g1 => ?_
 
 refine CutW_by (fun x τ => x 1 = pvCode c ∧ GB σ τ (x 3) ((numB (c.maps.2.length : Int)) ++ c.maps.2.flatMap (fun m : Sl SlotS => mapW m.2))) (fun x τ hx => ?_) ?_
 case refine_2 =>
  refine Lfp_adds c.maps.2 (fun m : Sl SlotS => mapW m.2) (fun j v => lookP [(3,v),(4,.int .i64 j),(1,pvCode c)]) (numB (c.maps.2.length : Int)) rfl (by simpa using g1) (fun Φ v τ hg => ?_) (fun Φ j m v τ cur hge hmem hj hg hb next => ?_)
  ·simp only [code_parts,sl_len,not_lt_len,Nat.lt_irrefl,decide_false,zz,Nat.reduceEqDiff]
   exact ⟨trivial,hg⟩
  have hml := hc.slots m hmem
  have hmw : mapW m.2 = numB (m.2.length : Int) ++ m.2.flatMap slotW := rfl
  rw [hmw] at hb next
  simp only [List.length_append] at hb
  simp only [code_parts,sl_len,lt_len hj,hj,decide_true,zz,Nat.reduceEqDiff]
  refine CutW_by (fun x τ => x 1 = pvCode c ∧ x 4 = .int .i64 j ∧ GB σ τ (x 3) ((cur ++ numB (m.2.length : Int)) ++ m.2.flatMap slotW)) (fun x τ hx => ?_) ?_
  ·obtain ⟨q1,q4,hg⟩ := hx
   simp only [q1,q4,zz,Nat.reduceEqDiff]
   rw [vBin_add _ (by have := hc.maps; omega) (by have := hc.maps; omega)]
   simp only [zz,Nat.reduceEqDiff]
   rw [List.append_assoc] at hg
   exact next _ _ hg
  simp only [code_parts,sl_idx encMap hge,fldE,map_part,sl_len,zz,Nat.reduceEqDiff,Nat.reduceAdd]
  refine (c162 (len_in hml)).callB hg (by omega) fun v2 τ2 g2 => ?_
  refine Lfp_adds m.2 slotW (fun k v => lookP [(3,v),(4,.int .i64 j),(5,.int .i64 k),(1,pvCode c)]) _ rfl g2 (fun Ψ v τ hg => ?_) (fun Ψ k s v τ cur2 hge2 hmem2 hk hg hb2 next2 => ?_)
  ·simp only [code_parts,sl_idx encMap hge,fldE,map_part,sl_len,not_lt_len,Nat.lt_irrefl,decide_false,zz,Nat.reduceEqDiff,Nat.reduceAdd]
   exact ⟨trivial,trivial,hg⟩
  obtain ⟨s1,s2,s3,s4⟩ := m1 m hmem s hmem2
  have hsw : slotW s = ([s.kind,s.size,s.map,s.dims].flatMap numB) ++ boolB s.flex := by simp [slotW,List.append_assoc]
  rw [hsw] at hb2 next2
  simp only [List.length_append] at hb2
  simp only [code_parts,sl_idx encMap hge,fldE,map_part,sl_len,lt_len hk,hk,decide_true,sl_idx encSlot hge2,encSlot.part,put_slot,slot_flds,i4,zz,Nat.reduceEqDiff,Nat.reduceAdd]
  refine (c164 (lk := .full) (l := [s.kind,s.size,s.map,s.dims]) (by simp) (by simp; exact ⟨s1,s2,s3,s4⟩)).callB hg (by omega) fun v3 τ3 g3 => ?_
  refine c163.callB g3 (by rw [List.length_append]; omega) fun v4 τ4 g4 => ?_
  rw [vBin_add _ (by omega) (by omega)]
  simp only [zz,Nat.reduceEqDiff]
  rw [List.append_assoc] at g4
  exact next2 _ _ g4
 obtain ⟨q1,hg⟩ := hx
 simp only [q1,code_parts,sl_len,zz,Nat.reduceEqDiff]
 generalize x 3 = v1 at hg
 clear q1 x g1 g0
 
 refine T2.callB hg (by simp only [List.length_append]; omega) fun v2 τ2 hg => ?_
 refine (c162 (len_in hc.sigs)).callB hg (by simp only [List.length_append]; omega) fun v3 τ3 hg => ?_
 
 generalize hO : (_ ++ _ : Str) = O3 at hg
 have hO3 := congrArg List.length hO
 simp only [List.length_append] at hO3
 refine CutW_by (fun x τ => x 1 = pvCode c ∧ GB σ τ (x 3) (O3 ++ c.sigs.2.flatMap sigW)) (fun x τ hx => ?_) ?_
 case refine_2 =>
  refine Lfp_adds c.sigs.2 sigW (fun j v => lookP [(3,v),(7,.int .i64 j),(1,pvCode c)]) O3 rfl hg (fun Φ v τ hg => ?_) (fun Φ j p v τ cur hge hmem hj hg hb next => ?_)
  ·simp only [code_parts,sl_len,not_lt_len,Nat.lt_irrefl,decide_false,zz,Nat.reduceEqDiff]
   exact ⟨trivial,hg⟩
  obtain ⟨p1,p2⟩ := hi.sigs.2 p hmem
  have hsw : sigW p = [p.1,p.2].flatMap numB := by simp [sigW]
  rw [hsw] at hb next
  simp only [code_parts,sl_len,lt_len hj,hj,decide_true,sl_idx encSig hge,fldE,put_sig,i2,zz,Nat.reduceEqDiff,Nat.reduceAdd]
  refine (c164 (lk := .full) (l := [p.1,p.2]) (by simp) (by simp; exact ⟨p1,p2⟩)).callB hg (by omega) fun v3 τ3 g3 => ?_
  rw [vBin_add _ (by have := hc.sigs; omega) (by have := hc.sigs; omega)]
  simp only [zz,Nat.reduceEqDiff]
  exact next _ _ g3
 obtain ⟨q1,hg⟩ := hx
 simp only [q1,code_parts,sl_len,zz,Nat.reduceEqDiff]
 generalize x 3 = v1 at hg
 have hQ3 := hO
 clear q1 x hO
 
 refine (c162 (len_in hc.routs)).callB hg (by simp only [List.length_append]; omega) fun v2 τ2 hg => ?_
 generalize hO : (_ ++ _ : Str) = O4 at hg
 have hO4 := congrArg List.length hO
 simp only [List.length_append] at hO4
 have hO' := hO
 refine CutW_by (fun x τ => x 1 = pvCode c ∧ GB σ τ (x 3) (O4 ++ c.routs.2.flatMap (fun r : RoutS => routW (routL r)))) (fun x τ hx => ?_) ?_
 case refine_2 =>
  refine Lfp_adds c.routs.2 (fun r : RoutS => routW (routL r)) (fun j v => lookP [(3,v),(8,.int .i64 j),(1,pvCode c)]) O4 rfl hg (fun Φ v τ hg => ?_) (fun Φ j r v τ cur hge hmem hj hg hb next => ?_)
  ·simp only [code_parts,sl_len,not_lt_len,Nat.lt_irrefl,decide_false,zz,Nat.reduceEqDiff]
   exact ⟨trivial,hg⟩
  obtain ⟨r1,r2,r3,r4,r5,r6,r7,r8,-,r9⟩ := m4 r hmem
  have hrl := hc.ranges r hmem
  have hrw : routW (routL r) = ([r.sig,r.frame,r.fr,r.to,r.outer,r.within,r.level,r.needs,(r.ranges.2.length : Int)].flatMap numB) ++ r.ranges.2.flatMap rangeW := by
   simp [routW,routL,listB,List.append_assoc]
  rw [hrw] at hb next
  rw [List.length_append] at hb
  have hln : len r.ranges = (r.ranges.2.length : Int) := rfl
  simp only [code_parts,sl_len,lt_len hj,hj,decide_true,zz,Nat.reduceEqDiff]
  refine CutW_by (fun x τ => x 1 = pvCode c ∧ x 8 = .int .i64 j ∧ GB σ τ (x 3) ((cur ++ [r.sig,r.frame,r.fr,r.to,r.outer,r.within,r.level,r.needs,(r.ranges.2.length : Int)].flatMap numB) ++ r.ranges.2.flatMap rangeW)) (fun x τ hx => ?_) ?_
  ·obtain ⟨q1,q8,hg⟩ := hx
   simp only [q1,q8,zz,Nat.reduceEqDiff]
   rw [vBin_add _ (by have := hc.routs; omega) (by have := hc.routs; omega)]
   simp only [zz,Nat.reduceEqDiff]
   rw [List.append_assoc] at hg
   exact next _ _ hg
  have hi9 : ∀ n ∈ [r.sig,r.frame,r.fr,r.to,r.outer,r.within,r.level,r.needs,(r.ranges.2.length : Int)],InI n := by
   intro n hn
   simp only [List.mem_cons,List.not_mem_nil,or_false] at hn
   rcases hn with rfl | rfl | rfl | rfl | rfl | rfl | rfl | rfl | rfl
   ·exact r1
   ·exact r2
   ·exact r3
   ·exact r4
   ·exact r5
   ·exact r6
   ·exact r7
   ·exact r8
   ·exact len_in hrl
  simp only [sl_idx encRout hge,encRout.part,put_rout,rout_parts8,sl_len,hln,i9,zz,Nat.reduceEqDiff,Nat.reduceAdd]
  have hl9 : [r.sig,r.frame,r.fr,r.to,r.outer,r.within,r.level,r.needs,(r.ranges.2.length : Int)].length ≤ 1048576 := by simp
  generalize [r.sig,r.frame,r.fr,r.to,r.outer,r.within,r.level,r.needs,(r.ranges.2.length : Int)] = l9 at hb hi9 hl9
  refine (c164 (lk := .full) (l := l9) hl9 hi9).callB hg (by omega) fun v3 τ3 g3 => ?_
  refine Lfp_adds r.ranges.2 rangeW (fun k v => lookP [(3,v),(8,.int .i64 j),(10,.int .i64 k),(1,pvCode c),(9,pvRout r)]) _ rfl g3 (fun Ψ v τ hg => ?_) (fun Ψ k s v τ cur2 hge2 hmem2 hk hg hb2 next2 => ?_)
  ·simp only [rout_parts8,sl_len,not_lt_len,Nat.lt_irrefl,decide_false,zz,Nat.reduceEqDiff,Nat.reduceAdd]
   exact ⟨trivial,trivial,hg⟩
  obtain ⟨s1,s2,s3⟩ := r9 s hmem2
  have hsw : rangeW s = [s.outer,s.fr,s.to].flatMap numB := by simp [rangeW]
  rw [hsw] at hb2 next2
  rw [List.length_append] at hb2
  simp only [rout_parts8,sl_len,lt_len hk,hk,decide_true,sl_idx encRange hge2,fldE,range_parts',i3,zz,Nat.reduceEqDiff,Nat.reduceAdd]
  refine (c164 (lk := .full) (l := [s.outer,s.fr,s.to]) (by simp) (by simp; exact ⟨s1,s2,s3⟩)).callB hg (by omega) fun v4 τ4 g4 => ?_
  rw [vBin_add _ (by omega) (by omega)]
  simp only [zz,Nat.reduceEqDiff]
  exact next2 _ _ g4
 obtain ⟨q1,hg⟩ := hx
 simp only [q1,code_parts,sl_len,zz,Nat.reduceEqDiff]
 generalize x 3 = v1 at hg
 have hQ4 := hO
 clear q1 x hO
 
 refine (c162 (len_in hc.insts)).callB hg (by simp only [List.length_append]; omega) fun v2 τ2 hg => ?_
 generalize hO : (_ ++ _ : Str) = O5 at hg
 have hO5 := congrArg List.length hO
 simp only [List.length_append] at hO5
 refine CutW_by (fun x τ => x 1 = pvCode c ∧ GB σ τ (x 3) (O5 ++ c.insts.2.flatMap instW)) (fun x τ hx => ?_) ?_
 case refine_2 =>
  refine Lfp_adds c.insts.2 instW (fun j v => lookP [(3,v),(11,.int .i64 j),(1,pvCode c)]) O5 rfl hg (fun Φ v τ hg => ?_) (fun Φ j a v τ cur hge hmem hj hg hb next => ?_)
  ·simp only [code_parts,sl_len,not_lt_len,Nat.lt_irrefl,decide_false,zz,Nat.reduceEqDiff]
   exact ⟨trivial,hg⟩
  obtain ⟨a1,⟨b1,b2,b3⟩,⟨d1,d2,d3⟩,⟨f1,f2,f3⟩,a5,a6⟩ := hi.insts.2 a hmem
  have haw : instW a = ([a.op,a.s.k,a.s.a,a.s.b,a.t.k,a.t.a,a.t.b,a.d.k,a.d.a,a.d.b].flatMap numB) ++ (numB a.n ++ [a.k].flatMap numB) := by
   simp [instW,operW,List.append_assoc]
  rw [haw] at hb next
  simp only [List.length_append] at hb
  have hi10 : ∀ n ∈ [a.op,a.s.k,a.s.a,a.s.b,a.t.k,a.t.a,a.t.b,a.d.k,a.d.a,a.d.b],InI n := by
   intro n hn
   simp only [List.mem_cons,List.not_mem_nil,or_false] at hn
   rcases hn with rfl | rfl | rfl | rfl | rfl | rfl | rfl | rfl | rfl | rfl
   ·exact a1
   ·exact b1
   ·exact b2
   ·exact b3
   ·exact d1
   ·exact d2
   ·exact d3
   ·exact f1
   ·exact f2
   ·exact f3
  simp only [code_parts,sl_len,lt_len hj,hj,decide_true,sl_idx encInst hge,encInst.part,put_inst,inst_flds,i10,i1,zz,Nat.reduceEqDiff,Nat.reduceAdd]
  have hl10 : [a.op,a.s.k,a.s.a,a.s.b,a.t.k,a.t.a,a.t.b,a.d.k,a.d.a,a.d.b].length ≤ 1048576 := by simp
  generalize [a.op,a.s.k,a.s.a,a.s.b,a.t.k,a.t.a,a.t.b,a.d.k,a.d.a,a.d.b] = l10 at hb hi10 next hl10
  refine (c164 (lk := .full) (l := l10) hl10 hi10).callB hg (by omega) fun v3 τ3 hg => ?_
  refine (c162 a5).callB hg (by rw [List.length_append]; omega) fun v4 τ4 hg => ?_
  refine (c164 (lk := .full) (l := [a.k]) (by simp) (by simp; exact a6)).callB hg (by simp only [List.length_append]; omega) fun v5 τ5 hg => ?_
  rw [vBin_add _ (by have := hc.insts; omega) (by have := hc.insts; omega)]
  simp only [zz,Nat.reduceEqDiff]
  simp only [List.append_assoc] at hg
  exact next _ _ hg
 obtain ⟨q1,hg⟩ := hx
 simp only [q1,code_parts,sl_len,zz,Nat.reduceEqDiff]
 generalize x 3 = v1 at hg
 have hQ5 := hO
 clear q1 x hO
 
 refine T6.callB hg (by simp only [List.length_append]; omega) fun v2 τ2 hg => ?_
 refine T7.callB hg (by simp only [List.length_append]; omega) fun v2 τ2 hg => ?_
 refine (c162 (len_in hc.texts)).callB hg (by simp only [List.length_append]; omega) fun v2 τ2 hg => ?_
 generalize hO : (_ ++ _ : Str) = O6 at hg
 have hO6 := congrArg List.length hO
 simp only [List.length_append] at hO6
 refine CutW_by (fun x τ => x 1 = pvCode c ∧ GB σ τ (x 3) (O6 ++ c.texts.2.flatMap textB)) (fun x τ hx => ?_) ?_
 case refine_2 =>
  refine Lfp_adds c.texts.2 textB (fun j v => lookP [(3,v),(13,.int .i64 j),(1,pvCode c)]) O6 rfl hg (fun Φ v τ hg => ?_) (fun Φ j a v τ cur hge hmem hj hg hb next => ?_)
  ·simp only [code_parts,sl_len,not_lt_len,Nat.lt_irrefl,decide_false,zz,Nat.reduceEqDiff]
   exact ⟨trivial,hg⟩
  simp only [code_parts,sl_len,lt_len hj,hj,decide_true,sl_idx encStr hge,encStr.part,zz,Nat.reduceEqDiff,Nat.reduceAdd]
  refine c166.callB hg (by omega) fun v3 τ3 hg => ?_
  rw [vBin_add _ (by have := hc.texts; omega) (by have := hc.texts; omega)]
  simp only [zz,Nat.reduceEqDiff]
  exact next _ _ hg
 obtain ⟨q1,hg⟩ := hx
 simp only [q1,code_parts,sl_len,zz,Nat.reduceEqDiff]
 generalize x 3 = v1 at hg
 have hQ6 := hO
 clear q1 x hO
 
 refine (c162 (len_in hc.trans)).callB hg (by simp only [List.length_append]; omega) fun v2 τ2 hg => ?_
 generalize hO : (_ ++ _ : Str) = O7 at hg
 have hO7 := congrArg List.length hO
 simp only [List.length_append] at hO7
 refine CutW_by (fun x τ => x 1 = pvCode c ∧ GB σ τ (x 3) (O7 ++ c.trans.2.flatMap transW)) (fun x τ hx => ?_) ?_
 case refine_2 =>
  refine Lfp_adds c.trans.2 transW (fun j v => lookP [(3,v),(14,.int .i64 j),(1,pvCode c)]) O7 rfl hg (fun Φ v τ hg => ?_) (fun Φ j a v τ cur hge hmem hj hg hb next => ?_)
  ·simp only [code_parts,sl_len,not_lt_len,Nat.lt_irrefl,decide_false,zz,Nat.reduceEqDiff]
   exact ⟨trivial,hg⟩
  obtain ⟨-,a2⟩ := hi.trans.2 a hmem
  have haw : transW a = textB a.word ++ (boolB a.file ++ [a.map].flatMap numB) := by simp [transW]
  rw [haw] at hb next
  simp only [List.length_append] at hb
  have hld : ∀ τ : St,vLoad false 1 (.eptr (pvTrans a) (0 + 0)) τ = some (.str a.word) ∧ vLoad false 1 (.eptr (pvTrans a) (0 + 1)) τ = some (.bool a.file) ∧ vLoad false 1 (.eptr (pvTrans a) (0 + 2)) τ = some (.int .i64 a.map) := fun τ => ⟨rfl,rfl,rfl⟩
  simp only [code_parts,sl_len,lt_len hj,hj,decide_true,sl_idx encTrans hge,fldE,trans_parts',i1,zz,Nat.reduceEqDiff,Nat.reduceAdd]
  refine c166.callB hg (by omega) fun v3 τ3 hg => ?_
  refine c163.callB hg (by simp only [List.length_append]; omega) fun v3 τ3 hg => ?_
  refine (c164 (lk := .full) (l := [a.map]) (by simp) (by simp; exact a2)).callB hg (by simp only [List.length_append]; omega) fun v5 τ5 hg => ?_
  rw [vBin_add _ (by have := hc.trans; omega) (by have := hc.trans; omega)]
  simp only [zz,Nat.reduceEqDiff]
  simp only [List.append_assoc] at hg
  exact next _ _ hg
 obtain ⟨q1,hg⟩ := hx
 simp only [q1,code_parts,sl_len,zz,Nat.reduceEqDiff]
 generalize x 3 = v1 at hg
 have hQ7 := hO
 clear q1 x hO
 
 refine (c162 (len_in hc.lines)).callB hg (by simp only [List.length_append]; omega) fun v2 τ2 hg => ?_
 refine CutW_by (fun x τ => GB σ τ (x 3) ((O7 ++ c.trans.2.flatMap transW) ++ numB (c.lines.2.length : Int) ++ c.lines.2.flatMap sigW)) (fun x τ hx => ?_) ?_
 case refine_2 =>
  refine Lfp_adds c.lines.2 sigW (fun j v => lookP [(3,v),(15,.int .i64 j),(1,pvCode c)]) _ rfl hg (fun Φ v τ hg => ?_) (fun Φ j p v τ cur hge hmem hj hg hb next => ?_)
  ·simp only [code_parts,sl_len,not_lt_len,Nat.lt_irrefl,decide_false,zz,Nat.reduceEqDiff]
   exact hg
  obtain ⟨p1,p2⟩ := hi.lines.2 p hmem
  have hsw : sigW p = [p.1,p.2].flatMap numB := by simp [sigW]
  rw [hsw] at hb next
  simp only [List.length_append] at hb
  simp only [code_parts,sl_len,lt_len hj,hj,decide_true,sl_idx encSig hge,fldE,put_sig,i2,zz,Nat.reduceEqDiff,Nat.reduceAdd]
  refine (c164 (lk := .full) (l := [p.1,p.2]) (by simp) (by simp; exact ⟨p1,p2⟩)).callB hg (by omega) fun v3 τ3 g3 => ?_
  rw [vBin_add _ (by have := hc.lines; omega) (by have := hc.lines; omega)]
  simp only [zz,Nat.reduceEqDiff]
  exact next _ _ g3
 obtain ⟨hp,hg⟩ := hx
 have hfin : (O7 ++ c.trans.2.flatMap transW) ++ numB (c.lines.2.length : Int) ++ c.lines.2.flatMap sigW = (numB (c.maps.2.length : Int) ++ c.maps.2.flatMap (fun m : Sl SlotS => mapW m.2)) ++ (U ++ ((numB (c.sigs.2.length : Int) ++ c.sigs.2.flatMap sigW) ++ ((numB (c.routs.2.length : Int) ++ c.routs.2.flatMap (fun r : RoutS => routW (routL r))) ++
   ((numB (c.insts.2.length : Int) ++ c.insts.2.flatMap instW) ++ (JJ ++ (PP ++ ((numB (c.texts.2.length : Int) ++ c.texts.2.flatMap textB) ++ ((numB (c.trans.2.length : Int) ++ c.trans.2.flatMap transW) ++ (numB (c.lines.2.length : Int) ++ c.lines.2.flatMap sigW))))))))) := by
  rw [← hQ7,← hQ6,← hQ5,← hQ4,← hQ3]
  simp only [List.append_assoc]
 rw [hfin] at hg
 refine weakW_clean hp (Grow.frz hg fun y hy => ?_) hR
 obtain ⟨b,_,rfl⟩ := List.mem_map.1 hy
 exact .base _ (.int _ _)
theorem c30 {c : CodeS} (hc : Okay c) (hi : CodeI (codeL c)) (σ : St) : Ret W 30 [pvCode c] σ (pvWr (writeS c)) := by
 refine ret_of fun R hR => ?_
 rw [fn30_eq]
 unfold fn30
 have hn := nums_of hi
 simp only [code_parts,zz,Nat.reduceEqDiff]
 refine (c25 hc hn _).callB ?_
 simp only [sig_put2,put_sig,flt_ne,zz,Nat.reduceEqDiff]
 refine condB (fun hb => ?_) (fun hb => ?_)
 ·have hne : (checkS c 470 49).2 ≠ 0 := by simpa using hb
  unfold writeS at hR
  rw [if_pos hne] at hR
  exact weakW_keep hR
 have hz : ¬ (checkS c 470 49).2 ≠ 0 := by simpa using hb
 unfold writeS at hR
 rw [if_neg hz] at hR
 have hlen := codeW_len hc
 have hbl : (bodyB c).length = 4 + (codeW (codeL c)).length := by
  unfold bodyB
  rw [List.length_append]
  rfl
 obtain ⟨lk,h80⟩ := c80 hc hi σ
 refine h80.callB ?_
 have hts : vToStr (.list lk (u8s (codeW (codeL c)))) σ = some (.str (codeW (codeL c))) := by
  have : vElems (.list lk (u8s (codeW (codeL c)))) σ = some (u8s (codeW (codeL c))) := rfl
  simp only [vToStr,this,bytesOf_u8s]
 have hm : ([69,78,86,49] : Str) = markB := rfl
 have hm4 : markB.length = 4 := rfl
 have hadd : vBin none .add (.str markB) (.str (codeW (codeL c))) = some (.str (bodyB c)) := vBin_add_str _ (by omega)
 simp only [hts,hm,hadd,zz,Nat.reduceEqDiff]
 refine (c31 (by omega) _).callB ?_
 obtain ⟨e0,⟨w1,e1,f1⟩,⟨w2,e2,f2⟩,⟨w3,e3,f3⟩⟩ := four_parts (sumS (bodyB c))
 have hf4 : (fourB (sumS (bodyB c))).length = 4 := rfl
 have hb4 : [byteAt (sumS (bodyB c)) 0,byteAt (sumS (bodyB c)) 8,byteAt (sumS (bodyB c)) 16,byteAt (sumS (bodyB c)) 24] = fourB (sumS (bodyB c)) := rfl
 have hts4 : ∀ σ,vToStr (.list .full (u8s (fourB (sumS (bodyB c))))) σ = some (.str (fourB (sumS (bodyB c)))) := fun σ => by
  have : vElems (.list .full (u8s (fourB (sumS (bodyB c))))) σ = some (u8s (fourB (sumS (bodyB c)))) := rfl
  simp only [vToStr,this,bytesOf_u8s]
 have hadd2 : vBin none .add (.str (bodyB c)) (.str (fourB (sumS (bodyB c)))) = some (.str (wholeB c)) := vBin_add_str _ (by omega)
 simp only [e0,e1,f1,e2,f2,e3,f3,b4_u8,hb4,hts4,hadd2,zz,Nat.reduceEqDiff]
 refine condB (fun hb => ?_) (fun hb => ?_)
 ·rw [if_pos (of_decide_eq_true hb)] at hR
  exact weakW_keep hR
 ·rw [if_neg (of_decide_eq_false hb)] at hR
  exact weakW_keep hR
theorem c8 {c : CodeS} (hc : Okay c) (hi : CodeI (codeL c)) : Ret W 8 [pvCode c] [] (.bool true) := by
 refine ret_of fun R hR => ?_
 rw [fn8_eq]
 unfold fn8
 simp only [code_parts,zz,Nat.reduceEqDiff]
 refine c12.callB ?_
 simp only [zz,Nat.reduceEqDiff]
 refine (c23 hc _).callB fun b => ?_
 cases b with
 | false =>
  simp only [zz,Nat.reduceEqDiff]
  refine c12.callB ?_
  exact weakW_keep hR
 | true =>
  simp only [zz,Nat.reduceEqDiff]
  refine (c29 hc hi _).callB ?_
  simp only [pvWr,zz,Nat.reduceEqDiff]
  refine (c30 hc hi _).callB ?_
  have heq : vBin none .eql (.int .i64 (writeS c).2) (.int .i64 (writeS c).2) = some (.bool true) := by simp [vBin,vArith]
  have heqs : vBin none .eql (.str (writeS c).1) (.str (writeS c).1) = some (.bool true) := by simp [vBin,vStrOp]
  simp only [pvWr,heq,heqs,zz,Nat.reduceEqDiff]
  exact weakW_keep hR
end Go.Proofs.YtgghfcchanilpaaGreatDoor
