import Derived.Test.YtgghfcchanilpaaGreatDoorSpRj
import Derived.Test.YtgghfcchanilpaaGreatDoorSpTd
set_option linter.unusedVariables false
set_option linter.unusedSimpArgs false
namespace Go.Proofs.YtgghfcchanilpaaGreatDoor
open Go Go.Abs
theorem whole_head (c : CodeS) : (wholeB c).take 4 = markB ∧ 8 ≤ (wholeB c).length := by
 have e : wholeB c = markB ++ (codeW (codeL c) ++ fourB (sumS (bodyB c))) := by simp [wholeB,bodyB]
 have h4 : (fourB (sumS (bodyB c))).length = 4 := rfl
 have hm : markB.length = 4 := rfl
 rw [e]
 constructor
 ·rw [List.take_append_of_le_length (by omega),List.take_of_length_le (by omega)]
 ·simp only [List.length_append]
  omega
end Go.Proofs.YtgghfcchanilpaaGreatDoor
namespace Go.Proofs.YtgghfcchanilpaaGreatDoor
open Go Go.Abs
theorem read_whole {c : CodeS} (hi : CodeI (codeL c)) (hl : (wholeB c).length ≤ 1048576) (hz : (checkS (codeS (codeL c)) 470 49).2 = 0) : readR (wholeB c) = .ok (codeL c) := by
 obtain ⟨h4,h8⟩ := whole_head c
 have hf : (fourB (sumS (bodyB c))).length = 4 := rfl
 have hln : (wholeB c).length = (bodyB c).length + 4 := by
  unfold wholeB
  rw [List.length_append,hf]
 have ht : (wholeB c).take ((wholeB c).length - 4) = bodyB c := by
  rw [hln,Nat.add_sub_cancel]
  unfold wholeB
  rw [List.take_append_of_le_length (Nat.le_refl _),List.take_length]
 have hd : (wholeB c).drop ((wholeB c).length - 4) = fourB (sumS (bodyB c)) := by
  rw [hln,Nat.add_sub_cancel]
  unfold wholeB
  rw [List.drop_append_of_le_length (Nat.le_refl _),List.drop_length,List.nil_append]
 have hb : (bodyB c).drop 4 = codeW (codeL c) := rfl
 have hp : pCode1 (codeW (codeL c)) = .ok (codeL c,[]) := by
  have := back_code (codeL c) [] hi
  rw [List.append_nil] at this
  exact this
 unfold readR
 rw [if_neg (by omega),if_neg (by omega),if_neg (by rw [h4]; simp),ht,hd,if_neg (by simp),hb,hp]
 simp [hz]
theorem write_check {c : CodeS} (hl : (wholeB c).length ≤ 1048576) : ((checkS c 470 49).2 ≠ 0 ∧ writeS c = ([],(checkS c 470 49).2)) ∨ ((checkS c 470 49).2 = 0 ∧ writeS c = (wholeB c,0)) := by
 unfold writeS
 by_cases h : (checkS c 470 49).2 ≠ 0
 ·exact .inl ⟨h,if_pos h⟩
 ·refine .inr ⟨Decidable.not_not.1 h,?_⟩
  rw [if_neg h,if_neg (by omega)]
theorem whole_back (c : CodeS) : wholeB (codeS (codeL c)) = wholeB c := by
 unfold wholeB bodyB
 rw [code_back]
set_option maxRecDepth 100000 in
theorem c10' {c : CodeS} (hc : Okay c) (hi : CodeI (codeL c)) (hok : Okay (codeS (codeL c))) (hck : checkS (codeS (codeL c)) 470 49 = checkS c 470 49) : Ret W 10 [pvCode c] [] (.bool true) := by
 refine ret_of fun R hR => ?_
 rw [fn10_eq]
 delta fn10 bF gF nI nL
 simp only [code_parts,zz,Nat.reduceEqDiff]
 refine c12.callB ?_
 simp only [zz,Nat.reduceEqDiff]
 refine (c23x hc _).callB ?_
 cases hfew : fewB c with
 | false =>
  simp only [zz,Nat.reduceEqDiff]
  refine c12.callB ?_
  exact weakW_keep hR
 | true =>
  have hl := few_len hfew
  simp only [zz,Nat.reduceEqDiff]
  refine (c29 hc hi _).callB ?_
  rcases write_check hl with ⟨hne,hw⟩ | ⟨hz,hw⟩
  ·rw [hw]
   have hb : ((checkS c 470 49).2 != 0) = true := by simpa using hne
   simp only [pvWr,hb,zz,Nat.reduceEqDiff]
   refine (c24 hc (nums_of hi) _).callB ?_
   have hf : vFieldV false 1 (pvSig (checkS c 470 49)) 1 = some (.int .i64 (checkS c 470 49).2) := rfl
   simp only [hf,beq_self_eq_true,zz,Nat.reduceEqDiff]
   exact weakW_keep hR
  ·rw [hw]
   simp only [pvWr,zz,Nat.reduceEqDiff]
   refine (c32 (wholeB c) (by omega) _).callB ?_
   rw [read_whole hi hl (by rw [hck]; exact hz)]
   have hpv := pv_code (codeL c)
   have hi' : CodeI (codeL (codeS (codeL c))) := by rw [code_back]; exact hi
   have hp : vPut 10 (.agg nil10) 0 (pvCode (codeS (codeL c))) = some (pvCode (codeS (codeL c))) := vPut_agg rfl rfl
   have hres : resR (.ok (codeL c)) = .tuple [pvCode (codeS (codeL c)),.int .i64 0] := by
    show PV.tuple [pvCodeL (codeL c),.int .i64 0] = _
    rw [hpv]
   rw [hres]
   simp only [hp,code_parts,zz,Nat.reduceEqDiff]
   refine (c29 hok hi' _).callB ?_
   have hw2 : writeS (codeS (codeL c)) = (wholeB c,0) := by
    rcases write_check (c := codeS (codeL c)) (by rw [whole_back]; exact hl) with ⟨h,-⟩ | ⟨-,h⟩
    ·rw [hck] at h
     exact absurd hz h
    ·rw [h,whole_back]
   rw [hw2]
   simp only [pvWr,code_parts,zz,Nat.reduceEqDiff]
   refine (c34 (code_back _).symm hc _).callB ?_
   simp only [beq_self_eq_true,zz,Nat.reduceEqDiff]
   exact weakW_keep hR
end Go.Proofs.YtgghfcchanilpaaGreatDoor
namespace Go.Proofs.YtgghfcchanilpaaGreatDoor
open Go Go.Abs
theorem any_same {α β : Type} {f : α → β} {l m : List α} (h : l.map f = m.map f) {p : α → Bool} (g : β → Bool) (hp : ∀ x,p x = g (f x)) : l.any p = m.any p := by
 have e : ∀ l : List α,l.any p = (l.map f).any g := fun l => by
  rw [List.any_map]
  congr 1
  funext x
  exact hp x
 rw [e,e,h]
theorem getD_same {α β : Type} {f : α → β} {l m : List α} (h : l.map f = m.map f) (i : Nat) (d : α) : f (l.getD i d) = f (m.getD i d) := by
 have e : ∀ l : List α,f (l.getD i d) = (l.map f).getD i (f d) := fun l => by
  simp only [List.getD_eq_getElem?_getD,List.getElem?_map]
  cases l[i]? <;> rfl
 rw [e,e,h]
structure Alk (a b : CodeS) : Prop where
 maps : a.maps.2.map (fun m : Sl SlotS => m.2) = b.maps.2.map (fun m : Sl SlotS => m.2)
 unions : a.unions.2.map (fun m : Sl Int => m.2) = b.unions.2.map (fun m : Sl Int => m.2)
 jumps : a.jumps.2.map (fun m : Sl Int => m.2) = b.jumps.2.map (fun m : Sl Int => m.2)
 parts : a.parts.2.map (fun m : Sl Int => m.2) = b.parts.2.map (fun m : Sl Int => m.2)
 routs : a.routs.2.map routL = b.routs.2.map routL
 sigs : a.sigs.2 = b.sigs.2
 insts : a.insts.2 = b.insts.2
 texts : a.texts.2 = b.texts.2
 trans : a.trans.2 = b.trans.2
 lines : a.lines.2 = b.lines.2
theorem alk_of {a b : CodeS} (h : codeL a = codeL b) : Alk a b := ⟨congrArg CodeL.maps h,congrArg CodeL.unions h,congrArg CodeL.jumps h,congrArg CodeL.parts h,congrArg CodeL.routs h,congrArg CodeL.sigs h,congrArg CodeL.insts h,congrArg CodeL.texts h,congrArg CodeL.trans h,congrArg CodeL.lines h⟩
section
variable {a b : CodeS} (k : Alk a b)
include k
theorem Alk.lm : len a.maps = len b.maps := (len_same k.maps).symm
theorem Alk.lu : len a.unions = len b.unions := (len_same k.unions).symm
theorem Alk.lj : len a.jumps = len b.jumps := (len_same k.jumps).symm
theorem Alk.lp : len a.parts = len b.parts := (len_same k.parts).symm
theorem Alk.lr : len a.routs = len b.routs := (len_same k.routs).symm
theorem Alk.ls : len a.sigs = len b.sigs := by unfold len; rw [k.sigs]
theorem Alk.li : len a.insts = len b.insts := by unfold len; rw [k.insts]
theorem Alk.lt : len a.texts = len b.texts := by unfold len; rw [k.texts]
theorem Alk.lx : len a.trans = len b.trans := by unfold len; rw [k.trans]
theorem Alk.ll : len a.lines = len b.lines := by unfold len; rw [k.lines]
theorem Alk.rl : a.routs.2.length = b.routs.2.length := by
 have := congrArg List.length k.routs
 simpa using this
theorem Alk.r (i : Int) : routL (rAt a i) = routL (rAt b i) := getD_same k.routs _ _
theorem Alk.r1 (i : Int) : (rAt a i).sig = (rAt b i).sig := congrArg RoutL.sig (k.r i)
theorem Alk.r2 (i : Int) : (rAt a i).frame = (rAt b i).frame := congrArg RoutL.frame (k.r i)
theorem Alk.r3 (i : Int) : (rAt a i).fr = (rAt b i).fr := congrArg RoutL.fr (k.r i)
theorem Alk.r4 (i : Int) : (rAt a i).to = (rAt b i).to := congrArg RoutL.to (k.r i)
theorem Alk.r5 (i : Int) : (rAt a i).outer = (rAt b i).outer := congrArg RoutL.outer (k.r i)
theorem Alk.r6 (i : Int) : (rAt a i).within = (rAt b i).within := congrArg RoutL.within (k.r i)
theorem Alk.r7 (i : Int) : (rAt a i).level = (rAt b i).level := congrArg RoutL.level (k.r i)
theorem Alk.r8 (i : Int) : (rAt a i).needs = (rAt b i).needs := congrArg RoutL.needs (k.r i)
theorem Alk.r9 (i : Int) : (rAt a i).ranges.2 = (rAt b i).ranges.2 := congrArg RoutL.ranges (k.r i)
theorem Alk.r10 (i : Int) : len (rAt a i).ranges = len (rAt b i).ranges := by unfold len; rw [k.r9]
theorem Alk.m (i : Int) : (mAt a i).2 = (mAt b i).2 := getD_same (f := fun m : Sl SlotS => m.2) k.maps _ _
theorem Alk.mlen (i : Int) : len (mAt a i) = len (mAt b i) := by unfold len; rw [k.m]
theorem Alk.s (i : Int) : sAt a i = sAt b i := by unfold sAt atI; rw [k.sigs]
theorem Alk.i (i : Int) : iAt a i = iAt b i := by unfold iAt atI; rw [k.insts]
theorem Alk.j (i : Int) : (atI (.nil,[]) a.jumps i).2 = (atI (.nil,[]) b.jumps i).2 := getD_same (f := fun m : Sl Int => m.2) k.jumps _ _
theorem Alk.jlen (i : Int) : len (atI (.nil,[]) a.jumps i) = len (atI (.nil,[]) b.jumps i) := by unfold len; rw [k.j]
theorem Alk.p (i : Int) : (atI (.nil,[]) a.parts i).2 = (atI (.nil,[]) b.parts i).2 := getD_same (f := fun m : Sl Int => m.2) k.parts _ _
theorem Alk.fur : ∀ (n : Nat) (r : Int),furS a n r = furS b n r
 | 0,r => rfl
 | n + 1,r => by simp only [furS,k.r5,Alk.fur n]
theorem Alk.reaN : ∀ (n : Nat) (r : Int),reachN a n r = reachN b n r
 | 0,r => rfl
 | n + 1,r => by simp only [reachN,k.r5,k.r7,Alk.reaN n]
theorem Alk.reach (r n : Int) : reachS a r n = reachS b r n := by unfold reachS; rw [k.reaN]
theorem Alk.over : overB a = overB b := by
 unfold overB lensOver innerOver longL
 rw [k.li,k.lm,k.lu,k.ls,k.lr,k.lj,k.lp,k.lt,k.lx,k.ll,k.texts,any_same (p := fun m => decide (len m > 1000)) k.maps (fun l => decide ((l.length : Int) > 1000)) (fun _ => rfl),any_same (p := fun r => decide (len r.ranges > 4000)) k.routs (fun l => decide ((l.ranges.length : Int) > 4000)) (fun _ => rfl),
  any_same (p := fun t => decide (len t > 4000)) k.unions (fun l => decide ((l.length : Int) > 4000)) (fun _ => rfl),any_same (p := fun t => decide (len t > 4000)) k.jumps (fun l => decide ((l.length : Int) > 4000)) (fun _ => rfl),any_same (p := fun t => decide (len t > 4000)) k.parts (fun l => decide ((l.length : Int) > 4000)) (fun _ => rfl)]
theorem Alk.slot (s : SlotS) : slotB a s = slotB b s := by unfold slotB slotN; rw [k.lm,k.lu,k.ls]
theorem Alk.slots : slotsBad a = slotsBad b := by
 unfold slotsBad
 simp only [k.slot]
 exact any_same k.maps (fun l => l.any fun s => !slotB b s) (fun _ => rfl)
theorem Alk.links : linksE a = linksE b := by
 unfold linksE unionsBad sigsBad unionsEmpty
 rw [k.lm,k.sigs,any_same k.unions (fun l => l.any fun m => !inS m (len b.maps)) (fun _ => rfl),any_same (p := fun u => decide (len u = 0)) k.unions (fun l => decide ((l.length : Int) = 0)) (fun _ => rfl)]
theorem Alk.rout (i : Nat) : routE a i = routE b i := by
 unfold routE headBad orderBad fromS shapeBad rangesE resL parL frmL backBad needBad
 simp only [k.r1,k.r2,k.r3,k.r4,k.r5,k.r6,k.r7,k.r8,k.r9,k.r10,k.m,k.s,k.fur,k.lm,k.ls,k.lr,k.li]
theorem Alk.routs2 : routsE a = routsE b := by
 unfold routsE
 rw [k.lr,k.rl]
 rw [show routE a = routE b from funext k.rout]
theorem Alk.tables : tablesE a = tablesE b := by
 have hl : ∀ n,lAt a n = lAt b n := fun n => by unfold lAt; rw [k.lines]
 have hp : ∀ n,prevS a n = prevS b n := fun n => by cases n <;> simp only [prevS,hl]
 have he : lineE a = lineE b := funext fun n => by unfold lineE; simp only [hl,hp,k.li]
 unfold tablesE transBad
 rw [k.trans,k.lm,k.lines,he]
theorem Alk.head : headE a = headE b := by
 funext n
 unfold headE
 rw [k.over,k.slots,k.links,k.routs2,k.tables]
theorem Alk.operand (o : OperS) (l r : Int) : operandS a o l r = operandS b o l r := by
 unfold operandS
 simp only [k.reach,k.r2,k.r10,k.mlen]
theorem Alk.inst (x y : Int) (i : InstS) (r : Int) : instE a x y i r = instE b x y i r := by
 have ho : ∀ n,outB (rAt a n) = outB (rAt b n) := fun n => by funext m; unfold outB; simp only [k.r3,k.r4]
 unfold instE modeBad numBad wideS secondS mostS inRout outerR tableS jumpB
 simp only [k.operand,k.lm,k.lt,k.lj,k.lp,k.lx,k.lr,k.r3,k.r4,k.r5,k.r10,k.fur,k.j,k.jlen,k.p,ho]
omit k in
theorem idx_same : ∀ (l m : List RoutS) (n : Nat) (at_ : Int),l.map routL = m.map routL → idxOf (inR at_) l n = idxOf (inR at_) m n
 | [],[],_,_,_ => rfl
 | x :: l,y :: m,n,at_,h => by
  simp only [List.map_cons,List.cons.injEq] at h
  have e : inR at_ x = inR at_ y := by
   unfold inR
   rw [show x.fr = y.fr from congrArg RoutL.fr h.1,show x.to = y.to from congrArg RoutL.to h.1]
  simp only [idxOf,e,idx_same l m (n + 1) at_ h.2]
 | [],_ :: _,_,_,h => by simp at h
 | _ :: _,[],_,_,h => by simp at h
theorem Alk.check (x y : Int) : checkS a x y = checkS b x y := by
 have ha : atE a x y = atE b x y := funext fun n => by
  unfold atE
  rw [k.i,k.inst,idx_same _ _ _ _ k.routs]
 unfold checkS
 rw [k.head,ha,k.insts]
end
theorem okay_back {c : CodeS} (hc : Okay c) : Okay (codeS (codeL c)) where
 maps := by show ((c.maps.2.map _).map _).length ≤ _; rw [List.length_map,List.length_map]; exact hc.maps
 unions := by show ((c.unions.2.map _).map _).length ≤ _; rw [List.length_map,List.length_map]; exact hc.unions
 jumps := by show ((c.jumps.2.map _).map _).length ≤ _; rw [List.length_map,List.length_map]; exact hc.jumps
 parts := by show ((c.parts.2.map _).map _).length ≤ _; rw [List.length_map,List.length_map]; exact hc.parts
 routs := by show ((c.routs.2.map _).map _).length ≤ _; rw [List.length_map,List.length_map]; exact hc.routs
 sigs := by show (c.sigs.2.map _).length ≤ _; rw [List.length_map]; exact hc.sigs
 insts := by show (c.insts.2.map _).length ≤ _; rw [List.length_map]; exact hc.insts
 texts := by show (c.texts.2.map _).length ≤ _; rw [List.length_map]; exact hc.texts
 trans := by show (c.trans.2.map _).length ≤ _; rw [List.length_map]; exact hc.trans
 lines := by show (c.lines.2.map _).length ≤ _; rw [List.length_map]; exact hc.lines
 slots := fun m hm => by
  obtain ⟨l,hl,rfl⟩ := List.mem_map.1 hm
  obtain ⟨x,hx,rfl⟩ := List.mem_map.1 hl
  show (x.2.map id).length ≤ _
  rw [List.length_map]
  exact hc.slots x hx
 union := fun m hm => by
  obtain ⟨l,hl,rfl⟩ := List.mem_map.1 hm
  obtain ⟨x,hx,rfl⟩ := List.mem_map.1 hl
  show (x.2.map id).length ≤ _
  rw [List.length_map]
  exact hc.union x hx
 jump := fun m hm => by
  obtain ⟨l,hl,rfl⟩ := List.mem_map.1 hm
  obtain ⟨x,hx,rfl⟩ := List.mem_map.1 hl
  show (x.2.map id).length ≤ _
  rw [List.length_map]
  exact hc.jump x hx
 part := fun m hm => by
  obtain ⟨l,hl,rfl⟩ := List.mem_map.1 hm
  obtain ⟨x,hx,rfl⟩ := List.mem_map.1 hl
  show (x.2.map id).length ≤ _
  rw [List.length_map]
  exact hc.part x hx
 ranges := fun m hm => by
  obtain ⟨l,hl,rfl⟩ := List.mem_map.1 hm
  obtain ⟨x,hx,rfl⟩ := List.mem_map.1 hl
  show (x.ranges.2.map id).length ≤ _
  rw [List.length_map]
  exact hc.ranges x hx
 text := fun m hm => by
  obtain ⟨l,hl,rfl⟩ := List.mem_map.1 hm
  exact hc.text l hl
 word := fun m hm => by
  obtain ⟨l,hl,rfl⟩ := List.mem_map.1 hm
  exact hc.word l hl
theorem c10 {c : CodeS} (hc : Okay c) (hi : CodeI (codeL c)) : Ret W 10 [pvCode c] [] (.bool true) := c10' hc hi (okay_back hc) ((alk_of (code_back (codeL c))).check 470 49)
end Go.Proofs.YtgghfcchanilpaaGreatDoor
