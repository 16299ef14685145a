import Derived.Test.YtgghfcchanilpaaGreatDoorSpRg
set_option linter.unusedVariables false
set_option linter.unusedSimpArgs false
namespace Go.Proofs.YtgghfcchanilpaaGreatDoor
open Go Go.Abs
def pvMapL (l : List SlotS) : PV := .agg [growV (l.map pvSlot)]
def pvIntsL (l : List Int) : PV := growV (l.map pvI)
theorem flatInts (l : List Int) : Flat (pvIntsL l) := flat_map (fun a => .int _ _) l
theorem flatMapL (l : List SlotS) : Flat (pvMapL l) := .agg _ fun x h => by
 simp only [List.mem_cons,List.not_mem_nil,or_false] at h
 subst h
 exact flat_map flatSlot _
theorem c251 {p : Nat} : Gets 251 [.ptr p 0 0 0,.func 175 1 [.ptr p 0 0 0]] p [] (pList pNum) pvIntsL :=
 gets_list (enc := pvI) (sz := 1) (by_ := 8) (fun a0 a1 σ R => (fn251_eq W a0 a1 σ R).trans rfl) (by omega) (fun _ => .int _ _) (fun _ => ⟨_,rfl,rfl⟩) (by kernel_rfl) c175
theorem c172 {p : Nat} : Gets 172 [.ptr p 0 0 0] p [] pInts1 pvIntsL := gets_of fun b g body σ off R hrd h0 hl hok herr => by
 rw [fn172_eq]
 delta fn172
 exact c251.callB hrd h0 hl (fun a off' h1 h2 h3 hr => weakW_keep (hok _ _ h1 h2 h3)) (fun e τ he hs => herr e τ he hs)
theorem c169 {p : Nat} : Gets 169 [.ptr p 0 0 0,.func 170 1 [.ptr p 0 0 0]] p [] (pList pSlot) (fun l => growV (l.map pvSlot)) :=
 gets_list (sz := 5) (by_ := 40) (fun a0 a1 σ R => (fn169_eq W a0 a1 σ R).trans rfl) (by omega) flatSlot (fun _ => ⟨_,rfl,rfl⟩) (by kernel_rfl) c170
theorem c168 {p q : Nat} : Gets 168 [.ptr q 0 0 0] p [(q,cell p)] pMap1 pvMapL := gets_of fun b g body σ off R hrd h0 hl hok herr => by
 rw [fn168_eq]
 delta fn168 uF nL wvR
 have hq := of1 h0
 simp only [load_q hq.1,zz,Nat.reduceEqDiff]
 refine c169.callB hrd no0 hl (fun a o1 q1 l1 m1 _ => ?_) (fun e τ he hs => herr e τ he hs)
 have w1 : vBuild [(.list .nil [])] [(0,1,growV (a.map pvSlot))] = some [growV (a.map pvSlot)] := by
  obtain ⟨k,e⟩ := growV_list (a.map pvSlot)
  rw [e]
  rfl
 have x1 : vPut 1 (.agg [(.list .nil [])]) 0 (.agg [growV (a.map pvSlot)]) = some (.agg [growV (a.map pvSlot)]) := rfl
 have y1 : vPart true 1 (.agg [growV (a.map pvSlot)]) 0 = some (.agg [growV (a.map pvSlot)]) := rfl
 simp only [w1,x1,y1,zz,Nat.reduceEqDiff]
 exact weakW_keep (hok _ _ q1 l1 m1)
theorem put_set {cs : List PV} {n : Nat} {x : PV} (hx : x.cells? = some [x]) (hn : n + 1 ≤ cs.length) : vPut 1 (.agg cs) n x = some (.agg (cs.set n x)) := by
 simp only [vPut,hx,List.length_singleton,if_true,if_pos hn,setRange]
 rw [List.set_eq_take_append_cons_drop,if_pos (by omega)]
 simp
theorem c167 {p q : Nat} : Gets 167 [.ptr p 0 0 0,.func 168 0 [.ptr q 0 0 0]] p [(q,cell p)] (pList pMap1) (fun l => growV (l.map pvMapL)) :=
 gets_list (sz := 1) (by_ := 24) (fun a0 a1 σ R => (fn167_eq W a0 a1 σ R).trans rfl) (by omega) flatMapL (fun _ => ⟨_,rfl,rfl⟩) (by kernel_rfl) c168
theorem c171 {p : Nat} : Gets 171 [.ptr p 0 0 0,.func 172 1 [.ptr p 0 0 0]] p [] (pList pInts1) (fun l => growV (l.map pvIntsL)) :=
 gets_list (sz := 1) (by_ := 24) (fun a0 a1 σ R => (fn171_eq W a0 a1 σ R).trans rfl) (by omega) flatInts (fun _ => sized_grow _) (by kernel_rfl) c172
theorem c173 {p q : Nat} : Gets 173 [.ptr p 0 0 0,.func 174 0 [.ptr q 0 0 0]] p [(q,cell p)] (pList pSig) (fun l => growV (l.map pvSig)) :=
 gets_list (sz := 2) (by_ := 16) (fun a0 a1 σ R => (fn173_eq W a0 a1 σ R).trans rfl) (by omega) flatSig (fun _ => ⟨_,rfl,rfl⟩) (by kernel_rfl) c174
theorem c176 {p : Nat} : Gets 176 [.ptr p 0 0 0,.func 177 1 [.ptr p 0 0 0]] p [] (pList pRout1) (fun l => growV (l.map pvRoutL)) :=
 gets_list (sz := 9) (by_ := 88) (fun a0 a1 σ R => (fn176_eq W a0 a1 σ R).trans rfl) (by omega) flatRout (fun _ => ⟨_,rfl,rfl⟩) (by kernel_rfl) c177
theorem c178 {p : Nat} : Gets 178 [.ptr p 0 0 0,.func 179 1 [.ptr p 0 0 0]] p [] (pList pInst1) (fun l => growV (l.map pvInst)) :=
 gets_list (sz := 12) (by_ := 96) (fun a0 a1 σ R => (fn178_eq W a0 a1 σ R).trans rfl) (by omega) flatInst (fun _ => ⟨_,rfl,rfl⟩) (by kernel_rfl) c179
theorem c180 {p : Nat} : Gets 180 [.ptr p 0 0 0,.func 181 1 [.ptr p 0 0 0]] p [] (pList pText) (fun l => growV (l.map PV.str)) :=
 gets_list (sz := 1) (by_ := 16) (fun a0 a1 σ R => (fn180_eq W a0 a1 σ R).trans rfl) (by omega) (fun _ => .str _) (fun _ => ⟨_,rfl,rfl⟩) (by kernel_rfl) c181
theorem c182 {p q : Nat} : Gets 182 [.ptr p 0 0 0,.func 183 0 [.ptr q 0 0 0]] p [(q,cell p)] (pList pTrans1) (fun l => growV (l.map pvTrans)) :=
 gets_list (sz := 3) (by_ := 32) (fun a0 a1 σ R => (fn182_eq W a0 a1 σ R).trans rfl) (by omega) flatTrans (fun _ => ⟨_,rfl,rfl⟩) (by kernel_rfl) c183
theorem c185 {p q : Nat} : Gets 185 [.ptr p 0 0 0,.func 186 0 [.ptr q 0 0 0]] p [(q,cell p)] (pList pSig) (fun l => growV (l.map pvSig)) :=
 gets_list (sz := 2) (by_ := 16) (fun a0 a1 σ R => (fn185_eq W a0 a1 σ R).trans rfl) (by omega) flatSig (fun _ => ⟨_,rfl,rfl⟩) (by kernel_rfl) c186
def pvCodeL (c : CodeL) : PV := .agg [growV (c.maps.map pvMapL),growV (c.unions.map pvIntsL),growV (c.sigs.map pvSig),growV (c.routs.map pvRoutL),growV (c.insts.map pvInst),growV (c.jumps.map pvIntsL),growV (c.parts.map pvIntsL),growV (c.texts.map PV.str),growV (c.trans.map pvTrans),growV (c.lines.map pvSig)]
theorem flatCode (c : CodeL) : Flat (pvCodeL c) := .agg _ fun x h => by
 simp only [List.mem_cons,List.not_mem_nil,or_false] at h
 rcases h with rfl | rfl | rfl | rfl | rfl | rfl | rfl | rfl | rfl | rfl
 ·exact flat_map flatMapL _
 ·exact flat_map flatInts _
 ·exact flat_map flatSig _
 ·exact flat_map flatRout _
 ·exact flat_map flatInst _
 ·exact flat_map flatInts _
 ·exact flat_map flatInts _
 ·exact flat_map (fun _ => .str _) _
 ·exact flat_map flatTrans _
 ·exact flat_map flatSig _
set_option maxRecDepth 100000 in
theorem c82 {p : Nat} : Gets 82 [.ptr p 0 0 0] p [] pCode1 pvCodeL := gets_of fun b g body σ off R hrd h0 hl hok herr => by
 rw [fn82_eq]
 delta fn82 uF nL wvR
 have hbox : opC.vBoxAny (.ptr p 0 0 0) = some (1,.ptr p 0 0 0) := rfl
 simp only [hbox,zz,Nat.reduceEqDiff]
 rw [if_pos (by omega)]
 simp only [newW_eq]
 have hlt := hrd.lt
 generalize hA : σ ++ [Blk.arr 0 1 [.ptr p 0 0 0]] = A
 have hpre : σ <+: A := ⟨_,hA⟩
 have hq : A[σ.length]? = some (cell p) ∧ σ.length ≠ p := ⟨by simp [← hA,cell],by omega⟩
 have hrA : Rd p b g body A off := hrd.pre hpre
 have hQ : ∀ h ∈ [(σ.length,cell p)],A[h.1]? = some h.2 ∧ h.1 ≠ p := fun h hh => by
  simp only [List.mem_cons,List.not_mem_nil,or_false] at hh
  subst hh
  exact hq
 have hle := hrd.le
 rw [← hrA.self]
 simp only [load_qr hq,zz,Nat.reduceEqDiff]
 refine c167.nextB hrA hle hQ hl (fun a1 o1 q1 l1 m1 => ?_) (fun e τ he hs => herr e τ (pBind_err he) (same_pre hpre hs))
 have w1 : vPut 1 (.agg [(.list .nil []),(.list .nil []),(.list .nil []),(.list .nil []),(.list .nil []),(.list .nil []),(.list .nil []),(.list .nil []),(.list .nil []),(.list .nil [])]) 0 (growV (a1.map pvMapL)) = some (.agg [(growV (a1.map pvMapL)),(.list .nil []),(.list .nil []),(.list .nil []),(.list .nil []),(.list .nil []),(.list .nil []),(.list .nil []),(.list .nil []),(.list .nil [])]) := (put_set (grow_cells _) (by simp)).trans rfl
 simp only [w1,load_qr hq,zz,Nat.reduceEqDiff]
 refine c171.nextB hrA m1 no0 hl (fun a2 o2 q2 l2 m2 => ?_) (fun e τ he hs => herr e τ ((pBind_ok q1).trans (pBind_err he)) (same_pre hpre hs))
 have w2 : vPut 1 (.agg [(growV (a1.map pvMapL)),(.list .nil []),(.list .nil []),(.list .nil []),(.list .nil []),(.list .nil []),(.list .nil []),(.list .nil []),(.list .nil []),(.list .nil [])]) 1 (growV (a2.map pvIntsL)) = some (.agg [(growV (a1.map pvMapL)),(growV (a2.map pvIntsL)),(.list .nil []),(.list .nil []),(.list .nil []),(.list .nil []),(.list .nil []),(.list .nil []),(.list .nil []),(.list .nil [])]) := (put_set (grow_cells _) (by simp)).trans rfl
 simp only [w2,load_qr hq,zz,Nat.reduceEqDiff]
 refine c173.nextB hrA m2 hQ hl (fun a3 o3 q3 l3 m3 => ?_) (fun e τ he hs => herr e τ ((pBind_ok q1).trans ((pBind_ok q2).trans (pBind_err he))) (same_pre hpre hs))
 have w3 : vPut 1 (.agg [(growV (a1.map pvMapL)),(growV (a2.map pvIntsL)),(.list .nil []),(.list .nil []),(.list .nil []),(.list .nil []),(.list .nil []),(.list .nil []),(.list .nil []),(.list .nil [])]) 2 (growV (a3.map pvSig)) = some (.agg [(growV (a1.map pvMapL)),(growV (a2.map pvIntsL)),(growV (a3.map pvSig)),(.list .nil []),(.list .nil []),(.list .nil []),(.list .nil []),(.list .nil []),(.list .nil []),(.list .nil [])]) := (put_set (grow_cells _) (by simp)).trans rfl
 simp only [w3,load_qr hq,zz,Nat.reduceEqDiff]
 refine c176.nextB hrA m3 no0 hl (fun a4 o4 q4 l4 m4 => ?_) (fun e τ he hs => herr e τ ((pBind_ok q1).trans ((pBind_ok q2).trans ((pBind_ok q3).trans (pBind_err he)))) (same_pre hpre hs))
 have w4 : vPut 1 (.agg [(growV (a1.map pvMapL)),(growV (a2.map pvIntsL)),(growV (a3.map pvSig)),(.list .nil []),(.list .nil []),(.list .nil []),(.list .nil []),(.list .nil []),(.list .nil []),(.list .nil [])]) 3 (growV (a4.map pvRoutL)) = some (.agg [(growV (a1.map pvMapL)),(growV (a2.map pvIntsL)),(growV (a3.map pvSig)),(growV (a4.map pvRoutL)),(.list .nil []),(.list .nil []),(.list .nil []),(.list .nil []),(.list .nil []),(.list .nil [])]) := (put_set (grow_cells _) (by simp)).trans rfl
 simp only [w4,load_qr hq,zz,Nat.reduceEqDiff]
 refine c178.nextB hrA m4 no0 hl (fun a5 o5 q5 l5 m5 => ?_) (fun e τ he hs => herr e τ ((pBind_ok q1).trans ((pBind_ok q2).trans ((pBind_ok q3).trans ((pBind_ok q4).trans (pBind_err he))))) (same_pre hpre hs))
 have w5 : vPut 1 (.agg [(growV (a1.map pvMapL)),(growV (a2.map pvIntsL)),(growV (a3.map pvSig)),(growV (a4.map pvRoutL)),(.list .nil []),(.list .nil []),(.list .nil []),(.list .nil []),(.list .nil []),(.list .nil [])]) 4 (growV (a5.map pvInst)) = some (.agg [(growV (a1.map pvMapL)),(growV (a2.map pvIntsL)),(growV (a3.map pvSig)),(growV (a4.map pvRoutL)),(growV (a5.map pvInst)),(.list .nil []),(.list .nil []),(.list .nil []),(.list .nil []),(.list .nil [])]) := (put_set (grow_cells _) (by simp)).trans rfl
 simp only [w5,load_qr hq,zz,Nat.reduceEqDiff]
 refine c171.nextB hrA m5 no0 hl (fun a6 o6 q6 l6 m6 => ?_) (fun e τ he hs => herr e τ ((pBind_ok q1).trans ((pBind_ok q2).trans ((pBind_ok q3).trans ((pBind_ok q4).trans ((pBind_ok q5).trans (pBind_err he)))))) (same_pre hpre hs))
 have w6 : vPut 1 (.agg [(growV (a1.map pvMapL)),(growV (a2.map pvIntsL)),(growV (a3.map pvSig)),(growV (a4.map pvRoutL)),(growV (a5.map pvInst)),(.list .nil []),(.list .nil []),(.list .nil []),(.list .nil []),(.list .nil [])]) 5 (growV (a6.map pvIntsL)) = some (.agg [(growV (a1.map pvMapL)),(growV (a2.map pvIntsL)),(growV (a3.map pvSig)),(growV (a4.map pvRoutL)),(growV (a5.map pvInst)),(growV (a6.map pvIntsL)),(.list .nil []),(.list .nil []),(.list .nil []),(.list .nil [])]) := (put_set (grow_cells _) (by simp)).trans rfl
 simp only [w6,load_qr hq,zz,Nat.reduceEqDiff]
 refine c171.nextB hrA m6 no0 hl (fun a7 o7 q7 l7 m7 => ?_) (fun e τ he hs => herr e τ ((pBind_ok q1).trans ((pBind_ok q2).trans ((pBind_ok q3).trans ((pBind_ok q4).trans ((pBind_ok q5).trans ((pBind_ok q6).trans (pBind_err he))))))) (same_pre hpre hs))
 have w7 : vPut 1 (.agg [(growV (a1.map pvMapL)),(growV (a2.map pvIntsL)),(growV (a3.map pvSig)),(growV (a4.map pvRoutL)),(growV (a5.map pvInst)),(growV (a6.map pvIntsL)),(.list .nil []),(.list .nil []),(.list .nil []),(.list .nil [])]) 6 (growV (a7.map pvIntsL)) = some (.agg [(growV (a1.map pvMapL)),(growV (a2.map pvIntsL)),(growV (a3.map pvSig)),(growV (a4.map pvRoutL)),(growV (a5.map pvInst)),(growV (a6.map pvIntsL)),(growV (a7.map pvIntsL)),(.list .nil []),(.list .nil []),(.list .nil [])]) := (put_set (grow_cells _) (by simp)).trans rfl
 simp only [w7,load_qr hq,zz,Nat.reduceEqDiff]
 refine c180.nextB hrA m7 no0 hl (fun a8 o8 q8 l8 m8 => ?_) (fun e τ he hs => herr e τ ((pBind_ok q1).trans ((pBind_ok q2).trans ((pBind_ok q3).trans ((pBind_ok q4).trans ((pBind_ok q5).trans ((pBind_ok q6).trans ((pBind_ok q7).trans (pBind_err he)))))))) (same_pre hpre hs))
 have w8 : vPut 1 (.agg [(growV (a1.map pvMapL)),(growV (a2.map pvIntsL)),(growV (a3.map pvSig)),(growV (a4.map pvRoutL)),(growV (a5.map pvInst)),(growV (a6.map pvIntsL)),(growV (a7.map pvIntsL)),(.list .nil []),(.list .nil []),(.list .nil [])]) 7 (growV (a8.map PV.str)) = some (.agg [(growV (a1.map pvMapL)),(growV (a2.map pvIntsL)),(growV (a3.map pvSig)),(growV (a4.map pvRoutL)),(growV (a5.map pvInst)),(growV (a6.map pvIntsL)),(growV (a7.map pvIntsL)),(growV (a8.map PV.str)),(.list .nil []),(.list .nil [])]) := (put_set (grow_cells _) (by simp)).trans rfl
 simp only [w8,load_qr hq,zz,Nat.reduceEqDiff]
 refine c182.nextB hrA m8 hQ hl (fun a9 o9 q9 l9 m9 => ?_) (fun e τ he hs => herr e τ ((pBind_ok q1).trans ((pBind_ok q2).trans ((pBind_ok q3).trans ((pBind_ok q4).trans ((pBind_ok q5).trans ((pBind_ok q6).trans ((pBind_ok q7).trans ((pBind_ok q8).trans (pBind_err he))))))))) (same_pre hpre hs))
 have w9 : vPut 1 (.agg [(growV (a1.map pvMapL)),(growV (a2.map pvIntsL)),(growV (a3.map pvSig)),(growV (a4.map pvRoutL)),(growV (a5.map pvInst)),(growV (a6.map pvIntsL)),(growV (a7.map pvIntsL)),(growV (a8.map PV.str)),(.list .nil []),(.list .nil [])]) 8 (growV (a9.map pvTrans)) = some (.agg [(growV (a1.map pvMapL)),(growV (a2.map pvIntsL)),(growV (a3.map pvSig)),(growV (a4.map pvRoutL)),(growV (a5.map pvInst)),(growV (a6.map pvIntsL)),(growV (a7.map pvIntsL)),(growV (a8.map PV.str)),(growV (a9.map pvTrans)),(.list .nil [])]) := (put_set (grow_cells _) (by simp)).trans rfl
 simp only [w9,load_qr hq,zz,Nat.reduceEqDiff]
 refine c185.nextB hrA m9 hQ hl (fun a10 o10 q10 l10 m10 => ?_) (fun e τ he hs => herr e τ ((pBind_ok q1).trans ((pBind_ok q2).trans ((pBind_ok q3).trans ((pBind_ok q4).trans ((pBind_ok q5).trans ((pBind_ok q6).trans ((pBind_ok q7).trans ((pBind_ok q8).trans ((pBind_ok q9).trans (pBind_err he)))))))))) (same_pre hpre hs))
 have w10 : vPut 1 (.agg [(growV (a1.map pvMapL)),(growV (a2.map pvIntsL)),(growV (a3.map pvSig)),(growV (a4.map pvRoutL)),(growV (a5.map pvInst)),(growV (a6.map pvIntsL)),(growV (a7.map pvIntsL)),(growV (a8.map PV.str)),(growV (a9.map pvTrans)),(.list .nil [])]) 9 (growV (a10.map pvSig)) = some (.agg [(growV (a1.map pvMapL)),(growV (a2.map pvIntsL)),(growV (a3.map pvSig)),(growV (a4.map pvRoutL)),(growV (a5.map pvInst)),(growV (a6.map pvIntsL)),(growV (a7.map pvIntsL)),(growV (a8.map PV.str)),(growV (a9.map pvTrans)),(growV (a10.map pvSig))]) := (put_set (grow_cells _) (by simp)).trans rfl
 have y : vPart true 10 (.agg [(growV (a1.map pvMapL)),(growV (a2.map pvIntsL)),(growV (a3.map pvSig)),(growV (a4.map pvRoutL)),(growV (a5.map pvInst)),(growV (a6.map pvIntsL)),(growV (a7.map pvIntsL)),(growV (a8.map PV.str)),(growV (a9.map pvTrans)),(growV (a10.map pvSig))]) 0 = some (.agg [(growV (a1.map pvMapL)),(growV (a2.map pvIntsL)),(growV (a3.map pvSig)),(growV (a4.map pvRoutL)),(growV (a5.map pvInst)),(growV (a6.map pvIntsL)),(growV (a7.map pvIntsL)),(growV (a8.map PV.str)),(growV (a9.map pvTrans)),(growV (a10.map pvSig))]) := rfl
 have x : vPut 10 (.agg [(.list .nil []),(.list .nil []),(.list .nil []),(.list .nil []),(.list .nil []),(.list .nil []),(.list .nil []),(.list .nil []),(.list .nil []),(.list .nil [])]) 0 (.agg [(growV (a1.map pvMapL)),(growV (a2.map pvIntsL)),(growV (a3.map pvSig)),(growV (a4.map pvRoutL)),(growV (a5.map pvInst)),(growV (a6.map pvIntsL)),(growV (a7.map pvIntsL)),(growV (a8.map PV.str)),(growV (a9.map pvTrans)),(growV (a10.map pvSig))]) = some (.agg [(growV (a1.map pvMapL)),(growV (a2.map pvIntsL)),(growV (a3.map pvSig)),(growV (a4.map pvRoutL)),(growV (a5.map pvInst)),(growV (a6.map pvIntsL)),(growV (a7.map pvIntsL)),(growV (a8.map PV.str)),(growV (a9.map pvTrans)),(growV (a10.map pvSig))]) := vPut_agg rfl rfl
 simp only [w10,x,y,zz,Nat.reduceEqDiff]
 refine weakW_kill (fun c => σ.length ≤ c) (kill_rd (off2 := o10) hrd ?_) (.base _ ((flatCode ⟨a1,a2,a3,a4,a5,a6,a7,a8,a9,a10⟩).free _)) (hok ⟨a1,a2,a3,a4,a5,a6,a7,a8,a9,a10⟩ o10 ((pBind_ok q1).trans ((pBind_ok q2).trans ((pBind_ok q3).trans ((pBind_ok q4).trans ((pBind_ok q5).trans ((pBind_ok q6).trans ((pBind_ok q7).trans ((pBind_ok q8).trans ((pBind_ok q9).trans (pBind_ok q10)))))))))) (by omega) m10)
 rw [← hA,rdSet_app hlt]
 exact ⟨_,rfl⟩
end Go.Proofs.YtgghfcchanilpaaGreatDoor
