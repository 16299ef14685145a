import Derived.Test.YtgghfcchanilpaaGreatDoorSpRg
set_option linter.unusedVariables false
set_option linter.unusedSimpArgs false
namespace Go.Proofs.YtgghfcchanilpaaGreatDoor
open Go Go.Abs
def QK (l : List Xb) : PV := .agg [Q1 (l.map Qm)]
def Qa (l : List Int) : PV := Q1 (l.map pvI)
theorem V7 (l : List Int) : Flat (Qa l) := Xv (fun a => .int _ _) l
theorem Pq (l : List Xb) : Flat (QK l) := .agg _ fun x h => by
 simp only [List.mem_cons,List.not_mem_nil,or_false] at h
 subst h
 exact Xv NP _
theorem c251 {p : Nat} : Yn 251 [.ptr p 0 0 0,.func 175 1 [.ptr p 0 0 0]] p [] (Xf Xq) Qa :=
 Zz (enc := pvI) (sz := 1) (by_ := 8) (fun a0 a1 σ R => (Ev W a0 a1 σ R).trans rfl) (by omega) (fun _ => .int _ _) (fun _ => ⟨_,rfl,rfl⟩) (by kernel_rfl) c175
theorem uH {p : Nat} : Yn 172 [.ptr p 0 0 0] p [] UI Qa := Zs fun b g body σ off R hrd h0 hl hok herr => by
 rw [GM]
 delta Cs
 exact c251.Q0 hrd h0 hl (fun a off' h1 h2 h3 hr => Q2 (hok _ _ h1 h2 h3)) (fun e τ he hs => herr e τ he hs)
theorem c169 {p : Nat} : Yn 169 [.ptr p 0 0 0,.func 170 1 [.ptr p 0 0 0]] p [] (Xf N4) (fun l => Q1 (l.map Qm)) :=
 Zz (sz := 5) (by_ := 40) (fun a0 a1 σ R => (FY W a0 a1 σ R).trans rfl) (by omega) NP (fun _ => ⟨_,rfl,rfl⟩) (by kernel_rfl) c170
theorem c168 {p q : Nat} : Yn 168 [.ptr q 0 0 0] p [(q,cell p)] MA QK := Zs fun b g body σ off R hrd h0 hl hok herr => by
 rw [El]
 delta B9 uF nL wvR
 have hq := of1 h0
 simp only [On hq.1,zz,Nat.reduceEqDiff]
 refine c169.Q0 hrd no0 hl (fun a o1 q1 l1 m1 _ => ?_) (fun e τ he hs => herr e τ he hs)
 have w1 : QF [(.list .nil [])] [(0,1,Q1 (a.map Qm))] = some [Q1 (a.map Qm)] := by
  obtain ⟨k,e⟩ := Ug (a.map Qm)
  rw [e]
  rfl
 have x1 : Qv 1 (.agg [(.list .nil [])]) 0 (.agg [Q1 (a.map Qm)]) = some (.agg [Q1 (a.map Qm)]) := rfl
 have y1 : Q6 true 1 (.agg [Q1 (a.map Qm)]) 0 = some (.agg [Q1 (a.map Qm)]) := rfl
 simp only [w1,x1,y1,zz,Nat.reduceEqDiff]
 exact Q2 (hok _ _ q1 l1 m1)
theorem Vs {cs : List PV} {n : Nat} {x : PV} (hx : x.cells? = some [x]) (hn : n + 1 ≤ cs.length) : Qv 1 (.agg cs) n x = some (.agg (cs.set n x)) := by
 simp only [Qv,hx,List.length_singleton,if_true,if_pos hn,Z5]
 rw [List.set_eq_take_append_cons_drop,if_pos (by omega)]
 simp
theorem c167 {p q : Nat} : Yn 167 [.ptr p 0 0 0,.func 168 0 [.ptr q 0 0 0]] p [(q,cell p)] (Xf MA) (fun l => Q1 (l.map QK)) :=
 Zz (sz := 1) (by_ := 24) (fun a0 a1 σ R => (Es W a0 a1 σ R).trans rfl) (by omega) Pq (fun _ => ⟨_,rfl,rfl⟩) (by kernel_rfl) c168
theorem c171 {p : Nat} : Yn 171 [.ptr p 0 0 0,.func 172 1 [.ptr p 0 0 0]] p [] (Xf UI) (fun l => Q1 (l.map Qa)) :=
 Zz (sz := 1) (by_ := 24) (fun a0 a1 σ R => (Fu W a0 a1 σ R).trans rfl) (by omega) V7 (fun _ => Mb _) (by kernel_rfl) uH
theorem c173 {p q : Nat} : Yn 173 [.ptr p 0 0 0,.func 174 0 [.ptr q 0 0 0]] p [(q,cell p)] (Xf PO) (fun l => Q1 (l.map Qw)) :=
 Zz (sz := 2) (by_ := 16) (fun a0 a1 σ R => (Gv W a0 a1 σ R).trans rfl) (by omega) TJ (fun _ => ⟨_,rfl,rfl⟩) (by kernel_rfl) c174
theorem c176 {p : Nat} : Yn 176 [.ptr p 0 0 0,.func 177 1 [.ptr p 0 0 0]] p [] (Xf TH) (fun l => Q1 (l.map Qx)) :=
 Zz (sz := 9) (by_ := 88) (fun a0 a1 σ R => (EJ W a0 a1 σ R).trans rfl) (by omega) TT (fun _ => ⟨_,rfl,rfl⟩) (by kernel_rfl) c177
theorem c178 {p : Nat} : Yn 178 [.ptr p 0 0 0,.func 179 1 [.ptr p 0 0 0]] p [] (Xf Uf) (fun l => Q1 (l.map QD)) :=
 Zz (sz := 12) (by_ := 96) (fun a0 a1 σ R => (GZ W a0 a1 σ R).trans rfl) (by omega) O2 (fun _ => ⟨_,rfl,rfl⟩) (by kernel_rfl) c179
theorem c180 {p : Nat} : Yn 180 [.ptr p 0 0 0,.func 181 1 [.ptr p 0 0 0]] p [] (Xf S0) (fun l => Q1 (l.map PV.str)) :=
 Zz (sz := 1) (by_ := 16) (fun a0 a1 σ R => (FZ W a0 a1 σ R).trans rfl) (by omega) (fun _ => .str _) (fun _ => ⟨_,rfl,rfl⟩) (by kernel_rfl) xB
theorem c182 {p q : Nat} : Yn 182 [.ptr p 0 0 0,.func 183 0 [.ptr q 0 0 0]] p [(q,cell p)] (Xf Ux) (fun l => Q1 (l.map QY)) :=
 Zz (sz := 3) (by_ := 32) (fun a0 a1 σ R => (GN W a0 a1 σ R).trans rfl) (by omega) Oo (fun _ => ⟨_,rfl,rfl⟩) (by kernel_rfl) c183
theorem c185 {p q : Nat} : Yn 185 [.ptr p 0 0 0,.func 186 0 [.ptr q 0 0 0]] p [(q,cell p)] (Xf PO) (fun l => Q1 (l.map Qw)) :=
 Zz (sz := 2) (by_ := 16) (fun a0 a1 σ R => (EG W a0 a1 σ R).trans rfl) (by omega) TJ (fun _ => ⟨_,rfl,rfl⟩) (by kernel_rfl) c186
def Y8 (c : ZD) : PV := .agg [Q1 (c.maps.map QK),Q1 (c.unions.map Qa),Q1 (c.sigs.map Qw),Q1 (c.routs.map Qx),Q1 (c.insts.map QD),Q1 (c.jumps.map Qa),Q1 (c.parts.map Qa),Q1 (c.texts.map PV.str),Q1 (c.trans.map QY),Q1 (c.lines.map Qw)]
theorem NU (c : ZD) : Flat (Y8 c) := .agg _ fun x h => by
 simp only [List.mem_cons,List.not_mem_nil,or_false] at h
 rcases h with rfl | rfl | rfl | rfl | rfl | rfl | rfl | rfl | rfl | rfl
 ·exact Xv Pq _
 ·exact Xv V7 _
 ·exact Xv TJ _
 ·exact Xv TT _
 ·exact Xv O2 _
 ·exact Xv V7 _
 ·exact Xv V7 _
 ·exact Xv (fun _ => .str _) _
 ·exact Xv Oo _
 ·exact Xv TJ _
set_option maxRecDepth 100000 in
theorem c82 {p : Nat} : Yn 82 [.ptr p 0 0 0] p [] TB Y8 := Zs fun b g body σ off R hrd h0 hl hok herr => by
 rw [C6]
 delta vI uF nL wvR
 have hbox : opC.vBoxAny (.ptr p 0 0 0) = some (1,.ptr p 0 0 0) := rfl
 simp only [hbox,zz,Nat.reduceEqDiff]
 rw [if_pos (by omega)]
 simp only [Vo]
 have hlt := hrd.lt
 generalize hA : σ ++ [Blk.arr 0 1 [.ptr p 0 0 0]] = A
 have hpre : σ <+: A := ⟨_,hA⟩
 have hq : A[σ.length]? = some (cell p) ∧ σ.length ≠ p := ⟨by simp [← hA,cell],by omega⟩
 have hrA : Rd p b g body A off := hrd.pre hpre
 have hQ : ∀ h ∈ [(σ.length,cell p)],A[h.1]? = some h.2 ∧ h.1 ≠ p := fun h hh => by
  simp only [List.mem_cons,List.not_mem_nil,or_false] at hh
  subst hh
  exact hq
 have hle := hrd.le
 rw [← hrA.self]
 simp only [XH hq,zz,Nat.reduceEqDiff]
 refine c167.Xc hrA hle hQ hl (fun a1 o1 q1 l1 m1 => ?_) (fun e τ he hs => herr e τ (QN he) (XP hpre hs))
 have w1 : Qv 1 (.agg [(.list .nil []),(.list .nil []),(.list .nil []),(.list .nil []),(.list .nil []),(.list .nil []),(.list .nil []),(.list .nil []),(.list .nil []),(.list .nil [])]) 0 (Q1 (a1.map QK)) = some (.agg [(Q1 (a1.map QK)),(.list .nil []),(.list .nil []),(.list .nil []),(.list .nil []),(.list .nil []),(.list .nil []),(.list .nil []),(.list .nil []),(.list .nil [])]) := (Vs (XC _) (by simp)).trans rfl
 simp only [w1,XH hq,zz,Nat.reduceEqDiff]
 refine c171.Xc hrA m1 no0 hl (fun a2 o2 q2 l2 m2 => ?_) (fun e τ he hs => herr e τ ((Qe q1).trans (QN he)) (XP hpre hs))
 have w2 : Qv 1 (.agg [(Q1 (a1.map QK)),(.list .nil []),(.list .nil []),(.list .nil []),(.list .nil []),(.list .nil []),(.list .nil []),(.list .nil []),(.list .nil []),(.list .nil [])]) 1 (Q1 (a2.map Qa)) = some (.agg [(Q1 (a1.map QK)),(Q1 (a2.map Qa)),(.list .nil []),(.list .nil []),(.list .nil []),(.list .nil []),(.list .nil []),(.list .nil []),(.list .nil []),(.list .nil [])]) := (Vs (XC _) (by simp)).trans rfl
 simp only [w2,XH hq,zz,Nat.reduceEqDiff]
 refine c173.Xc hrA m2 hQ hl (fun a3 o3 q3 l3 m3 => ?_) (fun e τ he hs => herr e τ ((Qe q1).trans ((Qe q2).trans (QN he))) (XP hpre hs))
 have w3 : Qv 1 (.agg [(Q1 (a1.map QK)),(Q1 (a2.map Qa)),(.list .nil []),(.list .nil []),(.list .nil []),(.list .nil []),(.list .nil []),(.list .nil []),(.list .nil []),(.list .nil [])]) 2 (Q1 (a3.map Qw)) = some (.agg [(Q1 (a1.map QK)),(Q1 (a2.map Qa)),(Q1 (a3.map Qw)),(.list .nil []),(.list .nil []),(.list .nil []),(.list .nil []),(.list .nil []),(.list .nil []),(.list .nil [])]) := (Vs (XC _) (by simp)).trans rfl
 simp only [w3,XH hq,zz,Nat.reduceEqDiff]
 refine c176.Xc hrA m3 no0 hl (fun a4 o4 q4 l4 m4 => ?_) (fun e τ he hs => herr e τ ((Qe q1).trans ((Qe q2).trans ((Qe q3).trans (QN he)))) (XP hpre hs))
 have w4 : Qv 1 (.agg [(Q1 (a1.map QK)),(Q1 (a2.map Qa)),(Q1 (a3.map Qw)),(.list .nil []),(.list .nil []),(.list .nil []),(.list .nil []),(.list .nil []),(.list .nil []),(.list .nil [])]) 3 (Q1 (a4.map Qx)) = some (.agg [(Q1 (a1.map QK)),(Q1 (a2.map Qa)),(Q1 (a3.map Qw)),(Q1 (a4.map Qx)),(.list .nil []),(.list .nil []),(.list .nil []),(.list .nil []),(.list .nil []),(.list .nil [])]) := (Vs (XC _) (by simp)).trans rfl
 simp only [w4,XH hq,zz,Nat.reduceEqDiff]
 refine c178.Xc hrA m4 no0 hl (fun a5 o5 q5 l5 m5 => ?_) (fun e τ he hs => herr e τ ((Qe q1).trans ((Qe q2).trans ((Qe q3).trans ((Qe q4).trans (QN he))))) (XP hpre hs))
 have w5 : Qv 1 (.agg [(Q1 (a1.map QK)),(Q1 (a2.map Qa)),(Q1 (a3.map Qw)),(Q1 (a4.map Qx)),(.list .nil []),(.list .nil []),(.list .nil []),(.list .nil []),(.list .nil []),(.list .nil [])]) 4 (Q1 (a5.map QD)) = some (.agg [(Q1 (a1.map QK)),(Q1 (a2.map Qa)),(Q1 (a3.map Qw)),(Q1 (a4.map Qx)),(Q1 (a5.map QD)),(.list .nil []),(.list .nil []),(.list .nil []),(.list .nil []),(.list .nil [])]) := (Vs (XC _) (by simp)).trans rfl
 simp only [w5,XH hq,zz,Nat.reduceEqDiff]
 refine c171.Xc hrA m5 no0 hl (fun a6 o6 q6 l6 m6 => ?_) (fun e τ he hs => herr e τ ((Qe q1).trans ((Qe q2).trans ((Qe q3).trans ((Qe q4).trans ((Qe q5).trans (QN he)))))) (XP hpre hs))
 have w6 : Qv 1 (.agg [(Q1 (a1.map QK)),(Q1 (a2.map Qa)),(Q1 (a3.map Qw)),(Q1 (a4.map Qx)),(Q1 (a5.map QD)),(.list .nil []),(.list .nil []),(.list .nil []),(.list .nil []),(.list .nil [])]) 5 (Q1 (a6.map Qa)) = some (.agg [(Q1 (a1.map QK)),(Q1 (a2.map Qa)),(Q1 (a3.map Qw)),(Q1 (a4.map Qx)),(Q1 (a5.map QD)),(Q1 (a6.map Qa)),(.list .nil []),(.list .nil []),(.list .nil []),(.list .nil [])]) := (Vs (XC _) (by simp)).trans rfl
 simp only [w6,XH hq,zz,Nat.reduceEqDiff]
 refine c171.Xc hrA m6 no0 hl (fun a7 o7 q7 l7 m7 => ?_) (fun e τ he hs => herr e τ ((Qe q1).trans ((Qe q2).trans ((Qe q3).trans ((Qe q4).trans ((Qe q5).trans ((Qe q6).trans (QN he))))))) (XP hpre hs))
 have w7 : Qv 1 (.agg [(Q1 (a1.map QK)),(Q1 (a2.map Qa)),(Q1 (a3.map Qw)),(Q1 (a4.map Qx)),(Q1 (a5.map QD)),(Q1 (a6.map Qa)),(.list .nil []),(.list .nil []),(.list .nil []),(.list .nil [])]) 6 (Q1 (a7.map Qa)) = some (.agg [(Q1 (a1.map QK)),(Q1 (a2.map Qa)),(Q1 (a3.map Qw)),(Q1 (a4.map Qx)),(Q1 (a5.map QD)),(Q1 (a6.map Qa)),(Q1 (a7.map Qa)),(.list .nil []),(.list .nil []),(.list .nil [])]) := (Vs (XC _) (by simp)).trans rfl
 simp only [w7,XH hq,zz,Nat.reduceEqDiff]
 refine c180.Xc hrA m7 no0 hl (fun a8 o8 q8 l8 m8 => ?_) (fun e τ he hs => herr e τ ((Qe q1).trans ((Qe q2).trans ((Qe q3).trans ((Qe q4).trans ((Qe q5).trans ((Qe q6).trans ((Qe q7).trans (QN he)))))))) (XP hpre hs))
 have w8 : Qv 1 (.agg [(Q1 (a1.map QK)),(Q1 (a2.map Qa)),(Q1 (a3.map Qw)),(Q1 (a4.map Qx)),(Q1 (a5.map QD)),(Q1 (a6.map Qa)),(Q1 (a7.map Qa)),(.list .nil []),(.list .nil []),(.list .nil [])]) 7 (Q1 (a8.map PV.str)) = some (.agg [(Q1 (a1.map QK)),(Q1 (a2.map Qa)),(Q1 (a3.map Qw)),(Q1 (a4.map Qx)),(Q1 (a5.map QD)),(Q1 (a6.map Qa)),(Q1 (a7.map Qa)),(Q1 (a8.map PV.str)),(.list .nil []),(.list .nil [])]) := (Vs (XC _) (by simp)).trans rfl
 simp only [w8,XH hq,zz,Nat.reduceEqDiff]
 refine c182.Xc hrA m8 hQ hl (fun a9 o9 q9 l9 m9 => ?_) (fun e τ he hs => herr e τ ((Qe q1).trans ((Qe q2).trans ((Qe q3).trans ((Qe q4).trans ((Qe q5).trans ((Qe q6).trans ((Qe q7).trans ((Qe q8).trans (QN he))))))))) (XP hpre hs))
 have w9 : Qv 1 (.agg [(Q1 (a1.map QK)),(Q1 (a2.map Qa)),(Q1 (a3.map Qw)),(Q1 (a4.map Qx)),(Q1 (a5.map QD)),(Q1 (a6.map Qa)),(Q1 (a7.map Qa)),(Q1 (a8.map PV.str)),(.list .nil []),(.list .nil [])]) 8 (Q1 (a9.map QY)) = some (.agg [(Q1 (a1.map QK)),(Q1 (a2.map Qa)),(Q1 (a3.map Qw)),(Q1 (a4.map Qx)),(Q1 (a5.map QD)),(Q1 (a6.map Qa)),(Q1 (a7.map Qa)),(Q1 (a8.map PV.str)),(Q1 (a9.map QY)),(.list .nil [])]) := (Vs (XC _) (by simp)).trans rfl
 simp only [w9,XH hq,zz,Nat.reduceEqDiff]
 refine c185.Xc hrA m9 hQ hl (fun a10 o10 q10 l10 m10 => ?_) (fun e τ he hs => herr e τ ((Qe q1).trans ((Qe q2).trans ((Qe q3).trans ((Qe q4).trans ((Qe q5).trans ((Qe q6).trans ((Qe q7).trans ((Qe q8).trans ((Qe q9).trans (QN he)))))))))) (XP hpre hs))
 have w10 : Qv 1 (.agg [(Q1 (a1.map QK)),(Q1 (a2.map Qa)),(Q1 (a3.map Qw)),(Q1 (a4.map Qx)),(Q1 (a5.map QD)),(Q1 (a6.map Qa)),(Q1 (a7.map Qa)),(Q1 (a8.map PV.str)),(Q1 (a9.map QY)),(.list .nil [])]) 9 (Q1 (a10.map Qw)) = some (.agg [(Q1 (a1.map QK)),(Q1 (a2.map Qa)),(Q1 (a3.map Qw)),(Q1 (a4.map Qx)),(Q1 (a5.map QD)),(Q1 (a6.map Qa)),(Q1 (a7.map Qa)),(Q1 (a8.map PV.str)),(Q1 (a9.map QY)),(Q1 (a10.map Qw))]) := (Vs (XC _) (by simp)).trans rfl
 have y : Q6 true 10 (.agg [(Q1 (a1.map QK)),(Q1 (a2.map Qa)),(Q1 (a3.map Qw)),(Q1 (a4.map Qx)),(Q1 (a5.map QD)),(Q1 (a6.map Qa)),(Q1 (a7.map Qa)),(Q1 (a8.map PV.str)),(Q1 (a9.map QY)),(Q1 (a10.map Qw))]) 0 = some (.agg [(Q1 (a1.map QK)),(Q1 (a2.map Qa)),(Q1 (a3.map Qw)),(Q1 (a4.map Qx)),(Q1 (a5.map QD)),(Q1 (a6.map Qa)),(Q1 (a7.map Qa)),(Q1 (a8.map PV.str)),(Q1 (a9.map QY)),(Q1 (a10.map Qw))]) := rfl
 have x : Qv 10 (.agg [(.list .nil []),(.list .nil []),(.list .nil []),(.list .nil []),(.list .nil []),(.list .nil []),(.list .nil []),(.list .nil []),(.list .nil []),(.list .nil [])]) 0 (.agg [(Q1 (a1.map QK)),(Q1 (a2.map Qa)),(Q1 (a3.map Qw)),(Q1 (a4.map Qx)),(Q1 (a5.map QD)),(Q1 (a6.map Qa)),(Q1 (a7.map Qa)),(Q1 (a8.map PV.str)),(Q1 (a9.map QY)),(Q1 (a10.map Qw))]) = some (.agg [(Q1 (a1.map QK)),(Q1 (a2.map Qa)),(Q1 (a3.map Qw)),(Q1 (a4.map Qx)),(Q1 (a5.map QD)),(Q1 (a6.map Qa)),(Q1 (a7.map Qa)),(Q1 (a8.map PV.str)),(Q1 (a9.map QY)),(Q1 (a10.map Qw))]) := VG rfl rfl
 simp only [w10,x,y,zz,Nat.reduceEqDiff]
 refine Z2 (fun c => σ.length ≤ c) (Nu (off2 := o10) hrd ?_) (.base _ ((NU ⟨a1,a2,a3,a4,a5,a6,a7,a8,a9,a10⟩).free _)) (hok ⟨a1,a2,a3,a4,a5,a6,a7,a8,a9,a10⟩ o10 ((Qe q1).trans ((Qe q2).trans ((Qe q3).trans ((Qe q4).trans ((Qe q5).trans ((Qe q6).trans ((Qe q7).trans ((Qe q8).trans ((Qe q9).trans (Qe q10)))))))))) (by omega) m10)
 rw [← hA,SE hlt]
 exact ⟨_,rfl⟩
end Go.Proofs.YtgghfcchanilpaaGreatDoor
