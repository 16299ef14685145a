import Derived.Test.YtgghfcchanilpaaGreatDoorSpRd
import Derived.Test.YtgghfcchanilpaaGreatDoorPlJ
set_option linter.unusedVariables false
set_option linter.unusedSimpArgs false
namespace Go.Proofs.YtgghfcchanilpaaGreatDoor
open Go Go.Abs
def cell (p : Nat) : Blk := .arr 0 1 [.ptr p 0 0 0]
theorem Gets.nextB {f : FuncId} {args : List PV} {p : Nat} {H0 : List (Nat × Blk)} {α : Type} {pa : Pa α} {enc : α → PV} (h : Gets f args p H0 pa enc) {b g : Nat} {body : Str} {σ : St} {off o1 : Nat} {K X : PV → St → Prop} (hr : Rd p b g body σ off) (ho : o1 ≤ body.length) (h0 : ∀ h ∈ H0,σ[h.1]? = some h.2 ∧ h.1 ≠ p) (hl : body.length ≤ 1048576)
  (k : ∀ a off',pa (body.drop o1) = .ok (a,body.drop off') → o1 ≤ off' → off' ≤ body.length → K (enc a) (rdSet p b g body σ off')) (x : ∀ e τ,pa (body.drop o1) = .error e → Same p σ τ → X (wrongPV e) τ) : Go.Abs.callB W f args (rdSet p b g body σ o1) K X := by
 refine h.callB (hr.next ho) (fun q hq => ⟨Same.set _ _ _ (h0 q hq).2 (h0 q hq).1,(h0 q hq).2⟩) hl (fun a o2 q1 q2 q3 _ => ?_) (fun e τ he hs => x e τ he ((Same.set _).trans hs))
 rw [rdSet_set]
 exact k a o2 q1 q2 q3
theorem load_q {p q : Nat} {σ : St} (h : σ[q]? = some (cell p)) : vLoad false 1 (.ptr q 0 0 0) σ = some (.ptr p 0 0 0) := by
 simp [vLoad,h,cell,vPart,PV.cells?]
theorem load_qr {p q b g : Nat} {body : Str} {σ : St} {off : Nat} (h : σ[q]? = some (cell p) ∧ q ≠ p) : vLoad false 1 (.ptr q 0 0 0) (rdSet p b g body σ off) = some (.ptr p 0 0 0) := load_q (Same.set _ _ _ h.2 h.1)
theorem no0 {σ : St} {p : Nat} : ∀ h ∈ ([] : List (Nat × Blk)),σ[h.1]? = some h.2 ∧ h.1 ≠ p := fun h hh => by cases hh
theorem of1 {σ : St} {p q : Nat} {k : Blk} (h : ∀ h ∈ [(q,k)],σ[h.1]? = some h.2 ∧ h.1 ≠ p) : σ[q]? = some k ∧ q ≠ p := h (q,k) (by simp)
theorem c170 {p : Nat} : Gets 170 [.ptr p 0 0 0] p [] pSlot pvSlot := gets_of fun b g body σ off R hrd h0 hl hok herr => by
 rw [fn170_eq]
 delta fn170 uF nI wvR
 refine c175.callB hrd no0 hl (fun a1 o1 q1 l1 m1 _ => ?_) (fun e τ he hs => herr e τ (pBind_err he) hs)
 have w1 : vBuild [(.int .i64 0),(.int .i64 0),(.int .i64 0),(.int .i64 0),(.bool false)] [(0,1,(.int .i64 a1))] = some [(.int .i64 a1),(.int .i64 0),(.int .i64 0),(.int .i64 0),(.bool false)] := rfl
 have x1 : vPut 5 (.agg [(.int .i64 0),(.int .i64 0),(.int .i64 0),(.int .i64 0),(.bool false)]) 0 (.agg [(.int .i64 a1),(.int .i64 0),(.int .i64 0),(.int .i64 0),(.bool false)]) = some (.agg [(.int .i64 a1),(.int .i64 0),(.int .i64 0),(.int .i64 0),(.bool false)]) := rfl
 simp only [w1,x1,zz,Nat.reduceEqDiff]
 refine c175.nextB hrd m1 no0 hl (fun a2 o2 q2 l2 m2 => ?_) (fun e τ he hs => herr e τ ((pBind_ok q1).trans (pBind_err he)) hs)
 have w2 : vPut 1 (.agg [(.int .i64 a1),(.int .i64 0),(.int .i64 0),(.int .i64 0),(.bool false)]) 1 (.int .i64 a2) = some (.agg [(.int .i64 a1),(.int .i64 a2),(.int .i64 0),(.int .i64 0),(.bool false)]) := rfl
 simp only [w2,zz,Nat.reduceEqDiff]
 refine c175.nextB hrd m2 no0 hl (fun a3 o3 q3 l3 m3 => ?_) (fun e τ he hs => herr e τ ((pBind_ok q1).trans ((pBind_ok q2).trans (pBind_err he))) hs)
 have w3 : vPut 1 (.agg [(.int .i64 a1),(.int .i64 a2),(.int .i64 0),(.int .i64 0),(.bool false)]) 2 (.int .i64 a3) = some (.agg [(.int .i64 a1),(.int .i64 a2),(.int .i64 a3),(.int .i64 0),(.bool false)]) := rfl
 simp only [w3,zz,Nat.reduceEqDiff]
 refine c175.nextB hrd m3 no0 hl (fun a4 o4 q4 l4 m4 => ?_) (fun e τ he hs => herr e τ ((pBind_ok q1).trans ((pBind_ok q2).trans ((pBind_ok q3).trans (pBind_err he)))) hs)
 have w4 : vPut 1 (.agg [(.int .i64 a1),(.int .i64 a2),(.int .i64 a3),(.int .i64 0),(.bool false)]) 3 (.int .i64 a4) = some (.agg [(.int .i64 a1),(.int .i64 a2),(.int .i64 a3),(.int .i64 a4),(.bool false)]) := rfl
 simp only [w4,zz,Nat.reduceEqDiff]
 refine c184.nextB hrd m4 no0 hl (fun a5 o5 q5 l5 m5 => ?_) (fun e τ he hs => herr e τ ((pBind_ok q1).trans ((pBind_ok q2).trans ((pBind_ok q3).trans ((pBind_ok q4).trans (pBind_err he))))) hs)
 have w5 : vPut 1 (.agg [(.int .i64 a1),(.int .i64 a2),(.int .i64 a3),(.int .i64 a4),(.bool false)]) 4 (.bool a5) = some (.agg [(.int .i64 a1),(.int .i64 a2),(.int .i64 a3),(.int .i64 a4),(.bool a5)]) := rfl
 have y : vPart true 5 (.agg [(.int .i64 a1),(.int .i64 a2),(.int .i64 a3),(.int .i64 a4),(.bool a5)]) 0 = some (.agg [(.int .i64 a1),(.int .i64 a2),(.int .i64 a3),(.int .i64 a4),(.bool a5)]) := rfl
 have x : vPut 5 (.agg [(.int .i64 0),(.int .i64 0),(.int .i64 0),(.int .i64 0),(.bool false)]) 0 (.agg [(.int .i64 a1),(.int .i64 a2),(.int .i64 a3),(.int .i64 a4),(.bool a5)]) = some (.agg [(.int .i64 a1),(.int .i64 a2),(.int .i64 a3),(.int .i64 a4),(.bool a5)]) := rfl
 simp only [w5,y,x,zz,Nat.reduceEqDiff]
 exact weakW_keep (hok ⟨a1,a2,a3,a4,a5⟩ _ ((pBind_ok q1).trans ((pBind_ok q2).trans ((pBind_ok q3).trans ((pBind_ok q4).trans (pBind_ok q5))))) (by omega) m5)
theorem c174 {p q : Nat} : Gets 174 [.ptr q 0 0 0] p [(q,cell p)] pSig pvSig := gets_of fun b g body σ off R hrd h0 hl hok herr => by
 rw [fn174_eq]
 delta fn174 uF nI wvR
 have hq := of1 h0
 simp only [load_q hq.1,zz,Nat.reduceEqDiff]
 refine c175.callB hrd no0 hl (fun a1 o1 q1 l1 m1 _ => ?_) (fun e τ he hs => herr e τ (pBind_err he) hs)
 have w1 : vBuild [(.int .i64 0),(.int .i64 0)] [(0,1,(.int .i64 a1))] = some [(.int .i64 a1),(.int .i64 0)] := rfl
 have x1 : vPut 2 (.agg [(.int .i64 0),(.int .i64 0)]) 0 (.agg [(.int .i64 a1),(.int .i64 0)]) = some (.agg [(.int .i64 a1),(.int .i64 0)]) := rfl
 simp only [w1,x1,load_qr hq,zz,Nat.reduceEqDiff]
 refine c175.nextB hrd m1 no0 hl (fun a2 o2 q2 l2 m2 => ?_) (fun e τ he hs => herr e τ ((pBind_ok q1).trans (pBind_err he)) hs)
 have w2 : vPut 1 (.agg [(.int .i64 a1),(.int .i64 0)]) 1 (.int .i64 a2) = some (.agg [(.int .i64 a1),(.int .i64 a2)]) := rfl
 have y : vPart true 2 (.agg [(.int .i64 a1),(.int .i64 a2)]) 0 = some (.agg [(.int .i64 a1),(.int .i64 a2)]) := rfl
 have x : vPut 2 (.agg [(.int .i64 0),(.int .i64 0)]) 0 (.agg [(.int .i64 a1),(.int .i64 a2)]) = some (.agg [(.int .i64 a1),(.int .i64 a2)]) := rfl
 simp only [w2,y,x,load_qr hq,zz,Nat.reduceEqDiff]
 exact weakW_keep (hok (a1,a2) _ ((pBind_ok q1).trans (pBind_ok q2)) (by omega) m2)
theorem c186 {p q : Nat} : Gets 186 [.ptr q 0 0 0] p [(q,cell p)] pSig pvSig := gets_of fun b g body σ off R hrd h0 hl hok herr => by
 rw [fn186_eq]
 delta fn186 uF nI wvR
 have hq := of1 h0
 simp only [load_q hq.1,zz,Nat.reduceEqDiff]
 refine c175.callB hrd no0 hl (fun a1 o1 q1 l1 m1 _ => ?_) (fun e τ he hs => herr e τ (pBind_err he) hs)
 have w1 : vBuild [(.int .i64 0),(.int .i64 0)] [(0,1,(.int .i64 a1))] = some [(.int .i64 a1),(.int .i64 0)] := rfl
 have x1 : vPut 2 (.agg [(.int .i64 0),(.int .i64 0)]) 0 (.agg [(.int .i64 a1),(.int .i64 0)]) = some (.agg [(.int .i64 a1),(.int .i64 0)]) := rfl
 simp only [w1,x1,load_qr hq,zz,Nat.reduceEqDiff]
 refine c175.nextB hrd m1 no0 hl (fun a2 o2 q2 l2 m2 => ?_) (fun e τ he hs => herr e τ ((pBind_ok q1).trans (pBind_err he)) hs)
 have w2 : vPut 1 (.agg [(.int .i64 a1),(.int .i64 0)]) 1 (.int .i64 a2) = some (.agg [(.int .i64 a1),(.int .i64 a2)]) := rfl
 have y : vPart true 2 (.agg [(.int .i64 a1),(.int .i64 a2)]) 0 = some (.agg [(.int .i64 a1),(.int .i64 a2)]) := rfl
 have x : vPut 2 (.agg [(.int .i64 0),(.int .i64 0)]) 0 (.agg [(.int .i64 a1),(.int .i64 a2)]) = some (.agg [(.int .i64 a1),(.int .i64 a2)]) := rfl
 simp only [w2,y,x,load_qr hq,zz,Nat.reduceEqDiff]
 exact weakW_keep (hok (a1,a2) _ ((pBind_ok q1).trans (pBind_ok q2)) (by omega) m2)
theorem c183 {p q : Nat} : Gets 183 [.ptr q 0 0 0] p [(q,cell p)] pTrans1 pvTrans := gets_of fun b g body σ off R hrd h0 hl hok herr => by
 rw [fn183_eq]
 delta fn183 uF nI wvR
 have hq := of1 h0
 simp only [load_q hq.1,zz,Nat.reduceEqDiff]
 refine c181.callB hrd no0 hl (fun a1 o1 q1 l1 m1 _ => ?_) (fun e τ he hs => herr e τ (pBind_err he) hs)
 have w1 : vBuild [(.str []),(.bool false),(.int .i64 0)] [(0,1,(.str a1))] = some [(.str a1),(.bool false),(.int .i64 0)] := rfl
 have x1 : vPut 3 (.agg [(.str []),(.bool false),(.int .i64 0)]) 0 (.agg [(.str a1),(.bool false),(.int .i64 0)]) = some (.agg [(.str a1),(.bool false),(.int .i64 0)]) := rfl
 simp only [w1,x1,load_qr hq,zz,Nat.reduceEqDiff]
 refine c184.nextB hrd m1 no0 hl (fun a2 o2 q2 l2 m2 => ?_) (fun e τ he hs => herr e τ ((pBind_ok q1).trans (pBind_err he)) hs)
 have w2 : vPut 1 (.agg [(.str a1),(.bool false),(.int .i64 0)]) 1 (.bool a2) = some (.agg [(.str a1),(.bool a2),(.int .i64 0)]) := rfl
 simp only [w2,load_qr hq,zz,Nat.reduceEqDiff]
 refine c175.nextB hrd m2 no0 hl (fun a3 o3 q3 l3 m3 => ?_) (fun e τ he hs => herr e τ ((pBind_ok q1).trans ((pBind_ok q2).trans (pBind_err he))) hs)
 have w3 : vPut 1 (.agg [(.str a1),(.bool a2),(.int .i64 0)]) 2 (.int .i64 a3) = some (.agg [(.str a1),(.bool a2),(.int .i64 a3)]) := rfl
 have y : vPart true 3 (.agg [(.str a1),(.bool a2),(.int .i64 a3)]) 0 = some (.agg [(.str a1),(.bool a2),(.int .i64 a3)]) := rfl
 have x : vPut 3 (.agg [(.str []),(.bool false),(.int .i64 0)]) 0 (.agg [(.str a1),(.bool a2),(.int .i64 a3)]) = some (.agg [(.str a1),(.bool a2),(.int .i64 a3)]) := rfl
 simp only [w3,y,x,load_qr hq,zz,Nat.reduceEqDiff]
 exact weakW_keep (hok ⟨a1,a2,a3⟩ _ ((pBind_ok q1).trans ((pBind_ok q2).trans (pBind_ok q3))) (by omega) m3)
theorem c254 {p q : Nat} : Gets 254 [.ptr q 0 0 0] p [(q,cell p)] pRange1 pvRange := gets_of fun b g body σ off R hrd h0 hl hok herr => by
 rw [fn254_eq]
 delta fn254 uF nI wvR
 have hq := of1 h0
 simp only [load_q hq.1,zz,Nat.reduceEqDiff]
 refine c175.callB hrd no0 hl (fun a1 o1 q1 l1 m1 _ => ?_) (fun e τ he hs => herr e τ (pBind_err he) hs)
 have w1 : vBuild [(.int .i64 0),(.int .i64 0),(.int .i64 0)] [(0,1,(.int .i64 a1))] = some [(.int .i64 a1),(.int .i64 0),(.int .i64 0)] := rfl
 have x1 : vPut 3 (.agg [(.int .i64 0),(.int .i64 0),(.int .i64 0)]) 0 (.agg [(.int .i64 a1),(.int .i64 0),(.int .i64 0)]) = some (.agg [(.int .i64 a1),(.int .i64 0),(.int .i64 0)]) := rfl
 simp only [w1,x1,load_qr hq,zz,Nat.reduceEqDiff]
 refine c175.nextB hrd m1 no0 hl (fun a2 o2 q2 l2 m2 => ?_) (fun e τ he hs => herr e τ ((pBind_ok q1).trans (pBind_err he)) hs)
 have w2 : vPut 1 (.agg [(.int .i64 a1),(.int .i64 0),(.int .i64 0)]) 1 (.int .i64 a2) = some (.agg [(.int .i64 a1),(.int .i64 a2),(.int .i64 0)]) := rfl
 simp only [w2,load_qr hq,zz,Nat.reduceEqDiff]
 refine c175.nextB hrd m2 no0 hl (fun a3 o3 q3 l3 m3 => ?_) (fun e τ he hs => herr e τ ((pBind_ok q1).trans ((pBind_ok q2).trans (pBind_err he))) hs)
 have w3 : vPut 1 (.agg [(.int .i64 a1),(.int .i64 a2),(.int .i64 0)]) 2 (.int .i64 a3) = some (.agg [(.int .i64 a1),(.int .i64 a2),(.int .i64 a3)]) := rfl
 have y : vPart true 3 (.agg [(.int .i64 a1),(.int .i64 a2),(.int .i64 a3)]) 0 = some (.agg [(.int .i64 a1),(.int .i64 a2),(.int .i64 a3)]) := rfl
 have x : vPut 3 (.agg [(.int .i64 0),(.int .i64 0),(.int .i64 0)]) 0 (.agg [(.int .i64 a1),(.int .i64 a2),(.int .i64 a3)]) = some (.agg [(.int .i64 a1),(.int .i64 a2),(.int .i64 a3)]) := rfl
 simp only [w3,y,x,load_qr hq,zz,Nat.reduceEqDiff]
 exact weakW_keep (hok ⟨a1,a2,a3⟩ _ ((pBind_ok q1).trans ((pBind_ok q2).trans (pBind_ok q3))) (by omega) m3)
end Go.Proofs.YtgghfcchanilpaaGreatDoor
