import Derived.Test.YtgghfcchanilpaaGreatDoorSpRi
set_option linter.unusedVariables false
set_option linter.unusedSimpArgs false
namespace Go.Proofs.YtgghfcchanilpaaGreatDoor
open Go Go.Abs
theorem early {σ τ : St} {e0 e : Int} {R : Res → St → Prop} (h : Hold σ nil10 e0 τ) (hR : R (.ret (resR (.error e))) σ) :
  bindO False (vLoad true 10 (.ptr σ.length 0 0 0) τ) fun v6 => bindO False (vStore 10 (.ptr σ.length 0 0 0) v6 τ) fun σ7 => bindO False (vStore 1 (.ptr (σ.length + 1) 0 0 0) (.int .i64 e) σ7) fun σ8 =>
   bindO False (resCons (vLoad true 10 (.ptr σ.length 0 0 0) σ8) (resCons (vLoad false 1 (.ptr (σ.length + 1) 0 0 0) σ8) (some []))) fun vs => weakW σ (vResults vs) σ8 fun v σ => R (.ret v) σ := by
 obtain ⟨υ1,e1,h1,-⟩ := h.store0 (ds := nil10) rfl
 obtain ⟨υ2,e2,h2,-⟩ := h1.store1 e
 simp only [h.load0,e1,e2,h2.load0,h2.load1,zz,Nat.reduceEqDiff]
 exact h2.back flatNil hR
theorem sub_head {s : Str} {n : Nat} (h : n ≤ s.length) : vSubStr (.str s) none (some (.int .i64 (n : Int))) = some (.str (s.take n)) := by
 simp [vSubStr,bound,h]
theorem sub_tail {s : Str} {n : Nat} (h : n ≤ s.length) : vSubStr (.str s) (some (.int .i64 (n : Int))) none = some (.str (s.drop n)) := by
 simp [vSubStr,bound,h]
theorem sub_int {n : Nat} (h : 4 ≤ n) (h2 : n ≤ 9223372036854775807) : vBin none .sub (.int .i64 (n : Int)) (.int .i64 4) = some (.int .i64 ((n - 4 : Nat) : Int)) := by
 show some (PV.int .i64 (IntKind.i64.wrap ((n : Int) - 4))) = _
 congr 2
 simp [IntKind.wrap,IntKind.bits,IntKind.signed]
 split <;> omega
set_option maxRecDepth 100000 in
theorem c32 (s : Str) (hs : s.length ≤ 9223372036854775807) (σ : St) : Ret W 32 [.str s] σ (resR (readR s)) := by
 refine ret_of fun R hR => ?_
 rw [fn32_eq]
 delta fn32 bF pF uF lF nI nL wvR
 simp only [newW_eq,List.length_append,List.length_singleton]
 have h0 : Hold σ nil10 0 (σ ++ [Blk.arr 0 10 [.agg nil10]] ++ [.arr 0 1 [.int .i64 0]]) := ⟨⟨[Blk.arr 0 10 [.agg nil10],.arr 0 1 [.int .i64 0]],by simp⟩,by simp,by simp [List.getElem?_append],rfl⟩
 have hlen0 : (σ ++ [Blk.arr 0 10 [.agg nil10]] ++ [Blk.arr 0 1 [.int .i64 0]]).length = σ.length + 2 := by simp
 unfold nil10 at h0 hlen0
 generalize (σ ++ [Blk.arr 0 10 [.agg [(.list .nil []),(.list .nil []),(.list .nil []),(.list .nil []),(.list .nil []),(.list .nil []),(.list .nil []),(.list .nil []),(.list .nil []),(.list .nil [])]]] ++ [Blk.arr 0 1 [.int .i64 0]]) = τ0 at h0 hlen0
 have hE : ∀ e,readR s = .error e → R (.ret (resR (.error e))) σ := fun e he => by rw [← he]; exact hR
 simp only [zz,Nat.reduceEqDiff]
 refine condB (fun hb => ?_) (fun hb => ?_)
 ·have h1 : s.length > 1048576 := by
   have : (s.length : Int) > 1048576 := by simpa using hb
   omega
  exact early h0 (hE 3 (by unfold readR; rw [if_pos h1]))
 have h1 : ¬ s.length > 1048576 := by
  have : ¬ (s.length : Int) > 1048576 := by simpa using hb
  omega
 refine condB (fun hb => ?_) (fun hb => ?_)
 ·have h2 : s.length < 8 := by
   have : (s.length : Int) < 8 := by simpa using hb
   omega
  exact early h0 (hE 16 (by unfold readR; rw [if_neg h1,if_pos h2]))
 have h2 : ¬ s.length < 8 := by
  have : ¬ (s.length : Int) < 8 := by simpa using hb
  omega
 have e4 := sub_head (s := s) (n := 4) (by omega)
 have e4' : vSubStr (.str s) none (some (.int .i64 4)) = some (.str (s.take 4)) := e4
 simp only [e4',str_neq,zz,Nat.reduceEqDiff]
 refine condB (fun hb => ?_) (fun hb => ?_)
 ·have h3 : s.take 4 ≠ markB := by simpa [markB] using hb
  exact early h0 (hE 13 (by unfold readR; rw [if_neg h1,if_neg h2,if_pos h3]))
 have h3 : ¬ s.take 4 ≠ markB := by simpa [markB] using hb
 have hne : s.take (s.length - 4) ≠ [] := fun h => by
  have := congrArg List.length h
  simp at this
  omega
 have hbl : (s.take (s.length - 4)).length = s.length - 4 := by simp
 have hby : vToBytes 23 (.str (s.take (s.length - 4))) τ0 = some (.sref τ0.length 23 1 0 (s.length - 4),τ0 ++ [.arr 23 1 (u8s (s.take (s.length - 4)))]) := by
  unfold vToBytes
  dsimp only
  rw [if_pos (by omega)]
  split
  ·rename_i h
   exact absurd h hne
  ·rw [hbl]
   rfl
 simp only [sub_int (n := s.length) (by omega) (by omega),sub_head (s := s) (n := s.length - 4) (by omega),sub_tail (s := s) (n := s.length - 4) (by omega),hby,zz,Nat.reduceEqDiff]
 have hb1 := h0.app [.arr 23 1 (u8s (s.take (s.length - 4)))]
 have hbytes : (τ0 ++ [Blk.arr 23 1 (u8s (s.take (s.length - 4)))])[τ0.length]? = some (.arr 23 1 (u8s (s.take (s.length - 4)))) := by simp
 have hlen1 : (τ0 ++ [Blk.arr 23 1 (u8s (s.take (s.length - 4)))]).length = τ0.length + 1 := by simp
 generalize τ0 ++ [Blk.arr 23 1 (u8s (s.take (s.length - 4)))] = τ1 at hb1 hbytes hlen1
 have hrE : readR s = if fourB (sumS (s.take (s.length - 4))) ≠ s.drop (s.length - 4) then .error 15
   else match pCode1 ((s.take (s.length - 4)).drop 4) with
    | .error e => .error e
    | .ok (c,rest) => if rest.length > 0 then .error 2 else if (checkS (codeS c) 470 49).2 ≠ 0 then .error (checkS (codeS c) 470 49).2 else .ok c := by
  unfold readR
  rw [if_neg h1,if_neg h2,if_neg h3]
  rfl
 clear hby e4 e4' hb
 generalize s.take (s.length - 4) = body at hbl hbytes hrE hne
 refine (c79 (out := body) (.inr ⟨_,_,by rw [hbl],hbytes⟩) (by omega)).callB ?_
 refine (c78 _ _).callB ?_
 have hv : vToStr (.list .full (u8s (fourB (sumS body)))) τ1 = some (.str (fourB (sumS body))) := BytesV.str (.inl rfl)
 simp only [hv,str_neq,zz,Nat.reduceEqDiff]
 refine condB (fun hb => ?_) (fun hb => ?_)
 ·have h4 : fourB (sumS body) ≠ s.drop (s.length - 4) := by simpa using hb
  exact early hb1 (hE 15 (by rw [hrE,if_pos h4]))
 have h4 : ¬ fourB (sumS body) ≠ s.drop (s.length - 4) := by simpa using hb
 rw [if_neg h4] at hrE
 have hsub : vSubSl 1 (.sref τ0.length 23 1 0 (s.length - 4)) (some (.int .i64 4)) none = some (leftV τ0.length 23 4 (body.length - 4)) := by
  have := left_sub (b := τ0.length) (g := 23) (off := 0) (n := s.length - 4) (k := 4) (by omega)
  unfold leftV at this
  rw [if_neg (by omega)] at this
  rw [hbl]
  simpa [leftV] using this
 have hbd : vBuild [(.list .nil [])] [(0,1,leftV τ0.length 23 4 (body.length - 4))] = some [leftV τ0.length 23 4 (body.length - 4)] := by
  have hc := cells_left τ0.length 23 4 (body.length - 4)
  generalize leftV τ0.length 23 4 (body.length - 4) = v at hc
  simp [vBuild,hc,setRange]
 have hbx : opC.vBoxAny (.agg [leftV τ0.length 23 4 (body.length - 4)]) = some (1,.agg [leftV τ0.length 23 4 (body.length - 4)]) := by
  rfl
 simp only [hsub,hbd,hbx,zz,Nat.reduceEqDiff]
 rw [if_pos (by omega)]
 have hb2 := hb1.app [.arr 0 1 [.agg [leftV τ0.length 23 4 (body.length - 4)]]]
 have hrd : Rd τ1.length τ0.length 23 body (τ1 ++ [.arr 0 1 [.agg [leftV τ0.length 23 4 (body.length - 4)]]]) 4 := ⟨by simp [rdBlk],get_pre ⟨_,rfl⟩ hbytes,by omega,by omega⟩
 have hp : σ.length + 2 ≤ τ1.length := by omega
 refine c82.callB hrd no0 (by omega) (fun c off' q1 l1 m1 hr => ?_) (fun e τ he hs => ?_)
 ·have hcp := (post_code _ c _ q1 (by simp; omega)).2
  have hb3 := hb2.same hp (Same.set (rdBlk τ0.length 23 off' (body.length - off')))
  have hcl : pvCodeL c = .agg [growV (c.maps.map pvMapL),growV (c.unions.map pvIntsL),growV (c.sigs.map pvSig),growV (c.routs.map pvRoutL),growV (c.insts.map pvInst),growV (c.jumps.map pvIntsL),growV (c.parts.map pvIntsL),growV (c.texts.map PV.str),growV (c.trans.map pvTrans),growV (c.lines.map pvSig)] := rfl
  rw [q1] at hrE
  dsimp only at hrE
  rw [List.length_drop] at hrE
  obtain ⟨ds,hds,hd10⟩ : ∃ ds,pvCodeL c = .agg ds ∧ ds.length = 10 := ⟨_,rfl,rfl⟩
  obtain ⟨υ,e1,hh,hoth⟩ := hb3.store0 hd10
  have hat : υ[τ1.length]? = some (rdBlk τ0.length 23 off' (body.length - off')) := by
   rw [hoth _ (by omega)]
   exact hr.at_
  have hld : vLoad false 1 (.ptr τ1.length 0 0 0) υ = some (leftV τ0.length 23 off' (body.length - off')) := by
   simp [vLoad,hat,rdBlk,vPart,PV.cells?]
  simp only [hds]
  have e1' : vStore 10 (.ptr σ.length 0 0 0) (.agg ds) (rdSet τ1.length τ0.length 23 body (τ1 ++ [.arr 0 1 [.agg [leftV τ0.length 23 4 (body.length - 4)]]]) off') = some υ := e1
  simp only [e1',nilP,fldP,hld,left_len,zz,Nat.reduceEqDiff]
  have hnil : vBuild [(.list .nil []),(.list .nil []),(.list .nil []),(.list .nil []),(.list .nil []),(.list .nil []),(.list .nil []),(.list .nil []),(.list .nil []),(.list .nil [])] [] = some nil10 := rfl
  refine condB (fun hb => ?_) (fun hb => ?_)
  ·have h5 : body.length - off' > 0 := by
    have : ((body.length - off' : Nat) : Int) > 0 := by simpa using hb
    omega
   rw [if_pos h5] at hrE
   obtain ⟨υ1,f1,g1,-⟩ := hh.store0 (ds := nil10) rfl
   obtain ⟨υ2,f2,g2,-⟩ := g1.store1 2
   simp only [hnil,f1,f2,g2.load0,g2.load1,zz,Nat.reduceEqDiff]
   exact g2.back flatNil (hE 2 hrE)
  have h5 : ¬ body.length - off' > 0 := by
   have : ¬ ((body.length - off' : Nat) : Int) > 0 := by simpa using hb
   omega
  rw [if_neg h5] at hrE
  have hpc : PV.agg ds = pvCode (codeS c) := by rw [← hds,pv_code]
  simp only [hh.load0,hpc,zz,Nat.reduceEqDiff]
  refine (c24 hcp.okay (nums_P hcp) _).callB ?_
  generalize checkS (codeS c) 470 49 = ck at hrE
  have hk1 : vPut 2 (.agg [(.int .i64 0),(.int .i64 0)]) 0 (pvSig ck) = some (pvSig ck) := rfl
  have hk2 : vPart false 1 (pvSig ck) 1 = some (.int .i64 ck.2) := rfl
  have hk3 : vBin none .neq (.int .i64 ck.2) (.int .i64 0) = some (.bool (ck.2 != 0)) := rfl
  simp only [hk1,hk2,hk3,zz,Nat.reduceEqDiff]
  refine condB (fun hb => ?_) (fun hb => ?_)
  ·have h6 : ck.2 ≠ 0 := by simpa using hb
   rw [if_pos h6] at hrE
   obtain ⟨υ1,f1,g1,-⟩ := hh.store0 (ds := nil10) rfl
   obtain ⟨υ2,f2,g2,-⟩ := g1.store1 ck.2
   simp only [hnil,f1,f2,g2.load0,g2.load1,zz,Nat.reduceEqDiff]
   exact g2.back flatNil (hE _ hrE)
  ·have h6 : ¬ ck.2 ≠ 0 := by simpa using hb
   rw [if_neg h6] at hrE
   obtain ⟨υ1,f1,g1,-⟩ := hh.store0 hd10
   obtain ⟨υ2,f2,g2,-⟩ := g1.store1 0
   rw [hpc] at f1
   have hl0 := g2.load0
   simp only [hh.load0,hpc,f1,f2,hl0,g2.load1,zz,Nat.reduceEqDiff]
   rw [hrE] at hR
   have hR' : R (.ret (.tuple [.agg ds,.int .i64 0])) σ := by
    have e : resR (.ok c) = .tuple [.agg ds,.int .i64 0] := by rw [← hds]; rfl
    rw [← e]
    exact hR
   have hfl : Flat (.agg ds) := by
    rw [← hds]
    exact flatCode c
   rw [← hpc]
   exact g2.back hfl hR'
 ·have hb3 := hb2.same hp hs
  rw [he] at hrE
  dsimp only at hrE
  obtain ⟨υ1,f1,g1,-⟩ := hb3.store0 (ds := nil10) rfl
  obtain ⟨υ2,f2,g2,-⟩ := g1.store1 e
  have hnil : vBuild [(.list .nil []),(.list .nil []),(.list .nil []),(.list .nil []),(.list .nil []),(.list .nil []),(.list .nil []),(.list .nil []),(.list .nil []),(.list .nil [])] [] = some nil10 := rfl
  have k1 : vBin (some .ifc) .eql (wrongPV e) .nilIface = some (.bool false) := rfl
  have k2 : vAssert 140 (.agg [(.int .i64 0)]) true (wrongPV e) = some (.tuple [.agg [.int .i64 e],.bool true]) := rfl
  have k3 : vPut 1 (.agg [(.int .i64 0)]) 0 (.agg [.int .i64 e]) = some (.agg [.int .i64 e]) := rfl
  have k4 : vPart false 1 (.agg [.int .i64 e]) 0 = some (.int .i64 e) := rfl
  simp only [hnil,k1,k2,k3,k4,f1,f2,g2.load0,g2.load1,zz,Nat.reduceEqDiff]
  exact g2.back flatNil (hE e hrE)
end Go.Proofs.YtgghfcchanilpaaGreatDoor
