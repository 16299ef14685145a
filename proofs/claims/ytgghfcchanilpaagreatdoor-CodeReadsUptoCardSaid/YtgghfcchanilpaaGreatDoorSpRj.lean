import Derived.Test.YtgghfcchanilpaaGreatDoorSpRi
set_option linter.unusedVariables false
set_option linter.unusedSimpArgs false
namespace Go.Proofs.YtgghfcchanilpaaGreatDoor
open Go Go.Abs
theorem early {σ τ : St} {e0 e : Int} {R : Res → St → Prop} (h : T8 σ ZG e0 τ) (hR : R (.ret (Hk (.error e))) σ) :
  Qg False (Q4 true 10 (.ptr σ.length 0 0 0) τ) fun v6 => Qg False (QQ 10 (.ptr σ.length 0 0 0) v6 τ) fun σ7 => Qg False (QQ 1 (.ptr (σ.length + 1) 0 0 0) (.int .i64 e) σ7) fun σ8 =>
   Qg False (Qs (Q4 true 10 (.ptr σ.length 0 0 0) σ8) (Qs (Q4 false 1 (.ptr (σ.length + 1) 0 0 0) σ8) (some []))) fun vs => XG σ (YB vs) σ8 fun v σ => R (.ret v) σ := by
 obtain ⟨υ1,e1,h1,-⟩ := h.Ov (ds := ZG) rfl
 obtain ⟨υ2,e2,h2,-⟩ := h1.My e
 simp only [h.N6,e1,e2,h2.N6,h2.JN,zz,Nat.reduceEqDiff]
 exact h2.back Tt hR
theorem TS {s : Str} {n : Nat} (h : n ≤ s.length) : Xg (.str s) none (some (.int .i64 (n : Int))) = some (.str (s.take n)) := by
 simp [Xg,bound,h]
theorem JS {s : Str} {n : Nat} (h : n ≤ s.length) : Xg (.str s) (some (.int .i64 (n : Int))) none = some (.str (s.drop n)) := by
 simp [Xg,bound,h]
theorem Ka {n : Nat} (h : 4 ≤ n) (h2 : n ≤ 9223372036854775807) : QR none .sub (.int .i64 (n : Int)) (.int .i64 4) = some (.int .i64 ((n - 4 : Nat) : Int)) := by
 show some (PV.int .i64 (IntKind.i64.wrap ((n : Int) - 4))) = _
 congr 2
 simp [IntKind.wrap,IntKind.bits,IntKind.signed]
 split <;> omega
set_option maxRecDepth 100000 in
theorem c32 (s : Str) (hs : s.length ≤ 9223372036854775807) (σ : St) : Ret W 32 [.str s] σ (Hk (YZ s)) := by
 refine QE fun R hR => ?_
 rw [DD]
 delta vA bF pF uF lF nI nL wvR
 simp only [Vo,List.length_append,List.length_singleton]
 have h0 : T8 σ ZG 0 (σ ++ [Blk.arr 0 10 [.agg ZG]] ++ [.arr 0 1 [.int .i64 0]]) := ⟨⟨[Blk.arr 0 10 [.agg ZG],.arr 0 1 [.int .i64 0]],by simp⟩,by simp,by simp [List.getElem?_append],rfl⟩
 have hlen0 : (σ ++ [Blk.arr 0 10 [.agg ZG]] ++ [Blk.arr 0 1 [.int .i64 0]]).length = σ.length + 2 := by simp
 unfold ZG at h0 hlen0
 generalize (σ ++ [Blk.arr 0 10 [.agg [(.list .nil []),(.list .nil []),(.list .nil []),(.list .nil []),(.list .nil []),(.list .nil []),(.list .nil []),(.list .nil []),(.list .nil []),(.list .nil [])]]] ++ [Blk.arr 0 1 [.int .i64 0]]) = τ0 at h0 hlen0
 have hE : ∀ e,YZ s = .error e → R (.ret (Hk (.error e))) σ := fun e he => by rw [← he]; exact hR
 simp only [zz,Nat.reduceEqDiff]
 refine Qu (fun hb => ?_) (fun hb => ?_)
 ·have h1 : s.length > 1048576 := by
   have : (s.length : Int) > 1048576 := by simpa using hb
   omega
  exact early h0 (hE 3 (by unfold YZ; rw [if_pos h1]))
 have h1 : ¬ s.length > 1048576 := by
  have : ¬ (s.length : Int) > 1048576 := by simpa using hb
  omega
 refine Qu (fun hb => ?_) (fun hb => ?_)
 ·have h2 : s.length < 8 := by
   have : (s.length : Int) < 8 := by simpa using hb
   omega
  exact early h0 (hE 16 (by unfold YZ; rw [if_neg h1,if_pos h2]))
 have h2 : ¬ s.length < 8 := by
  have : ¬ (s.length : Int) < 8 := by simpa using hb
  omega
 have e4 := TS (s := s) (n := 4) (by omega)
 have e4' : Xg (.str s) none (some (.int .i64 4)) = some (.str (s.take 4)) := e4
 simp only [e4',Nh,zz,Nat.reduceEqDiff]
 refine Qu (fun hb => ?_) (fun hb => ?_)
 ·have h3 : s.take 4 ≠ PN := by simpa [PN] using hb
  exact early h0 (hE 13 (by unfold YZ; rw [if_neg h1,if_neg h2,if_pos h3]))
 have h3 : ¬ s.take 4 ≠ PN := by simpa [PN] using hb
 have hne : s.take (s.length - 4) ≠ [] := fun h => by
  have := congrArg List.length h
  simp at this
  omega
 have hbl : (s.take (s.length - 4)).length = s.length - 4 := by simp
 have hby : Ua 23 (.str (s.take (s.length - 4))) τ0 = some (.sref τ0.length 23 1 0 (s.length - 4),τ0 ++ [.arr 23 1 (u8s (s.take (s.length - 4)))]) := by
  unfold Ua
  dsimp only
  rw [if_pos (by omega)]
  split
  ·rename_i h
   exact absurd h hne
  ·rw [hbl]
   rfl
 simp only [Ka (n := s.length) (by omega) (by omega),TS (s := s) (n := s.length - 4) (by omega),JS (s := s) (n := s.length - 4) (by omega),hby,zz,Nat.reduceEqDiff]
 have hb1 := h0.app [.arr 23 1 (u8s (s.take (s.length - 4)))]
 have hbytes : (τ0 ++ [Blk.arr 23 1 (u8s (s.take (s.length - 4)))])[τ0.length]? = some (.arr 23 1 (u8s (s.take (s.length - 4)))) := by simp
 have hlen1 : (τ0 ++ [Blk.arr 23 1 (u8s (s.take (s.length - 4)))]).length = τ0.length + 1 := by simp
 generalize τ0 ++ [Blk.arr 23 1 (u8s (s.take (s.length - 4)))] = τ1 at hb1 hbytes hlen1
 have hrE : YZ s = if Yb (Uj (s.take (s.length - 4))) ≠ s.drop (s.length - 4) then .error 15
   else match TB ((s.take (s.length - 4)).drop 4) with
    | .error e => .error e
    | .ok (c,rest) => if rest.length > 0 then .error 2 else if (Zp (XF c) 470 49).2 ≠ 0 then .error (Zp (XF c) 470 49).2 else .ok c := by
  unfold YZ
  rw [if_neg h1,if_neg h2,if_neg h3]
  rfl
 clear hby e4 e4' hb
 generalize s.take (s.length - 4) = body at hbl hbytes hrE hne
 refine (c79 (out := body) (.inr ⟨_,_,by rw [hbl],hbytes⟩) (by omega)).Q0 ?_
 refine (c78 _ _).Q0 ?_
 have hv : Zf (.list .full (u8s (Yb (Uj body)))) τ1 = some (.str (Yb (Uj body))) := VM.str (.inl rfl)
 simp only [hv,Nh,zz,Nat.reduceEqDiff]
 refine Qu (fun hb => ?_) (fun hb => ?_)
 ·have h4 : Yb (Uj body) ≠ s.drop (s.length - 4) := by simpa using hb
  exact early hb1 (hE 15 (by rw [hrE,if_pos h4]))
 have h4 : ¬ Yb (Uj body) ≠ s.drop (s.length - 4) := by simpa using hb
 rw [if_neg h4] at hrE
 have hsub : XN 1 (.sref τ0.length 23 1 0 (s.length - 4)) (some (.int .i64 4)) none = some (XU τ0.length 23 4 (body.length - 4)) := by
  have := Mv (b := τ0.length) (g := 23) (off := 0) (n := s.length - 4) (k := 4) (by omega)
  unfold XU at this
  rw [if_neg (by omega)] at this
  rw [hbl]
  simpa [XU] using this
 have hbd : QF [(.list .nil [])] [(0,1,XU τ0.length 23 4 (body.length - 4))] = some [XU τ0.length 23 4 (body.length - 4)] := by
  have hc := Mr τ0.length 23 4 (body.length - 4)
  generalize XU τ0.length 23 4 (body.length - 4) = v at hc
  simp [QF,hc,Z5]
 have hbx : opC.vBoxAny (.agg [XU τ0.length 23 4 (body.length - 4)]) = some (1,.agg [XU τ0.length 23 4 (body.length - 4)]) := by
  rfl
 simp only [hsub,hbd,hbx,zz,Nat.reduceEqDiff]
 rw [if_pos (by omega)]
 have hb2 := hb1.app [.arr 0 1 [.agg [XU τ0.length 23 4 (body.length - 4)]]]
 have hrd : Rd τ1.length τ0.length 23 body (τ1 ++ [.arr 0 1 [.agg [XU τ0.length 23 4 (body.length - 4)]]]) 4 := ⟨by simp [O4],XI ⟨_,rfl⟩ hbytes,by omega,by omega⟩
 have hp : σ.length + 2 ≤ τ1.length := by omega
 refine c82.Q0 hrd no0 (by omega) (fun c off' q1 l1 m1 hr => ?_) (fun e τ he hs => ?_)
 ·have hcp := (OG _ c _ q1 (by simp; omega)).2
  have hb3 := hb2.same hp (YF.set (O4 τ0.length 23 off' (body.length - off')))
  have hcl : Y8 c = .agg [Q1 (c.maps.map QK),Q1 (c.unions.map Qa),Q1 (c.sigs.map Qw),Q1 (c.routs.map Qx),Q1 (c.insts.map QD),Q1 (c.jumps.map Qa),Q1 (c.parts.map Qa),Q1 (c.texts.map PV.str),Q1 (c.trans.map QY),Q1 (c.lines.map Qw)] := rfl
  rw [q1] at hrE
  dsimp only at hrE
  rw [List.length_drop] at hrE
  obtain ⟨ds,hds,hd10⟩ : ∃ ds,Y8 c = .agg ds ∧ ds.length = 10 := ⟨_,rfl,rfl⟩
  obtain ⟨υ,e1,hh,hoth⟩ := hb3.Ov hd10
  have hat : υ[τ1.length]? = some (O4 τ0.length 23 off' (body.length - off')) := by
   rw [hoth _ (by omega)]
   exact hr.at_
  have hld : Q4 false 1 (.ptr τ1.length 0 0 0) υ = some (XU τ0.length 23 off' (body.length - off')) := by
   simp [Q4,hat,O4,Q6,PV.cells?]
  simp only [hds]
  have e1' : QQ 10 (.ptr σ.length 0 0 0) (.agg ds) (QX τ1.length τ0.length 23 body (τ1 ++ [.arr 0 1 [.agg [XU τ0.length 23 4 (body.length - 4)]]]) off') = some υ := e1
  simp only [e1',GA,GU,hld,Ma,zz,Nat.reduceEqDiff]
  have hnil : QF [(.list .nil []),(.list .nil []),(.list .nil []),(.list .nil []),(.list .nil []),(.list .nil []),(.list .nil []),(.list .nil []),(.list .nil []),(.list .nil [])] [] = some ZG := rfl
  refine Qu (fun hb => ?_) (fun hb => ?_)
  ·have h5 : body.length - off' > 0 := by
    have : ((body.length - off' : Nat) : Int) > 0 := by simpa using hb
    omega
   rw [if_pos h5] at hrE
   obtain ⟨υ1,f1,g1,-⟩ := hh.Ov (ds := ZG) rfl
   obtain ⟨υ2,f2,g2,-⟩ := g1.My 2
   simp only [hnil,f1,f2,g2.N6,g2.JN,zz,Nat.reduceEqDiff]
   exact g2.back Tt (hE 2 hrE)
  have h5 : ¬ body.length - off' > 0 := by
   have : ¬ ((body.length - off' : Nat) : Int) > 0 := by simpa using hb
   omega
  rw [if_neg h5] at hrE
  have hpc : PV.agg ds = Qt (XF c) := by rw [← hds,LY]
  simp only [hh.N6,hpc,zz,Nat.reduceEqDiff]
  refine (c24 hcp.A5 (Fy hcp) _).Q0 ?_
  generalize Zp (XF c) 470 49 = ck at hrE
  have hk1 : Qv 2 (.agg [(.int .i64 0),(.int .i64 0)]) 0 (Qw ck) = some (Qw ck) := rfl
  have hk2 : Q6 false 1 (Qw ck) 1 = some (.int .i64 ck.2) := rfl
  have hk3 : QR none .neq (.int .i64 ck.2) (.int .i64 0) = some (.bool (ck.2 != 0)) := rfl
  simp only [hk1,hk2,hk3,zz,Nat.reduceEqDiff]
  refine Qu (fun hb => ?_) (fun hb => ?_)
  ·have h6 : ck.2 ≠ 0 := by simpa using hb
   rw [if_pos h6] at hrE
   obtain ⟨υ1,f1,g1,-⟩ := hh.Ov (ds := ZG) rfl
   obtain ⟨υ2,f2,g2,-⟩ := g1.My ck.2
   simp only [hnil,f1,f2,g2.N6,g2.JN,zz,Nat.reduceEqDiff]
   exact g2.back Tt (hE _ hrE)
  ·have h6 : ¬ ck.2 ≠ 0 := by simpa using hb
   rw [if_neg h6] at hrE
   obtain ⟨υ1,f1,g1,-⟩ := hh.Ov hd10
   obtain ⟨υ2,f2,g2,-⟩ := g1.My 0
   rw [hpc] at f1
   have hl0 := g2.N6
   simp only [hh.N6,hpc,f1,f2,hl0,g2.JN,zz,Nat.reduceEqDiff]
   rw [hrE] at hR
   have hR' : R (.ret (.tuple [.agg ds,.int .i64 0])) σ := by
    have e : Hk (.ok c) = .tuple [.agg ds,.int .i64 0] := by rw [← hds]; rfl
    rw [← e]
    exact hR
   have hfl : Flat (.agg ds) := by
    rw [← hds]
    exact NU c
   rw [← hpc]
   exact g2.back hfl hR'
 ·have hb3 := hb2.same hp hs
  rw [he] at hrE
  dsimp only at hrE
  obtain ⟨υ1,f1,g1,-⟩ := hb3.Ov (ds := ZG) rfl
  obtain ⟨υ2,f2,g2,-⟩ := g1.My e
  have hnil : QF [(.list .nil []),(.list .nil []),(.list .nil []),(.list .nil []),(.list .nil []),(.list .nil []),(.list .nil []),(.list .nil []),(.list .nil []),(.list .nil [])] [] = some ZG := rfl
  have k1 : QR (some .ifc) .eql (V4 e) .nilIface = some (.bool false) := rfl
  have k2 : V5 140 (.agg [(.int .i64 0)]) true (V4 e) = some (.tuple [.agg [.int .i64 e],.bool true]) := rfl
  have k3 : Qv 1 (.agg [(.int .i64 0)]) 0 (.agg [.int .i64 e]) = some (.agg [.int .i64 e]) := rfl
  have k4 : Q6 false 1 (.agg [.int .i64 e]) 0 = some (.int .i64 e) := rfl
  simp only [hnil,k1,k2,k3,k4,f1,f2,g2.N6,g2.JN,zz,Nat.reduceEqDiff]
  exact g2.back Tt (hE e hrE)
end Go.Proofs.YtgghfcchanilpaaGreatDoor
