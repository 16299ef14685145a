import Derived.Test.YtgghfcchanilpaaGreatDoorSpRe
set_option linter.unusedVariables false
set_option linter.unusedSimpArgs false
namespace Go.Proofs.YtgghfcchanilpaaGreatDoor
open Go Go.Abs
theorem Ut {α β γ : Type} (p : Pa α) (f : α → Pa β) (g : β → Pa γ) : QJ (QJ p f) g = QJ p fun a => QJ (f a) g := by
 funext s
 unfold QJ
 cases p s with
 | error e => rfl
 | ok x => rfl
theorem Te {α β : Type} (a : α) (f : α → Pa β) : QJ (Vd a) f = f a := rfl
def Pl (l : List Int) (rs : List Yq) : YA := match l with
 | [a,b,c,d,e,f,g,h] => ⟨a,b,c,d,e,f,g,h,rs⟩
 | _ => ⟨0,0,0,0,0,0,0,0,rs⟩
def mkInst (l : List Int) : Xz := match l with
 | [a,b,c,d,e,f,g,h,i,j,k,m] => ⟨a,⟨b,c,d⟩,⟨e,f,g⟩,⟨h,i,j⟩,k,m⟩
 | _ => xv
theorem D3 : TH = QJ (XJ Xq 8) fun l => QJ (Xf Vp) fun rs => Vd (Pl l rs) := by
 simp only [XJ,Ut,Te]
 rfl
theorem Fz : Uf = QJ (XJ Xq 12) fun l => Vd (mkInst l) := by
 simp only [Uf,OB,XJ,Ut,Te]
 rfl
def Qx (r : YA) : PV := .agg [.int .i64 r.sig,.int .i64 r.frame,.int .i64 r.fr,.int .i64 r.to,.int .i64 r.outer,.int .i64 r.within,.int .i64 r.level,.int .i64 r.needs,Q1 (r.ranges.map X7)]
theorem NP (s : Xb) : Flat (Qm s) := .agg _ fun x h => by
 simp only [List.mem_cons,List.not_mem_nil,or_false] at h
 rcases h with rfl | rfl | rfl | rfl | rfl <;> constructor
theorem TJ (s : Int × Int) : Flat (Qw s) := .agg _ fun x h => by
 simp only [List.mem_cons,List.not_mem_nil,or_false] at h
 rcases h with rfl | rfl <;> constructor
theorem OF (s : Yq) : Flat (X7 s) := .agg _ fun x h => by
 simp only [List.mem_cons,List.not_mem_nil,or_false] at h
 rcases h with rfl | rfl | rfl <;> constructor
theorem Oo (s : YW) : Flat (QY s) := .agg _ fun x h => by
 simp only [List.mem_cons,List.not_mem_nil,or_false] at h
 rcases h with rfl | rfl | rfl <;> constructor
theorem O2 (s : Xz) : Flat (QD s) := .agg _ fun x h => by
 simp only [List.mem_cons,List.not_mem_nil,or_false] at h
 rcases h with rfl | rfl | rfl | rfl | rfl | rfl | rfl | rfl | rfl | rfl | rfl | rfl <;> constructor
theorem Xv {α : Type} {enc : α → PV} (h : ∀ a,Flat (enc a)) (l : List α) : Flat (Q1 (l.map enc)) := HH fun y hy => by
 obtain ⟨a,_,rfl⟩ := List.mem_map.1 hy
 exact h a
theorem TT (r : YA) : Flat (Qx r) := .agg _ fun x h => by
 simp only [List.mem_cons,List.not_mem_nil,or_false] at h
 rcases h with rfl | rfl | rfl | rfl | rfl | rfl | rfl | rfl | rfl
 iterate 8 exact .int _ _
 exact Xv OF _
theorem Mb (ys : List PV) : Ul 1 (Q1 ys) := by
 obtain ⟨k,e⟩ := Ug ys
 rw [e]
 exact ⟨_,rfl,rfl⟩
theorem XC (ys : List PV) : (Q1 ys).cells? = some [Q1 ys] := by
 obtain ⟨k,e⟩ := Ug ys
 rw [e]
 rfl
theorem Ni {L R : List PV} {z x : PV} {n : Nat} (hn : L.length = n) (hx : x.cells? = some [x]) : Qv 1 (.agg (L ++ z :: R)) n x = some (.agg (L ++ x :: R)) := by
 subst hn
 simp [Qv,hx,Z5]
theorem Uy {A : St} {sz w o n : Nat} {cs cs' : List PV} {x : PV} (hn : A.length = n) (h : Qv w (.agg cs) o x = some (.agg cs')) : QQ w (.ptr n 0 0 o) x (A ++ [.arr 0 sz [.agg cs]]) = some (A ++ [.arr 0 sz [.agg cs']]) := by
 subst hn
 simp [QQ,h]
theorem Jx {A : St} {sz n : Nat} {cs : List PV} (hn : A.length = n) (h : cs.length = sz) : Q4 true sz (.ptr n 0 0 0) (A ++ [.arr 0 sz [.agg cs]]) = some (.agg cs) := by
 subst hn
 simp [Q4,Q6,h]
theorem SE {p b g : Nat} {body : Str} {σ : St} {off : Nat} (h : p < σ.length) (t : St) : QX p b g body (σ ++ t) off = QX p b g body σ off ++ t := by
 unfold QX
 rw [List.set_append_left _ _ h]
theorem XP {p : Nat} {σ τ υ : St} (h : σ <+: τ) (k : YF p τ υ) : YF p σ υ := fun i b hi hb => k i b hi (XI h hb)
theorem H8 {P : List PV} {j : Nat} {s o : Nat} (h : P[j]? = some (.ptr s 0 0 o)) : Q5 1 (.list .full P) (.int .i64 (j : Int)) = some (.eptr (.ptr s 0 0 o) 0) := by
 simp [Q5,h,PV.cells?]
theorem MV (s o : Nat) (σ : St) : Q4 false 1 (.eptr (.ptr s 0 0 o) 0) σ = some (.ptr s 0 0 o) := rfl
theorem Xu (p o : Nat) : Vb (.ptr p 0 0 o) = some (.ptr p 0 0 o) := rfl
theorem Vw (p o k : Nat) : Qh k (.ptr p 0 0 o) = some (.ptr p 0 0 (o + k)) := rfl
theorem uU {p q : Nat} : Yn 253 [.ptr p 0 0 0,.func 254 0 [.ptr q 0 0 0]] p [(q,cell p)] (Xf Vp) (fun l => Q1 (l.map X7)) :=
 Zz (sz := 3) (by_ := 24) (fun a0 a1 σ R => (FR W a0 a1 σ R).trans rfl) (by omega) OF (fun _ => ⟨_,rfl,rfl⟩) (by kernel_rfl) c254
def V3 (l : List Int) (n : Nat) (R : List PV) : List PV := l.map pvI ++ (List.replicate n (.int .i64 0) ++ R)
theorem Vf (l : List Int) (n : Nat) (R : List PV) (a : Int) : Qv 1 (.agg (V3 l (n + 1) R)) l.length (.int .i64 a) = some (.agg (V3 (l ++ [a]) n R)) := by
 unfold V3
 rw [List.replicate_succ,List.cons_append,Ni (by simp) rfl]
 simp [pvI]
set_option maxRecDepth 100000 in
theorem c177 {p : Nat} : Yn 177 [.ptr p 0 0 0] p [] TH Qx := Zs fun b g body σ off R hrd h0 hl hok herr => by
 rw [Ep]
 delta Cy bF kF nI nL wvR
 have hbox : opC.vBoxAny (.ptr p 0 0 0) = some (1,.ptr p 0 0 0) := rfl
 simp only [hbox,zz,Nat.reduceEqDiff]
 rw [if_pos (by omega)]
 simp only [Vo,List.length_append,List.length_singleton]
 have hlt := hrd.lt
 generalize hA : σ ++ [Blk.arr 0 1 [.ptr p 0 0 0]] = A
 have hAl : A.length = σ.length + 1 := by simp [← hA]
 have hpre : σ <+: A := ⟨_,hA⟩
 have hq : A[σ.length]? = some (cell p) ∧ σ.length ≠ p := ⟨by simp [← hA,cell],by omega⟩
 have hrA : ∀ k : Blk,Rd p b g body (A ++ [k]) off := fun k => hrd.pre (PX hpre _)
 have hqA : ∀ k : Blk,(A ++ [k])[σ.length]? = some (cell p) ∧ σ.length ≠ p := fun k => ⟨XI ⟨_,rfl⟩ hq.1,hq.2⟩
 have hpA : p < A.length := by omega
 have hra : ∀ (o : Nat) (t : St),QX p b g body (A ++ t) o = QX p b g body A o ++ t := fun o t => SE hpA t
 have hrl : ∀ o,(QX p b g body A o).length = σ.length + 1 := fun o => by rw [Tf,hAl]
 have hR : ∀ s,TH s = QJ (XJ Xq 8) (fun l => QJ (Xf Vp) fun rs => Vd (Pl l rs)) s := fun s => by rw [D3]
 refine Qr (fun x τ => ∃ (l : List Int) (o2 : Nat),x 1 = .ptr σ.length 0 0 0 ∧ x 3 = .ptr (σ.length + 1) 0 0 0 ∧ x 2 = .agg [.int .i64 0,.int .i64 0,.int .i64 0,.int .i64 0,.int .i64 0,.int .i64 0,.int .i64 0,.int .i64 0,.list .nil []] ∧ l.length = 8 ∧ off ≤ o2 ∧ o2 ≤ body.length ∧ τ = QX p b g body A o2 ++ [.arr 0 9 [.agg (V3 l 0 [.list .nil []])]] ∧ XJ Xq 8 (body.drop off) = .ok (l,body.drop o2)) (fun x τ hx => ?_) ?_
 ·obtain ⟨l,o2,q1,q3,q2,hl8,ho,hob,rfl,hrep⟩ := hx
  rw [← hra]
  simp only [q1,XH (hqA _),zz,Nat.reduceEqDiff]
  refine uU.Xc (hrA _) hob (fun h hh => by
   simp only [List.mem_cons,List.not_mem_nil,or_false] at hh
   subst hh
   exact hqA _) hl (fun rs o3 e1 l3 m3 => ?_) (fun e τ he hs => herr e τ (by rw [hR,Qe hrep]; exact QN he) (XP (PX hpre _) hs))
  have hp : Qv 1 (.agg (V3 l 0 [.list .nil []])) 8 (Q1 (rs.map X7)) = some (.agg (l.map pvI ++ [Q1 (rs.map X7)])) := Ni (by simp [hl8]) (XC _)
  rw [hra]
  simp only [q3,q2,Vw,Nat.zero_add,Uy (hrl o3) hp,Jx (sz := 9) (hrl o3) (show (l.map pvI ++ [Q1 (rs.map X7)]).length = 9 by simp [hl8]),zz,Nat.reduceEqDiff]
  have hv : (PV.agg (l.map pvI ++ [Q1 (rs.map X7)])) = Qx (Pl l rs) := by
   match l,hl8 with
   | [_,_,_,_,_,_,_,_],_ => rfl
  rw [hv]
  have hp2 : Qv 9 (.agg [.int .i64 0,.int .i64 0,.int .i64 0,.int .i64 0,.int .i64 0,.int .i64 0,.int .i64 0,.int .i64 0,.list .nil []]) 0 (Qx (Pl l rs)) = some (Qx (Pl l rs)) := VG rfl rfl
  have hp3 : Q6 true 9 (Qx (Pl l rs)) 0 = some (Qx (Pl l rs)) := rfl
  simp only [hp2,hp3,zz,Nat.reduceEqDiff]
  refine Z2 (fun c => σ.length ≤ c) (Nu (off2 := o3) hrd ?_) (.base _ ((TT _).free _)) (hok _ o3 ?_ (by omega) m3)
  ·rw [← hA,SE hlt,List.append_assoc]
   exact ⟨_,rfl⟩
  ·rw [hR,Qe hrep]
   exact Qe e1
 have hP : ∀ j,j < 8 → [PV.ptr (σ.length + 1) 0 0 0,.ptr (σ.length + 1) 0 0 1,.ptr (σ.length + 1) 0 0 2,.ptr (σ.length + 1) 0 0 3,.ptr (σ.length + 1) 0 0 4,.ptr (σ.length + 1) 0 0 5,.ptr (σ.length + 1) 0 0 6,.ptr (σ.length + 1) 0 0 7][j]? = some (.ptr (σ.length + 1) 0 0 j) := fun j hj => by
  match j,hj with
  | 0,_ => rfl
  | 1,_ => rfl
  | 2,_ => rfl
  | 3,_ => rfl
  | 4,_ => rfl
  | 5,_ => rfl
  | 6,_ => rfl
  | 7,_ => rfl
 have hB : QI 1 (List.replicate 8 .nilptr) [(0,.ptr (σ.length + 1) 0 0 0),(1,.ptr (σ.length + 1) 0 0 1),(2,.ptr (σ.length + 1) 0 0 2),(3,.ptr (σ.length + 1) 0 0 3),(4,.ptr (σ.length + 1) 0 0 4),(5,.ptr (σ.length + 1) 0 0 5),(6,.ptr (σ.length + 1) 0 0 6),(7,.ptr (σ.length + 1) 0 0 7)] = some [PV.ptr (σ.length + 1) 0 0 0,.ptr (σ.length + 1) 0 0 1,.ptr (σ.length + 1) 0 0 2,.ptr (σ.length + 1) 0 0 3,.ptr (σ.length + 1) 0 0 4,.ptr (σ.length + 1) 0 0 5,.ptr (σ.length + 1) 0 0 6,.ptr (σ.length + 1) 0 0 7] := rfl
 have hL : ∀ τ,Qj .sl (.list .full [PV.ptr (σ.length + 1) 0 0 0,.ptr (σ.length + 1) 0 0 1,.ptr (σ.length + 1) 0 0 2,.ptr (σ.length + 1) 0 0 3,.ptr (σ.length + 1) 0 0 4,.ptr (σ.length + 1) 0 0 5,.ptr (σ.length + 1) 0 0 6,.ptr (σ.length + 1) 0 0 7]) τ = some (.int .i64 8) := fun _ => rfl
 simp only [Vw,Nat.zero_add,hB,hL,zz,Nat.reduceEqDiff]
 generalize hPP : [PV.ptr (σ.length + 1) 0 0 0,.ptr (σ.length + 1) 0 0 1,.ptr (σ.length + 1) 0 0 2,.ptr (σ.length + 1) 0 0 3,.ptr (σ.length + 1) 0 0 4,.ptr (σ.length + 1) 0 0 5,.ptr (σ.length + 1) 0 0 6,.ptr (σ.length + 1) 0 0 7] = P at hP ⊢
 have hPl : P.length = 8 := by rw [← hPP]; rfl
 rw [hPl]
 refine QT 8 (fun j x τ => ∃ (l : List Int) (o2 : Nat),x = Qz [(1,.ptr σ.length 0 0 0),(3,.ptr (σ.length + 1) 0 0 0),(14,.list .full P),(15,.int .i64 8),(16,.int .i64 j),(2,.agg [.int .i64 0,.int .i64 0,.int .i64 0,.int .i64 0,.int .i64 0,.int .i64 0,.int .i64 0,.int .i64 0,.list .nil []])] ∧ l.length = j ∧ off ≤ o2 ∧ o2 ≤ body.length ∧ τ = QX p b g body A o2 ++ [.arr 0 9 [.agg (V3 l (8 - j) [.list .nil []])]] ∧ XJ Xq 8 (body.drop off) = UW l (XJ Xq (8 - j) (body.drop o2))) ?_ ⟨[],off,rfl,rfl,Nat.le_refl _,hrd.le,?_,?_⟩
 case refine_2 =>
  rw [(hrd.pre hpre).self]
  rfl
 case refine_3 =>
  cases XJ Xq 8 (body.drop off) with
  | error e => rfl
  | ok x => rfl
 rintro Φ j x τ hj ⟨l,o2,rfl,hlen,ho,hob,rfl,hrep⟩ next
 simp only [zz,Nat.reduceEqDiff]
 refine Qu (fun hb => ?_) (fun hb => ?_)
 ·have hlt : j < 8 := by
   have : (j : Int) < 8 := by simpa using hb
   omega
  have hd : 8 - j = (8 - (j + 1)) + 1 := by omega
  rw [hd] at hrep ⊢
  rw [← hra]
  simp only [H8 (hP j hlt),MV,XH (hqA _),zz,Nat.reduceEqDiff]
  refine c175.Xc (hrA _) hob no0 hl (fun a o3 e1 l3 m3 => ?_) (fun e τ he hs => herr e τ ?_ (XP (PX hpre _) hs))
  ·rw [YR e1] at hrep
   rw [hra]
   have hcs := Vf l (8 - (j + 1)) [.list .nil []] a
   rw [hlen] at hcs
   simp only [Xu,Uy (hrl o3) hcs,zz,Nat.reduceEqDiff]
   rw [Qi _ (by omega) (by omega)]
   simp only [zz,Nat.reduceEqDiff]
   exact next _ _ hlt ⟨l ++ [a],o3,rfl,by simp [hlen],by omega,m3,rfl,hrep⟩
  ·have e2 : XJ Xq (8 - (j + 1) + 1) (body.drop o2) = .error e := QN he
   rw [e2] at hrep
   rw [hR]
   exact QN hrep
 ·have hlt : ¬ j < 8 := by
   have : ¬ (j : Int) < 8 := by simpa using hb
   omega
  obtain rfl : j = 8 := by omega
  exact ⟨l,o2,trivial,trivial,trivial,hlen,ho,hob,rfl,by simpa [XJ,Vd,UW] using hrep⟩
end Go.Proofs.YtgghfcchanilpaaGreatDoor
namespace Go.Proofs.YtgghfcchanilpaaGreatDoor
open Go Go.Abs
set_option maxRecDepth 100000 in
theorem c179 {p : Nat} : Yn 179 [.ptr p 0 0 0] p [] Uf QD := Zs fun b g body σ off R hrd h0 hl hok herr => by
 rw [E2]
 delta CT bF sF kF nI wvR
 have hlt := hrd.lt
 have hra : ∀ (o : Nat) (t : St),QX p b g body (σ ++ t) o = QX p b g body σ o ++ t := fun o t => SE hlt t
 have hrl : ∀ o,(QX p b g body σ o).length = σ.length := fun o => Tf σ o
 have hrA : ∀ k : Blk,Rd p b g body (σ ++ [k]) off := fun k => hrd.pre ⟨_,rfl⟩
 have hpr : ∀ k : Blk,σ <+: σ ++ [k] := fun k => ⟨_,rfl⟩
 have hR : ∀ s,Uf s = QJ (XJ Xq 12) (fun l => Vd (mkInst l)) s := fun s => by rw [Fz]
 have herr' : ∀ e τ,XJ Xq 12 (body.drop off) = .error e → YF p σ τ → R (.pan (V4 e)) τ := fun e τ he hs => herr e τ (by rw [hR]; exact QN he) hs
 have hid : XJ Xq 12 (body.drop off) = UW [] (XJ Xq 12 (body.drop off)) := by
  cases XJ Xq 12 (body.drop off) with
  | error e => rfl
  | ok x => rfl
 have herr1 : ∀ (l : List Int) (n o2 : Nat),XJ Xq 12 (body.drop off) = UW l (XJ Xq (n + 1) (body.drop o2)) → ∀ e τ,Xq (body.drop o2) = .error e → YF p σ τ → R (.pan (V4 e)) τ := fun l n o2 hrep e τ he hs => herr' e τ (by
  have e2 : XJ Xq (n + 1) (body.drop o2) = .error e := QN he
  rw [hrep,e2]
  rfl) hs
 refine c175.Q0 hrd h0 hl (fun a0 o1 e1 l1 m1 _ => ?_) (fun e τ he hs => herr1 [] 11 off hid e τ he hs)
 rw [YR e1] at hid
 have w1 : QF [(.int .i64 0),(.int .i64 0),(.int .i64 0),(.int .i64 0),(.int .i64 0),(.int .i64 0),(.int .i64 0),(.int .i64 0),(.int .i64 0),(.int .i64 0),(.int .i64 0),(.int .i64 0)] [(0,1,.int .i64 a0)] = some (V3 [a0] 11 []) := rfl
 have x1 : Qv 12 (.agg [(.int .i64 0),(.int .i64 0),(.int .i64 0),(.int .i64 0),(.int .i64 0),(.int .i64 0),(.int .i64 0),(.int .i64 0),(.int .i64 0),(.int .i64 0),(.int .i64 0),(.int .i64 0)]) 0 (.agg (V3 [a0] 11 [])) = some (.agg (V3 [a0] 11 [])) := rfl
 simp only [w1,Vo,hrl,Uy (hrl o1) x1,zz,Nat.reduceEqDiff]
 refine Qr (fun x τ => ∃ (l : List Int) (o2 : Nat),x 0 = .ptr p 0 0 0 ∧ x 3 = .ptr σ.length 0 0 0 ∧ x 2 = .agg [(.int .i64 0),(.int .i64 0),(.int .i64 0),(.int .i64 0),(.int .i64 0),(.int .i64 0),(.int .i64 0),(.int .i64 0),(.int .i64 0),(.int .i64 0),(.int .i64 0),(.int .i64 0)] ∧ l.length = 10 ∧ off ≤ o2 ∧ o2 ≤ body.length ∧ τ = QX p b g body σ o2 ++ [.arr 0 12 [.agg (V3 l 2 [])]] ∧ XJ Xq 12 (body.drop off) = UW l (XJ Xq 2 (body.drop o2))) (fun x τ hx => ?_) ?_
 ·obtain ⟨l,o2,q0,q3,q2,hl10,ho,hob,rfl,hrep⟩ := hx
  rw [← hra,q0]
  refine DV.Xc (hrA _) hob no0 hl (fun a o3 e3 l3 m3 => ?_) (fun e τ he hs => herr1 l 1 o2 hrep e τ he (XP (hpr _) hs))
  rw [YR e3] at hrep
  have hc := Vf l 1 [] a
  rw [hl10] at hc
  rw [hra]
  simp only [q3,q2,Vw,Nat.zero_add,Uy (hrl o3) hc,zz,Nat.reduceEqDiff]
  rw [← hra]
  refine c175.Xc (hrA _) m3 no0 hl (fun a' o4 e4 l4 m4 => ?_) (fun e τ he hs => herr1 _ 0 o3 hrep e τ he (XP (hpr _) hs))
  rw [YR e4] at hrep
  have hc' := Vf (l ++ [a]) 0 [] a'
  rw [show (l ++ [a]).length = 11 by simp [hl10]] at hc'
  rw [hra]
  have h12 : (l ++ [a] ++ [a']).length = 12 := by simp [hl10]
  have hrep' : XJ Xq 12 (body.drop off) = .ok (l ++ [a] ++ [a'],body.drop o4) := by simpa [XJ,Vd,UW] using hrep
  generalize l ++ [a] ++ [a'] = m at hc' h12 hrep'
  have hv : (PV.agg (V3 m 0 [])) = QD (mkInst m) := by
   match m,h12 with
   | [_,_,_,_,_,_,_,_,_,_,_,_],_ => rfl
  have hload : Q4 true 12 (.ptr σ.length 0 0 0) (QX p b g body σ o4 ++ [.arr 0 12 [.agg (V3 m 0 [])]]) = some (QD (mkInst m)) := by
   rw [← hv]
   exact Jx (hrl o4) (by simp [V3,h12])
  have hp2 : Qv 12 (.agg [(.int .i64 0),(.int .i64 0),(.int .i64 0),(.int .i64 0),(.int .i64 0),(.int .i64 0),(.int .i64 0),(.int .i64 0),(.int .i64 0),(.int .i64 0),(.int .i64 0),(.int .i64 0)]) 0 (QD (mkInst m)) = some (QD (mkInst m)) := VG rfl rfl
  have hp3 : Q6 true 12 (QD (mkInst m)) 0 = some (QD (mkInst m)) := rfl
  simp only [Vw,Nat.zero_add,Uy (hrl o4) hc',hload,hp2,hp3,zz,Nat.reduceEqDiff]
  refine Z2 (fun c => σ.length ≤ c) (Nu (off2 := o4) hrd ⟨_,rfl⟩) (.base _ ((O2 _).free _)) (hok _ o4 ?_ (by omega) m4)
  rw [hR]
  exact Qe hrep'
 have hP : ∀ j,j < 3 → [PV.ptr σ.length 0 0 1,.ptr σ.length 0 0 4,.ptr σ.length 0 0 7][j]? = some (.ptr σ.length 0 0 (1 + 3 * j)) := fun j hj => by
  match j,hj with
  | 0,_ => rfl
  | 1,_ => rfl
  | 2,_ => rfl
 have hB : QI 1 (List.replicate 3 .nilptr) [(0,.ptr σ.length 0 0 1),(1,.ptr σ.length 0 0 4),(2,.ptr σ.length 0 0 7)] = some [PV.ptr σ.length 0 0 1,.ptr σ.length 0 0 4,.ptr σ.length 0 0 7] := rfl
 simp only [Vw,Nat.zero_add,hB,zz,Nat.reduceEqDiff]
 generalize hPP : [PV.ptr σ.length 0 0 1,.ptr σ.length 0 0 4,.ptr σ.length 0 0 7] = P at hP ⊢
 have hPl : P.length = 3 := by rw [← hPP]; rfl
 rw [hPl]
 refine QT 3 (fun j x τ => ∃ (l : List Int) (o2 : Nat),x = Qz [(0,.ptr p 0 0 0),(3,.ptr σ.length 0 0 0),(12,.list .full P),(13,.int .i64 3),(14,.int .i64 j),(2,.agg [(.int .i64 0),(.int .i64 0),(.int .i64 0),(.int .i64 0),(.int .i64 0),(.int .i64 0),(.int .i64 0),(.int .i64 0),(.int .i64 0),(.int .i64 0),(.int .i64 0),(.int .i64 0)])] ∧ l.length = 1 + 3 * j ∧ off ≤ o2 ∧ o2 ≤ body.length ∧ τ = QX p b g body σ o2 ++ [.arr 0 12 [.agg (V3 l (11 - 3 * j) [])]] ∧ XJ Xq 12 (body.drop off) = UW l (XJ Xq (11 - 3 * j) (body.drop o2))) ?_ ⟨[a0],o1,rfl,rfl,l1,m1,rfl,hid⟩
 rintro Φ j x τ hj ⟨l,o2,rfl,hlen,ho,hob,rfl,hrep⟩ next
 simp only [zz,Nat.reduceEqDiff]
 refine Qu (fun hb => ?_) (fun hb => ?_)
 ·have hlt : j < 3 := by
   have : (j : Int) < 3 := by simpa using hb
   omega
  have hd : 11 - 3 * j = (11 - 3 * (j + 1)) + 1 + 1 + 1 := by omega
  rw [hd] at hrep ⊢
  generalize hnn : 11 - 3 * (j + 1) = n at hrep ⊢
  rw [← hra]
  simp only [H8 (hP j hlt),MV,zz,Nat.reduceEqDiff]
  refine c175.Xc (hrA _) hob no0 hl (fun a o3 e3 l3 m3 => ?_) (fun e τ he hs => herr1 l _ o2 hrep e τ he (XP (hpr _) hs))
  rw [YR e3] at hrep
  have hc3 := Vf l (n + 1 + 1) [] a
  rw [hlen] at hc3
  rw [hra]
  simp only [Xu,Vw,Nat.add_zero,Uy (hrl o3) hc3,zz,Nat.reduceEqDiff]
  rw [← hra]
  refine c175.Xc (hrA _) m3 no0 hl (fun a' o4 e4 l4 m4 => ?_) (fun e τ he hs => herr1 _ _ o3 hrep e τ he (XP (hpr _) hs))
  rw [YR e4] at hrep
  have hc4 := Vf (l ++ [a]) (n + 1) [] a'
  rw [show (l ++ [a]).length = 1 + 3 * j + 1 by simp [hlen]] at hc4
  rw [hra]
  simp only [Xu,Vw,Uy (hrl o4) hc4,zz,Nat.reduceEqDiff]
  rw [← hra]
  refine c175.Xc (hrA _) m4 no0 hl (fun a'' o5 e5 l5 m5 => ?_) (fun e τ he hs => herr1 _ _ o4 hrep e τ he (XP (hpr _) hs))
  rw [YR e5] at hrep
  have hc5 := Vf (l ++ [a] ++ [a']) n [] a''
  rw [show (l ++ [a] ++ [a']).length = 1 + 3 * j + 2 by simp [hlen]] at hc5
  rw [hra]
  simp only [Xu,Vw,Uy (hrl o5) hc5,zz,Nat.reduceEqDiff]
  rw [Qi _ (by omega) (by omega)]
  simp only [zz,Nat.reduceEqDiff]
  refine next _ _ hlt ⟨l ++ [a] ++ [a'] ++ [a''],o5,rfl,by simp [hlen]; omega,by omega,m5,?_,?_⟩
  ·rw [show 11 - 3 * (j + 1) = n by omega]
  ·rw [show 11 - 3 * (j + 1) = n by omega]
   exact hrep
 ·have hlt : ¬ j < 3 := by
   have : ¬ (j : Int) < 3 := by simpa using hb
   omega
  obtain rfl : j = 3 := by omega
  exact ⟨l,o2,trivial,trivial,trivial,hlen,ho,hob,rfl,hrep⟩
end Go.Proofs.YtgghfcchanilpaaGreatDoor
