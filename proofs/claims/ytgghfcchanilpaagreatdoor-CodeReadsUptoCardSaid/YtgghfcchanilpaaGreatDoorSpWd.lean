import Derived.Test.YtgghfcchanilpaaGreatDoorSpD
import Derived.Test.YtgghfcchanilpaaGreatDoorPlE
import Derived.Test.YtgghfcchanilpaaGreatDoorSpZd
import Derived.Test.YtgghfcchanilpaaGreatDoorFnG
import Derived.Test.YtgghfcchanilpaaGreatDoorFnB
import Derived.KernelRfl
import Derived.Test.YtgghfcchanilpaaGreatDoorAnn
import Derived.Test.YtgghfcchanilpaaGreatDoorProg
import Derived.Test.YtgghfcchanilpaaGreatDoorAbsExt
set_option linter.unusedVariables false
set_option linter.unusedSimpArgs false
namespace Go.Abs
def zag (u : Nat) : Int := if u % 2 = 1 then -((u / 2 : Nat) : Int) - 1 else ((u / 2 : Nat) : Int)
def S2 : Nat → Nat → Nat → Str → Except Int (Nat × Str)
 | 0,_,_,_ => .error 2
 | f + 1,k,u,[] => .error 16
 | f + 1,k,u,c :: l =>
  if (k = 9 ∧ c.toNat > 1) ∨ (k > 0 ∧ c.toNat = 0) then .error 2
  else if c.toNat < 128 then .ok (u + c.toNat * 128 ^ k,l) else S2 f (k + 1) (u + (c.toNat - 128) * 128 ^ k) l
theorem Gn {n : Nat} (h : n < 256) : (UInt8.ofNat n).toNat = n := by
 rw [UInt8.toNat_ofNat',Nat.mod_eq_of_lt h]
abbrev Pa (α : Type) := Str → Except Int (α × Str)
def Vd {α : Type} (a : α) : Pa α := fun s => .ok (a,s)
def QJ {α β : Type} (p : Pa α) (f : α → Pa β) : Pa β := fun s => match p s with
 | .error e => .error e
 | .ok (a,l) => f a l
def Xq : Pa Int := fun s => match S2 10 0 0 s with
 | .error e => .error e
 | .ok (u,l) => .ok (zag u,l)
def Oc : Pa Nat := QJ Xq fun n s => if n < 0 ∨ n > (s.length : Int) then .error 2 else .ok (n.toNat,s)
def S0 : Pa Str := QJ Oc fun n s => .ok (s.take n,s.drop n)
def SO : Pa Bool := QJ Xq fun n s => if n ≠ 0 ∧ n ≠ 1 then .error 2 else .ok (n == 1,s)
def XJ {α : Type} (p : Pa α) : Nat → Pa (List α)
 | 0 => Vd []
 | n + 1 => QJ p fun a => QJ (XJ p n) fun l => Vd (a :: l)
def Xf {α : Type} (p : Pa α) : Pa (List α) := QJ Oc fun n => XJ p n
def InI (n : Int) : Prop := -9223372036854775808 ≤ n ∧ n ≤ 9223372036854775807
end Go.Abs
namespace Go.Abs
structure YA where
 sig : Int
 frame : Int
 fr : Int
 «to» : Int
 outer : Int
 within : Int
 level : Int
 needs : Int
 ranges : List Yq
structure ZD where
 maps : List (List Xb)
 unions : List (List Int)
 sigs : List (Int × Int)
 routs : List YA
 insts : List Xz
 jumps : List (List Int)
 parts : List (List Int)
 texts : List Str
 trans : List YW
 lines : List (Int × Int)
def N4 : Pa Xb := QJ Xq fun a => QJ Xq fun b => QJ Xq fun c => QJ Xq fun d => QJ SO fun e => Vd ⟨a,b,c,d,e⟩
def MA : Pa (List Xb) := Xf N4
def PO : Pa (Int × Int) := QJ Xq fun a => QJ Xq fun b => Vd (a,b)
def Vp : Pa Yq := QJ Xq fun a => QJ Xq fun b => QJ Xq fun c => Vd ⟨a,b,c⟩
def TH : Pa YA := QJ Xq fun a => QJ Xq fun b => QJ Xq fun c => QJ Xq fun d => QJ Xq fun e => QJ Xq fun f => QJ Xq fun g => QJ Xq fun h => QJ (Xf Vp) fun l => Vd ⟨a,b,c,d,e,f,g,h,l⟩
def OB : Pa Za := QJ Xq fun a => QJ Xq fun b => QJ Xq fun c => Vd ⟨a,b,c⟩
def Uf : Pa Xz := QJ Xq fun o => QJ OB fun s => QJ OB fun t => QJ OB fun d => QJ Xq fun n => QJ Xq fun k => Vd ⟨o,s,t,d,n,k⟩
def Ux : Pa YW := QJ S0 fun w => QJ SO fun f => QJ Xq fun m => Vd ⟨w,f,m⟩
def UI : Pa (List Int) := Xf Xq
def TB : Pa ZD := QJ (Xf MA) fun a => QJ (Xf UI) fun b => QJ (Xf PO) fun c => QJ (Xf TH) fun d => QJ (Xf Uf) fun e => QJ (Xf UI) fun f => QJ (Xf UI) fun g =>
 QJ (Xf S0) fun h => QJ (Xf Ux) fun i => QJ (Xf PO) fun j => Vd ⟨a,b,c,d,e,f,g,h,i,j⟩
def EZ (s : Xb) : Prop := InI s.kind ∧ InI s.size ∧ InI s.map ∧ InI s.dims
def FM (p : Int × Int) : Prop := InI p.1 ∧ InI p.2
def FU (r : Yq) : Prop := InI r.outer ∧ InI r.fr ∧ InI r.to
def Ky {α : Type} (l : List α) : Prop := l.length ≤ 9223372036854775807
def B2 (r : YA) : Prop := InI r.sig ∧ InI r.frame ∧ InI r.fr ∧ InI r.to ∧ InI r.outer ∧ InI r.within ∧ InI r.level ∧ InI r.needs ∧ (Ky r.ranges ∧ ∀ g ∈ r.ranges,FU g)
def J6 (o : Za) : Prop := InI o.k ∧ InI o.a ∧ InI o.b
def H6 (i : Xz) : Prop := InI i.op ∧ J6 i.s ∧ J6 i.t ∧ J6 i.d ∧ InI i.n ∧ InI i.k
def BU (t : YW) : Prop := Ky t.word ∧ InI t.map
def Uh {α : Type} (ok : α → Prop) (l : List α) : Prop := Ky l ∧ ∀ a ∈ l,ok a
structure BE (c : ZD) : Prop where
 maps : Uh (Uh EZ) c.maps
 unions : Uh (Uh InI) c.unions
 sigs : Uh FM c.sigs
 routs : Uh B2 c.routs
 insts : Uh H6 c.insts
 jumps : Uh (Uh InI) c.jumps
 parts : Uh (Uh InI) c.parts
 texts : Uh Ky c.texts
 trans : Uh BU c.trans
 lines : Uh FM c.lines
end Go.Abs
namespace Go.Proofs.YtgghfcchanilpaaGreatDoor
open Go Go.Abs
def u8s (l : Str) : List PV := l.map fun b => .int .u8 b.toNat
theorem K6 (a : Str) : (u8s a).length = a.length := List.length_map _
theorem GU (p : Nat) : Qh 0 (.ptr p 0 0 0) = some (.ptr p 0 0 0) := rfl
theorem GA (p : Nat) : Vb (.ptr p 0 0 0) = some (.ptr p 0 0 0) := rfl
end Go.Proofs.YtgghfcchanilpaaGreatDoor
namespace Go.Proofs.YtgghfcchanilpaaGreatDoor
open Go Go.Abs Go.ChangeShapes Go.WideShapes Go.ChangeAt Go.RowKit
section
variable {H : Type} {encH : TypeId × Value → H} {W : World}
end
def N8 (r : Vv) : YA := ⟨r.sig,r.frame,r.fr,r.to,r.outer,r.within,r.level,r.needs,r.ranges.2⟩
def KU (c : Qp) : ZD := ⟨c.maps.2.map (·.2),c.unions.2.map (·.2),c.sigs.2,c.routs.2.map N8,c.insts.2,c.jumps.2.map (·.2),c.parts.2.map (·.2),c.texts.2,c.trans.2,c.lines.2⟩
section
variable {H : Type} {encH : TypeId × Value → H} {W : World}
end
end Go.Proofs.YtgghfcchanilpaaGreatDoor
namespace Go.Proofs.YtgghfcchanilpaaGreatDoor
open Go Go.Abs
def Ah (Pr : Program) (W : Q8) (a0 a1 : PV) (σ : St) (R : Res → St → Prop) : Prop :=
oF (Qj .sl a0 σ) fun a =>
oF (Qj .sl a1 σ) fun b =>
bF .neq a b fun a =>
Q3 a (
wkR σ (.bool false) σ R) (
X6 σ (fun a =>
QC [(0,a0),(1,a1),(5,nI 0)] fun b =>
Lfp σ (fun c d e =>
oF (Qj .sl (d 0) e) fun f =>
bF .lss (d 5) f fun f =>
Q3 f (
oF (Q5 1 (d 0) (d 5)) fun f =>
oF (Q4 false 1 f e) fun f =>
oF (Q5 1 (d 1) (d 5)) fun g =>
oF (Q4 false 1 g e) fun g =>
bF .neq f g fun f =>
Q3 f (
wkR σ (.bool false) e R) (
bF .add (d 5) (nI 1) fun f =>
kF [(0,d 0),(1,d 1),(5,f)] c e)) (
kF [] a e)) b σ) (fun a a =>
wkR σ (.bool true) a R))
theorem DX (W : Q8) (a0 a1 : PV) (σ : St) (R : Res → St → Prop) : Qn (Qq W) Tryz.prog QO 28 [a0,a1] σ R = Ah Tryz.prog W a0 a1 σ R := by kernel_rfl
end Go.Proofs.YtgghfcchanilpaaGreatDoor
namespace Go.Proofs.YtgghfcchanilpaaGreatDoor
open Go Go.Abs
theorem MU {n : Int} (h : InI n) : VU n = true := by
 simpa [VU,InI] using h
theorem K3 {o : Za} (h : J6 o) : o.ok = true := by
 simp [Za.ok,MU h.1,MU h.2.1,MU h.2.2]
theorem Db {i : Xz} (h : H6 i) : i.ok = true := by
 simp [Xz.ok,MU h.1,K3 h.2.1,K3 h.2.2.1,K3 h.2.2.2.1,MU h.2.2.2.2.1,MU h.2.2.2.2.2]
theorem Dm {c : Qp} (h : BE (KU c)) : Lz c := by
 refine ⟨fun r hr => ?_,fun i hi => Db (h.insts.2 i hi)⟩
 have := (h.routs.2 (N8 r) (List.mem_map_of_mem hr)).2.2.2.2.2.2.1
 have := this.2
 simp only [N8] at this
 omega
end Go.Proofs.YtgghfcchanilpaaGreatDoor
namespace Go.Proofs.YtgghfcchanilpaaGreatDoor
open Go Go.Abs
def LO (h : Int) (b : UInt8) : Int := IntKind.u32.wrap (IntKind.u32.wrap ((BitVec.ofInt 32 h ^^^ BitVec.ofInt 32 (b.toNat : Int)).toNat : Nat) * 16777619)
def Uj (l : Str) : Int := l.foldl LO 2166136261
def UF (s : Int) (k : Nat) : UInt8 := UInt8.ofNat (IntKind.u8.wrap (s.fdiv (2 ^ k))).toNat
def Yb (s : Int) : Str := [UF s 0,UF s 8,UF s 16,UF s 24]
theorem Jq (b : UInt8) : XY .u32 (.int .u8 (b.toNat : Int)) = some (.int .u32 (b.toNat : Int)) := by
 have h := b.toNat_lt
 simp only [XY]
 have : IntKind.u32.wrap (b.toNat : Int) = (b.toNat : Int) := by
  simp [IntKind.wrap,IntKind.bits,IntKind.signed]
  omega
 rw [this]
theorem KY (h : Int) (b : UInt8) : ∃ w : Int,QR none .xor (.int .u32 h) (.int .u32 (b.toNat : Int)) = some (.int .u32 w) ∧ QR none .mul (.int .u32 w) (.int .u32 16777619) = some (.int .u32 (LO h b)) := ⟨_,rfl,rfl⟩
theorem Nn (s : Int) (k : Nat) : (PV.int .u8 (IntKind.u8.wrap (s.fdiv (2 ^ k)))) = .int .u8 ((UF s k).toNat : Int) := by
 unfold UF
 rw [wrap_u8]
 have h0 : 0 ≤ s.fdiv (2 ^ k) % 256 := Int.emod_nonneg _ (by omega)
 have h1 : s.fdiv (2 ^ k) % 256 < 256 := Int.emod_lt_of_pos _ (by omega)
 rw [Gn (by omega)]
 congr 1
 omega
theorem P3 (s : Int) : XY .u8 (.int .u32 s) = some (.int .u8 ((UF s 0).toNat : Int)) ∧
  (∃ w : Int,QR none .shr (.int .u32 s) (.int .u64 8) = some (.int .u32 w) ∧ XY .u8 (.int .u32 w) = some (.int .u8 ((UF s 8).toNat : Int))) ∧
  (∃ w : Int,QR none .shr (.int .u32 s) (.int .u64 16) = some (.int .u32 w) ∧ XY .u8 (.int .u32 w) = some (.int .u8 ((UF s 16).toNat : Int))) ∧
  (∃ w : Int,QR none .shr (.int .u32 s) (.int .u64 24) = some (.int .u32 w) ∧ XY .u8 (.int .u32 w) = some (.int .u8 ((UF s 24).toNat : Int))) := by
 refine ⟨?_,⟨s.fdiv (2 ^ 8),rfl,?_⟩,⟨s.fdiv (2 ^ 16),rfl,?_⟩,⟨s.fdiv (2 ^ 24),rfl,?_⟩⟩
 ·rw [← Nn s 0]
  simp [XY,Int.fdiv_one]
 ·rw [← Nn s 8]
  rfl
 ·rw [← Nn s 16]
  rfl
 ·rw [← Nn s 24]
  rfl
theorem Ff (a b c d : UInt8) : QI 1 (List.replicate 4 (.int .u8 0)) [(0,.int .u8 (a.toNat : Int)),(1,.int .u8 (b.toNat : Int)),(2,.int .u8 (c.toNat : Int)),(3,.int .u8 (d.toNat : Int))] = some (u8s [a,b,c,d]) := rfl
theorem c78 (s : Int) (σ : St) : Ret W 78 [.int .u32 s] σ (.list .full (u8s (Yb s))) := by
 refine QE fun R hR => ?_
 rw [D8]
 delta wi bF
 obtain ⟨e0,⟨w1,e1,f1⟩,⟨w2,e2,f2⟩,⟨w3,e3,f3⟩⟩ := P3 s
 simp only [e0,e1,f1,e2,f2,e3,f3,Ff,zz,Nat.reduceEqDiff]
 exact Q2 hR
theorem JL {l : Str} {j : Nat} {b : UInt8} (h : l[j]? = some b) : (l.take (j + 1)).foldl LO 2166136261 = LO ((l.take j).foldl LO 2166136261) b := by
 rw [List.take_add_one,h,List.foldl_append]
 rfl
def VM (τ : St) (v : PV) (out : Str) : Prop := v = .list .full (u8s out) ∨ ∃ b g,v = .sref b g 1 0 out.length ∧ τ[b]? = some (.arr g 1 (u8s out))
theorem LB {out : Str} {j : Nat} {c : UInt8} (h : out[j]? = some c) : (u8s out)[j]? = some (.int .u8 (c.toNat : Int)) := by
 unfold u8s
 rw [List.getElem?_map,h]
 rfl
theorem VM.at {τ : St} {v : PV} {out : Str} (h : VM τ v out) {j : Nat} {c : UInt8} (hc : out[j]? = some c) : ∃ a,Q5 1 v (.int .i64 j) = some a ∧ Q4 false 1 a τ = some (.int .u8 (c.toNat : Int)) := by
 have hj : j < out.length := (List.getElem?_eq_some_iff.1 hc).1
 rcases h with rfl | ⟨b,g,rfl,hb⟩
 ·refine ⟨.eptr (.int .u8 (c.toNat : Int)) 0,Zg .i64 (LB hc) rfl rfl,rfl⟩
 ·refine ⟨.ptr b g j 0,by simp [Q5,hj],by simp [Q4,hb,LB hc,Q6,PV.cells?]⟩
theorem VM.len {τ : St} {v : PV} {out : Str} (h : VM τ v out) (τ' : St) : Qj .sl v τ' = some (.int .i64 out.length) := by
 rcases h with rfl | ⟨b,g,rfl,hb⟩
 ·simp [Qj,K6]
 ·rfl
theorem VM.elems {τ : St} {v : PV} {out : Str} (h : VM τ v out) : Xn v τ = some (u8s out) := by
 rcases h with rfl | ⟨b,g,rfl,hb⟩
 ·rfl
 ·simp [Xn,hb,K6,List.take_of_length_le]
theorem Uv : ∀ l : Str,Z3 (u8s l) = some l
 | [] => rfl
 | b :: l => by
  have h : UInt8.ofNat ((b.toNat : Int).toNat) = b := by simp
  show (match Z3 (u8s l) with | some r => some (UInt8.ofNat ((b.toNat : Int).toNat) :: r) | none => none) = _
  rw [Uv l,h]
theorem VM.str {τ : St} {v : PV} {out : Str} (h : VM τ v out) : Zf v τ = some (.str out) := by
 have he := h.elems
 rcases h with rfl | ⟨b,g,rfl,hb⟩
 ·simp only [Zf,he,Uv]
 ·simp only [Zf,he,Uv]
theorem c79 {v : PV} {out : Str} {τ : St} (h : VM τ v out) (hl : out.length ≤ 140737488355328) : Ret W 79 [v] τ (.int .u32 (Uj out)) := by
 refine QE fun R hR => ?_
 rw [Cb]
 delta wy bF kF nI
 simp only [h.len,zz,Nat.reduceEqDiff]
 refine Qr (fun x τ' => x 3 = .int .u32 (Uj out) ∧ τ' = τ) (fun x τ' hx => ?_) ?_
 ·obtain ⟨q3,rfl⟩ := hx
  rw [q3]
  exact Q2 hR
 refine QT out.length (fun j x τ' => x = Qz [(3,.int .u32 ((out.take j).foldl LO 2166136261)),(6,v),(7,.int .i64 out.length),(8,.int .i64 j)] ∧ τ' = τ) ?_ ⟨rfl,rfl⟩
 rintro Φ j x τ' hj ⟨rfl,rfl⟩ next
 by_cases hlt : j < out.length
 ·have hg : out[j]? = some out[j] := by simp [hlt]
  generalize out[j] = c at hg
  have hst := JL hg
  obtain ⟨w,e1,e2⟩ := KY ((out.take j).foldl LO 2166136261) c
  obtain ⟨a,hix,hld⟩ := h.at hg
  simp only [Vt hlt,hlt,decide_true,hix,hld,Jq,e1,e2,zz,Nat.reduceEqDiff]
  rw [Qi _ (by omega) (by omega)]
  simp only [zz,Nat.reduceEqDiff]
  exact next _ _ hlt ⟨by rw [hst]; rfl,rfl⟩
 ·obtain rfl : j = out.length := by omega
  simp only [Z0,Nat.lt_irrefl,decide_false,zz,Nat.reduceEqDiff,List.take_length]
  exact ⟨rfl,trivial⟩
theorem c31 {s : Str} (hl : s.length ≤ 140737488355328) (σ : St) : Ret W 31 [.str s] σ (.int .u32 (Uj s)) := by
 refine QE fun R hR => ?_
 rw [Ci]
 delta uf bF kF nI
 simp only [zz,Nat.reduceEqDiff]
 refine Qr (fun x τ' => x 3 = .int .u32 (Uj s) ∧ τ' = σ) (fun x τ' hx => ?_) ?_
 ·obtain ⟨q3,rfl⟩ := hx
  rw [q3]
  exact Q2 hR
 refine QT s.length (fun j x τ' => x = Qz [(0,.str s),(3,.int .u32 ((s.take j).foldl LO 2166136261)),(4,.int .i64 j)] ∧ τ' = σ) ?_ ⟨rfl,rfl⟩
 rintro Φ j x τ' hj ⟨rfl,rfl⟩ next
 by_cases hlt : j < s.length
 ·have hg : s[j]? = some s[j] := by simp [hlt]
  generalize s[j] = c at hg
  have hst := JL hg
  obtain ⟨w,e1,e2⟩ := KY ((s.take j).foldl LO 2166136261) c
  have hsa : Xt (.str s) (.int .i64 j) = some (.int .u8 (c.toNat : Int)) := by simp [Xt,hg]
  simp only [Vt hlt,hlt,decide_true,hsa,Jq,e1,e2,zz,Nat.reduceEqDiff]
  rw [Qi _ (by omega) (by omega)]
  simp only [zz,Nat.reduceEqDiff]
  exact next _ _ hlt ⟨by rw [hst]; rfl,rfl⟩
 ·obtain rfl : j = s.length := by omega
  simp only [Z0,Nat.lt_irrefl,decide_false,zz,Nat.reduceEqDiff,List.take_length]
  exact ⟨rfl,trivial⟩
def PN : Str := [69,78,86,49]
end Go.Proofs.YtgghfcchanilpaaGreatDoor
