import Derived.Test.YtgghfcchanilpaaGreatDoorAbsF
import Derived.Lib.AtoiAllCases
import Derived.Lib.ParseIntBTie
import Derived.Test.YtgghfcchanilpaaGreatDoorAbsExt
import Derived.Test.YtgghfcchanilpaaGreatDoorFnT
set_option linter.unusedVariables false
set_option linter.unusedSimpArgs false
namespace Go.Abs
theorem zz : (∀ {ρ : Type} {α : Type} (f : ρ) (a : α) (K : α → ρ),Qg f (some a) K = K a) ∧
 (∀ {ρ : Type} {α : Type} (f : ρ) (K : α → ρ),Qg f none K = f) ∧
 (∀ (r : PV × St) (K : PV → St → Prop),XE (some r) K = K r.1 r.2) ∧
 (∀ (a b : Prop),Q3 (.bool true) a b = a) ∧
 (∀ (a b : Prop),Q3 (.bool false) a b = b) ∧
 (∀ {ρ : Type} (f : ρ) (op : ((Nat → EV) → St → ρ) → ρ) (σ : St) (K : (Nat → EV) → St → ρ),XB f (.bool true) true op σ K = op K) ∧
 (∀ {ρ : Type} (f : ρ) (op : ((Nat → EV) → St → ρ) → ρ) (σ : St) (K : (Nat → EV) → St → ρ),XB f (.bool false) false op σ K = op K) ∧
 (∀ {ρ : Type} (f : ρ) (op : ((Nat → EV) → St → ρ) → ρ) (σ : St) (K : (Nat → EV) → St → ρ),XB f (.bool true) false op σ K = K (fun _ => .v (.tuple [])) σ) ∧
 (∀ {ρ : Type} (f : ρ) (op : ((Nat → EV) → St → ρ) → ρ) (σ : St) (K : (Nat → EV) → St → ρ),XB f (.bool false) true op σ K = K (fun _ => .v (.tuple [])) σ) ∧
 (∀ {ρ : Type} (f : ρ) (b : Bool) (op : ((Nat → EV) → St → ρ) → ρ) (σ : St) (K : (Nat → EV) → St → ρ),XB f (.tuple []) b op σ K = K (fun _ => .v (.tuple [])) σ) ∧
 (∀ (k n : Nat) (x : PV) (l : List (Nat × PV)),Qz ((k,x) :: l) n = if n = k then x else Qz l n) ∧
 (∀ (k n : Nat) (x : EV) (l : List (Nat × EV)),Q9 ((k,x) :: l) n = if n = k then x else Q9 l n) ∧
 (∀ (a b : PV),Qc (.bool true) a b = some a) ∧
 (∀ (a b : PV),Qc (.bool false) a b = some b) ∧
 (∀ (b : Bool),vUn .not (.bool b) = some (.bool !b)) ∧
 (∀ (vs : List PV) (i : Nat),X0 (.tuple vs) i = vs[i]?) ∧
 (∀ (k : IntKind) (ek : Option EK) (a b : Int),QR ek .lss (.int k a) (.int k b) = some (.bool (decide (a < b)))) ∧
 (∀ (k : IntKind) (ek : Option EK) (a b : Int),QR ek .leq (.int k a) (.int k b) = some (.bool (decide (a ≤ b)))) ∧
 (∀ (k : IntKind) (ek : Option EK) (a b : Int),QR ek .gtr (.int k a) (.int k b) = some (.bool (decide (a > b)))) ∧
 (∀ (k : IntKind) (ek : Option EK) (a b : Int),QR ek .geq (.int k a) (.int k b) = some (.bool (decide (a ≥ b)))) ∧
 (∀ (k : IntKind) (ek : Option EK) (a b : Int),QR ek .eql (.int k a) (.int k b) = some (.bool (a == b))) ∧
 (∀ (k : IntKind) (ek : Option EK) (a b : Int),QR ek .neq (.int k a) (.int k b) = some (.bool (a != b))) ∧
 (∀ (ek : Option EK) (a b : List UInt8),QR ek .eql (.str a) (.str b) = some (.bool (a == b))) ∧
 (∀ (ek : Option EK) (a b : List UInt8),QR ek .neq (.str a) (.str b) = some (.bool !(a == b))) ∧
 (∀ (l : List UInt8) (σ : St),Qj .str (.str l) σ = some (.int .i64 l.length)) ∧
 (∀ (k : LK) (l : List PV) (σ : St),Qj .sl (.list k l) σ = some (.int .i64 l.length)) ∧
 (∀ (b g z o l : Nat) (σ : St),Qj .sl (.sref b g z o l) σ = some (.int .i64 l)) ∧
 (∀ (ag : Bool) (sz : Nat) (e : PV) (off : Nat) (σ : St),Q4 ag sz (.eptr e off) σ = Q6 ag sz e off) ∧
 (∀ (cs : List PV) (off sz : Nat),Q6 false sz (.agg cs) off = cs[off]?) ∧
 (∀ (s : List UInt8) (sz : Nat),Q6 false sz (.str s) 0 = some (.str s)) ∧
 (∀ (s : Bool) (sz : Nat),Q6 false sz (.bool s) 0 = some (.bool s)) ∧
 (∀ (q : IntKind) (s : Int) (sz : Nat),Q6 false sz (.int q s) 0 = some (.int q s)) ∧
 (∀ (q : LK) (s : List PV) (sz : Nat),Q6 false sz (.list q s) 0 = some (.list q s)) ∧
 (∀ (a b : PV),Q6 true 2 (.agg [a,b]) 0 = some (.agg [a,b])) ∧
 (∀ (e : PV) (off o : Nat),Qh o (.eptr e off) = some (.eptr e (off + o))) ∧
 (∀ (b g i off o : Nat),Qh o (.ptr b g i off) = some (.ptr b g i (off + o))) ∧
 (∀ {α : Type} {a : α} {l : List α},(a :: l)[0]? = some a) ∧
 (∀ {α : Type} {l : List α} {i : Nat} {a : α},(a :: l)[i + 1]? = l[i]?) ∧
 (∀ x : PV,(EV.v x).pv = x) ∧
 (∀ s o : Nat,(EV.loc s o).pv = .any) ∧
 (∀ n : Nat,0 + n = n) ∧
 (∀ n : Nat,n + 0 = n) ∧
 ((!true) = false) ∧
 ((!false) = true) ∧
 (∀ {m n : Nat},(m : Int) < (n : Int) ↔ m < n) ∧
 (∀ {α : Type} {h : Decidable True} (a b : α),(@ite α True h a b) = a) ∧
 (∀ {α : Type} {h : Decidable False} (a b : α),(@ite α False h a b) = b) ∧
 (∀ {h : Decidable True},@decide True h = true) ∧
 (∀ {h : Decidable False},@decide False h = false) ∧
 (∀ (l : List (Nat × PV)) (K : (Nat → PV) → Prop),QC l K = K (Qz l)) ∧
 (∀ (l : List UInt8) (K : List UInt8 → Prop),xS (.str l) K = K l) ∧
 (∀ {α : Type} (a : α),(a = a) = True) := by
 refine ⟨?_,?_,?_,?_,?_,?_,?_,?_,?_,?_,?_,?_,?_,?_,?_,?_,?_,?_,?_,?_,?_,?_,?_,?_,?_,?_,?_,?_,?_,?_,?_,?_,?_,?_,?_,?_,?_,?_,?_,?_,?_,?_,?_,?_,?_,?_,?_,?_,?_,?_,?_,?_⟩
 all_goals intros
 all_goals first | exact EH _ _ | rfl | simp
end Go.Abs
namespace Go.Abs
open Go.Lib
theorem U9 {α : Type} {q : α → Bool} {l : List α} {i : Nat} {a : α} (hp : (l.take i).any q = false) (h : l[i]? = some a) (hq : q a = false) : (l.take (i + 1)).any q = false := by
 rw [List.take_add_one,h,List.any_append,hp]
 simp [hq]
theorem Tk {α : Type} {q : α → Bool} {l : List α} {i : Nat} {a : α} (h : l[i]? = some a) (hq : q a = true) : l.any q = true := List.any_eq_true.2 ⟨a,List.mem_of_getElem? h,hq⟩
end Go.Abs
namespace Go.Abs
open Go.Lib
abbrev Str := List UInt8
structure Za where
 k : Int
 a : Int
 b : Int
 deriving DecidableEq
structure Xz where
 op : Int
 s : Za
 t : Za
 d : Za
 n : Int
 k : Int
 deriving DecidableEq
def XX (o : Za) : PV := .agg [.int .i64 o.k,.int .i64 o.a,.int .i64 o.b]
def QD (i : Xz) : PV := .agg [.int .i64 i.op,.int .i64 i.s.k,.int .i64 i.s.a,.int .i64 i.s.b,.int .i64 i.t.k,.int .i64 i.t.a,.int .i64 i.t.b,.int .i64 i.d.k,.int .i64 i.d.a,.int .i64 i.d.b,.int .i64 i.n,.int .i64 i.k]
def Za.ok (o : Za) : Bool := VU o.k && (VU o.a && VU o.b)
def Xz.ok (i : Xz) : Bool := VU i.op && (i.s.ok && (i.t.ok && (i.d.ok && (VU i.n && VU i.k))))
def M9 : List (Str × Str) := [([110,111,112],[45,45,45,45,45]),([109,111,118,101],[115,45,115,45,109]),([117,110,100,101,102],[45,45,115,45,109]),([99,111,110,115,116],[45,45,115,110,45]),([114,101,97,108],[45,45,115,110,101]),([116,101,120,116],[45,45,115,45,116]),([102,111,114,109],[45,45,115,45,116]),([110,105,108],[45,45,115,45,45]),([101,109,112,116,121],[45,45,115,45,45]),([106,117,109,112],[45,45,45,45,106]),([102,97,108,115,101],[115,45,45,45,106]),([99,104,111,111,115,101],[115,45,45,45,99]),([99,111,110,102,111,114,109],[115,45,45,45,99]),([101,110,116,101,114],[45,45,45,45,103]),([108,101,97,118,101],[111,45,45,77,103]),([116,105,99,107],[45,45,45,45,45]),([99,97,108,108],[115,111,111,45,45]),([114,101,116,117,114,110],[45,45,45,45,45]),([103,111,116,111],[114,45,45,45,74]),([112,97,114],[45,45,45,45,99]),([115,116,111,112],[45,45,45,45,45]),([114,111,117,116],[45,45,115,45,102]),([117,110,105,116,101],[111,45,115,45,117]),([114,101,117,110,105,116,101],[115,45,115,45,112]),([112,97,114,116],[115,45,111,45,117]),([102,105,101,108,100],[115,45,115,45,111]),([100,101,114,101,102],[115,45,115,45,45]),([97,115,115,105,103,110],[115,115,45,45,45]),([105,115],[115,115,115,45,45]),([117,115,101],[115,45,45,45,104]),([115,112,97,110],[115,45,45,45,68]),([103,101,110],[111,45,115,45,104]),([115,117,98],[115,115,115,104,100]),([116,114,105,109],[115,111,115,98,100]),([114,111,119],[115,45,115,45,45]),([99,111,108,108,97,116],[111,45,115,45,107]),([119,105,100,101,110],[115,45,115,45,45]),([111,112,101,114],[115,111,111,45,113]),([115,116,100],[45,45,115,45,105]),([116,114,97,110,115],[111,111,45,45,120])]
def Zo (n : Int) : Bool := decide (0 ≤ n) && decide (n < 40)
def VH (n : Int) : Str × Str := M9.getD n.toNat ([],[])
def ZN (n : Int) : Str := if Zo n then (VH n).2 else []
theorem Ke : M9.length = 40 := by decide
end Go.Abs
namespace Go.Proofs.YtgghfcchanilpaaGreatDoor
open Go Go.Abs
abbrev W1 : Q8 := VS Tryz.prog VW
theorem V0 {f : FuncId} {args : List PV} {σ : St} {v : PV} (h : ∀ R : Res → St → Prop,R (.ret v) σ → Qn (Qq W1) Tryz.prog VW f args σ R) : Ret W1 f args σ v := fun R hR => Xe (h R hR)
theorem TY {α : Type} {p : α → Bool} {l : List α} (h : l.all p = true) {x : α} (hx : x ∈ l) : p x = true := List.all_eq_true.1 h x hx
structure Hc (L : List Ln) : Prop where
 eq : L.map Yk = Z4 ++ XV ++ Yz
 ok : L.all Ln.ok = true
 cnt : (L.map Ln.cnt).sum = 470
 len : L.length = 135
 run : ∀ x ∈ L,∀ k ∈ x.OE,S1 x.l k = true ∧ S1 x.r k = true ∧ S1 x.q k = true
theorem LZ {L : List Ln} {M : List (Str × Int)} {p : Str → Int → Bool} (h1 : M.all (fun m => p m.1 m.2) = true) (h2 : L.all (fun x => x.OE.all fun k => M.contains (x.l,k) && (M.contains (x.r,k) && M.contains (x.q,k))) = true) :
  ∀ x ∈ L,∀ k ∈ x.OE,p x.l k = true ∧ p x.r k = true ∧ p x.q k = true := by
 intro x hx k hk
 have h3 := TY (TY h2 hx) hk
 simp only [Bool.and_eq_true,List.contains_iff_mem] at h3
 exact ⟨TY h1 h3.1,TY h1 h3.2.1,TY h1 h3.2.2⟩
theorem Gl : ∃ L,Hc L := ⟨lns,BN,BJ,Cg,by kernel_rfl,LZ (p := S1) G0 HJ⟩
theorem Bb {x : Ln} (h : x.ok = true) : x.s.all (fun c => decide (c.toNat < 128)) = true ∧ x.s.length < 100 ∧ 0 ≤ x.a ∧ x.a ≤ x.b ∧ x.b < 3 ∧ 0 ≤ x.f ∧ x.f < 500 := by
 simpa only [Ln.ok,Bool.and_eq_true,decide_eq_true_eq] using h
theorem E9 (n : Nat) (x : Ln) : XR n (Yk x) := by
 refine .agg _ fun i y hy => ?_
 match i with
 | 0 => simp at hy; subst hy; exact .str _
 | 1 => simp at hy; subst hy; exact .int _ _
 | 2 => simp at hy; subst hy; exact .str _
 | 3 => simp at hy; subst hy; exact .str _
 | 4 => simp at hy; subst hy; exact .str _
 | 5 => simp at hy; subst hy; exact .int _ _
 | 6 => simp at hy; subst hy; exact .int _ _
 | 7 => simp at hy; subst hy; exact .int _ _
 | 8 => simp at hy; subst hy; exact .int _ _
 | i + 9 => simp at hy
theorem OQ {L : List Ln} (H : Hc L) : (∀ z ∈ XV,Ul 9 z) ∧ (∀ z ∈ Yz,Ul 9 z) := by
 have h : ∀ z ∈ Z4 ++ XV ++ Yz,Ul 9 z := by
  rw [← H.eq]
  intro z hz
  obtain ⟨x,_,rfl⟩ := List.mem_map.1 hz
  exact ⟨_,rfl,rfl⟩
 exact ⟨fun z hz => h z (by simp [hz]),fun z hz => h z (by simp [hz])⟩
theorem r209 (σ : St) : Ret W1 209 [] σ (.list .full Z4) := V0 fun R hR => by
 rw [JF]
 exact Q2 hR
theorem r210 (σ : St) : Ret W1 210 [] σ (.list .full XV) := V0 fun R hR => by
 rw [J0]
 exact Q2 hR
theorem r211 (σ : St) : Ret W1 211 [] σ (.list .full Yz) := V0 fun R hR => by
 rw [KR]
 exact Q2 hR
theorem c97 {L : List Ln} (H : Hc L) (σ : St) : Ret W1 97 [] σ (.list .part (L.map Yk)) := by
 refine V0 fun R hR => ?_
 rw [DY]
 delta xp
 refine (r209 σ).Q0 ?_
 refine (r210 σ).Q0 ?_
 have h0 : QM 9 104 (.list .full Z4) (.list .full XV) σ = some (.sref σ.length 0 9 0 (Z4 ++ XV).length,σ ++ [.arr 0 9 (Z4 ++ XV)]) := by
  have e1 : XV.isEmpty = false := rfl
  have e2 : roomy (Z4.length + XV.length) 104 = true := by decide
  simp only [QM,Xn,e1,Bool.false_eq_true,if_false]
  rw [if_pos ⟨by simp,e2,rfl,V9 (OQ H).1⟩,List.length_append]
 have g0 : Grow σ.length 9 (σ ++ [.arr 0 9 (Z4 ++ XV)]) (.sref σ.length 0 9 0 (Z4 ++ XV).length) (Z4 ++ XV) := .inr ⟨σ.length,0,Nat.le_refl _,rfl,by simp,by simp [Z4]⟩
 rw [h0]
 simp only [zz]
 refine (r211 _).Q0 ?_
 obtain ⟨x',σ',h1,g1,p1,_⟩ := g0.app (by_ := 104) (PX (List.prefix_refl σ) _) (y := .list .full Yz) (zs := Yz) rfl (OQ H).2 (by decide)
 rw [h1]
 simp only [zz]
 have e : Q1 (Z4 ++ XV ++ Yz) = .list .part (L.map Yk) := by rw [H.eq]; kernel_rfl
 have hf := g1.frz fun y hy => ?_
 ·rw [e] at hf
  exact Yi p1 hf hR
 ·rw [← H.eq] at hy
  obtain ⟨x,_,rfl⟩ := List.mem_map.1 hy
  exact .base _ (E9 _ x)
theorem BY {x : Ln} {s : Str} {k : Int} (h : S1 s k = true) (σ : St) : Ret W1 214 [Yk x,.str s,.int .i64 k] σ (.str (SR s k)) := V0 fun R hR => by
 show Qg False (Mk [Yk x,.str s,.int .i64 k] σ) (fun r => R (.ret r.1) r.2)
 have : Mk [Yk x,.str s,.int .i64 k] σ = some (.str (SR s k),σ) := by
  show (if [PV.str x.s,.int .i64 x.p,.str x.l,.str x.r,.str x.q,.int .i64 x.d,.int .i64 x.f,.int .i64 x.a,.int .i64 x.b].length = 9 ∧ S1 s k = true then some (PV.str (SR s k),σ) else none) = _
  rw [if_pos ⟨rfl,h⟩]
 rw [this]
 exact hR
theorem r98 {s : Str} (h : s.length < 4294967281) (ha : s.all (fun b => decide (b.toNat < 128)) = true) (σ : St) : Ret W1 98 [.str s] σ (.list .full ((Go.Lib.fields s).map .str)) := V0 fun R hR => by
 show Qg False (Vj [.str s] σ) (fun r => R (.ret r.1) r.2)
 have : Vj [.str s] σ = some (.list .full ((Go.Lib.fields s).map .str),σ) := by
  simp only [Vj]
  rw [if_pos ⟨h,ha⟩]
 rw [this]
 exact hR
def Seven (f : FuncId) (args : List PV) (σ : St) : Prop := ∀ R : Res → St → Prop,(∀ cs,cs.length = 7 → R (.ret (.agg cs)) σ) → W1 f args σ R
theorem Seven.Q0 {f : FuncId} {args : List PV} {σ : St} (h : Seven f args σ) {K X : PV → St → Prop} (k : ∀ cs,cs.length = 7 → K (.agg cs) σ) : Q0 W1 f args σ K X := h _ k
theorem c99 {L : List Ln} (H : Hc L) {x : Ln} (hx : x ∈ L) {k : Int} (hk : k ∈ x.OE) (hk3 : 0 ≤ k ∧ k < 3) (t : Str) (σ : St) : Seven 99 [Yk x,.str t,.int .i64 k] σ := by
 intro R hR
 refine Xe ?_
 rw [DC]
 delta xA bF pF nI wvR
 obtain ⟨m1,m2,m3⟩ := H.run x hx k hk
 obtain ⟨_,_,a1,a2,a3,f1,f2⟩ := Bb (TY H.ok hx)
 have hbox : opC.vBoxAny (Yk x) = some (9,Yk x) := rfl
 have hpart : Q6 true 9 (Yk x) 0 = some (Yk x) := rfl
 have e1 : Q6 false 1 (Yk x) 2 = some (.str x.l) := rfl
 have e2 : Q6 false 1 (Yk x) 3 = some (.str x.r) := rfl
 have e3 : Q6 false 1 (Yk x) 4 = some (.str x.q) := rfl
 have e4 : Q6 false 1 (Yk x) 1 = some (.int .i64 x.p) := rfl
 have e5 : Q6 false 1 (Yk x) 5 = some (.int .i64 x.d) := rfl
 have e6 : Q6 false 1 (Yk x) 6 = some (.int .i64 x.f) := rfl
 have e7 : Q6 false 1 (Yk x) 7 = some (.int .i64 x.a) := rfl
 simp only [hbox,hpart,e1,e2,e3,e4,e5,e6,e7,zz,Nat.reduceEqDiff]
 rw [Qi _ (by omega) (by omega)]
 simp only [zz,Nat.reduceEqDiff]
 rw [Yh _ (by omega) (by omega)]
 simp only [zz,Nat.reduceEqDiff]
 refine (BY m1 _).Q0 ?_
 refine (BY m2 _).Q0 ?_
 refine (BY m3 _).Q0 ?_
 generalize SR x.l k = u1
 generalize SR x.r k = u2
 generalize SR x.q k = u3
 generalize x.f + k - x.a = n
 have hb : QF [(.str []),(.str []),(.str []),(.str []),(.int .i64 0),(.int .i64 0),(.int .i64 0)] [(0,1,.str t),(1,1,.str u1),(2,1,.str u2),(3,1,.str u3),(4,1,.int .i64 x.p),(5,1,.int .i64 x.d),(6,1,.int .i64 n)] = some [.str t,.str u1,.str u2,.str u3,.int .i64 x.p,.int .i64 x.d,.int .i64 n] := rfl
 have hp : Qv 7 (.agg [(.str []),(.str []),(.str []),(.str []),(.int .i64 0),(.int .i64 0),(.int .i64 0)]) 0 (.agg [.str t,.str u1,.str u2,.str u3,.int .i64 x.p,.int .i64 x.d,.int .i64 n]) = some (.agg [.str t,.str u1,.str u2,.str u3,.int .i64 x.p,.int .i64 x.d,.int .i64 n]) := rfl
 have hq : Q6 true 7 (.agg [.str t,.str u1,.str u2,.str u3,.int .i64 x.p,.int .i64 x.d,.int .i64 n]) 0 = some (.agg [.str t,.str u1,.str u2,.str u3,.int .i64 x.p,.int .i64 x.d,.int .i64 n]) := rfl
 simp only [hb,hp,hq,Qs,YB,zz,Nat.reduceEqDiff]
 refine Q2 (hR _ rfl)
def PU (n : Nat) (σ : St) (x : PV) : Prop := ∃ ys,Grow 0 7 σ x ys ∧ ys.length = n
theorem PU.app {n : Nat} {σ : St} {x : PV} (h : PU n σ x) (hn : n < 1000) {cs : List PV} (hc : cs.length = 7) : ∃ x' σ',QM 7 88 x (.list .full [.agg cs]) σ = some (x',σ') ∧ PU (n + 1) σ' x' := by
 obtain ⟨ys,g,hl⟩ := h
 obtain ⟨x',σ',h1,g1,_,_⟩ := Grow.app (σ0 := []) (by_ := 88) g (List.nil_prefix) (y := .list .full [.agg cs]) (zs := [.agg cs]) rfl (by simp [Ul,PV.cells?,hc]) (by simp; omega)
 exact ⟨x',σ',h1,_,g1,by simp [hl]⟩
theorem Vr {α : Type} (f : α → Nat) {l : List α} {i : Nat} {a : α} (h : l[i]? = some a) : ((l.take (i + 1)).map f).sum = ((l.take i).map f).sum + f a := by
 rw [List.take_add_one,h]
 simp
theorem N5 {α : Type} (f : α → Nat) (l : List α) (i : Nat) : ((l.take i).map f).sum ≤ (l.map f).sum := by
 conv => rhs; rw [← List.take_append_drop i l]
 rw [List.map_append,List.sum_append]
 omega
theorem b1 (cs : List PV) (h : cs.length = 7) (z : PV) : QI 7 (List.replicate 1 z) [(0,.agg cs)] = some [.agg cs] := Xs ⟨cs,rfl,h⟩
theorem c56 : VS Tryz.prog VW 56 [] [] (fun r _ => ∃ b g z o,r = .ret (.sref b g z o UG)) := by
 obtain ⟨L,H⟩ := Gl
 refine Xe ?_
 rw [DS]
 delta zw bF pF kF nI nL mF
 refine (c97 H _).Q0 ?_
 simp only [List.length_map,zz,Nat.reduceEqDiff]
 refine QT L.length (fun i x σ' => ∃ out,x = Qz [(1,out),(7,.list .part (L.map Yk)),(8,.int .i64 L.length),(9,.int .i64 i)] ∧ PU ((L.take i).map Ln.cnt).sum σ' out) ?_ ⟨_,rfl,[],.nil _ _ _,rfl⟩
 rintro Φ i x σ' hi ⟨out,rfl,hg⟩ next
 simp only [zz,Nat.reduceEqDiff]
 by_cases hlt : i < L.length
 ·have hc : L[i]? = some L[i] := by simp [hlt]
  have hmem : L[i] ∈ L := by simp
  generalize L[i] = ln at hc hmem
  obtain ⟨s1,s2,a1,a2,a3,f1,f2⟩ := Bb (TY H.ok hmem)
  have hix : Q5 9 (.list .part (L.map Yk)) (.int .i64 (i : Int)) = some (.eptr (Yk ln) 0) := Zg _ (by rw [List.getElem?_map,hc]; rfl) (cs := _) rfl rfl
  have hpart : Q6 true 9 (Yk ln) 0 = some (Yk ln) := rfl
  have hput : Qv 9 (.agg [(.str []),(.int .i64 0),(.str []),(.str []),(.str []),(.int .i64 0),(.int .i64 0),(.int .i64 0),(.int .i64 0)]) 0 (Yk ln) = some (Yk ln) := rfl
  have e0 : Q6 false 1 (Yk ln) 0 = some (.str ln.s) := rfl
  have e7 : Q6 false 1 (Yk ln) 7 = some (.int .i64 ln.a) := rfl
  have e8 : Q6 false 1 (Yk ln) 8 = some (.int .i64 ln.b) := rfl
  have hL := H.len
  simp only [hlt,hix,hpart,hput,e0,zz,Nat.reduceEqDiff]
  refine (r98 (by omega) s1 _).Q0 ?_
  simp only [List.length_map,zz,Nat.reduceEqDiff]
  have hle := N5 Ln.cnt L (i + 1)
  rw [Vr _ hc,H.cnt] at hle
  have hnext : ((L.take (i + 1)).map Ln.cnt).sum = ((L.take i).map Ln.cnt).sum + ln.cnt := Vr _ hc
  generalize hB : ((L.take i).map Ln.cnt).sum = B at hg hle hnext
  have hcnt : ln.cnt = (Go.Lib.fields ln.s).length * (ln.b - ln.a + 1).toNat := rfl
  generalize Go.Lib.fields ln.s = ws at hcnt
  refine QT ws.length (fun j x σ' => ∃ out,x = Qz [(1,out),(7,.list .part (L.map Yk)),(8,.int .i64 L.length),(9,.int .i64 i),(15,.list .full (ws.map .str)),(16,.int .i64 ws.length),(17,.int .i64 j),(3,Yk ln)] ∧ PU (B + j * (ln.b - ln.a + 1).toNat) σ' out) ?_ ⟨_,rfl,by simpa using hg⟩
  clear hg
  rintro Φ2 j x σ2 hj ⟨out,rfl,hg⟩ next2
  simp only [zz,Nat.reduceEqDiff]
  by_cases hlt2 : j < ws.length
  ·have hc2 : ws[j]? = some ws[j] := by simp [hlt2]
   generalize ws[j] = w at hc2
   have hix2 : Q5 1 (.list .full (ws.map PV.str)) (.int .i64 (j : Int)) = some (.eptr (.str w) 0) := Zg _ (by rw [List.getElem?_map,hc2]; rfl) (cs := _) rfl rfl
   simp only [hlt2,hix2,e7,zz,Nat.reduceEqDiff]
   have hmul : (j + 1) * (ln.b - ln.a + 1).toNat ≤ ws.length * (ln.b - ln.a + 1).toNat := Nat.mul_le_mul_right _ hlt2
   rw [Nat.add_mul] at hmul
   have hws : ws.length ≤ ws.length * (ln.b - ln.a + 1).toNat := Nat.le_mul_of_pos_right _ (by omega)
   refine QT (ln.b - ln.a + 1).toNat (fun k x σ' => ∃ out,x = Qz [(1,out),(5,.str w),(6,.int .i64 (ln.a + (k : Int))),(7,.list .part (L.map Yk)),(8,.int .i64 L.length),(9,.int .i64 i),(15,.list .full (ws.map .str)),(16,.int .i64 ws.length),(17,.int .i64 j),(3,Yk ln)] ∧ PU (B + j * (ln.b - ln.a + 1).toNat + k) σ' out) ?_ ⟨out,by simp,by simpa using hg⟩
   clear hg
   rintro Φ3 k x σ3 hk ⟨out,rfl,hg⟩ next3
   simp only [e8,zz,Nat.reduceEqDiff]
   by_cases hlt3 : ln.a + (k : Int) ≤ ln.b
   ·have hk' : k < (ln.b - ln.a + 1).toNat := by omega
    simp only [hlt3,hpart,zz,Nat.reduceEqDiff]
    refine (c99 H hmem (k := ln.a + (k : Int)) (List.mem_map.2 ⟨k,by simp [hk'],rfl⟩) (by omega) w _).Q0 fun cs hcs => ?_
    obtain ⟨x',σ4,h1,g1⟩ := hg.app (by omega) hcs
    simp only [b1 cs hcs,h1,zz,Nat.reduceEqDiff]
    rw [Qi _ (by omega) (by omega)]
    simp only [zz,Nat.reduceEqDiff]
    exact next3 _ _ hk' ⟨x',by simp [Int.add_assoc],by rw [← Nat.add_assoc]; exact g1⟩
   ·have hk' : k = (ln.b - ln.a + 1).toNat := by omega
    simp only [hlt3,zz,Nat.reduceEqDiff]
    rw [Qi _ (by omega) (by omega)]
    simp only [zz,Nat.reduceEqDiff]
    refine next2 _ _ hlt2 ⟨out,by simp,?_⟩
    rw [Nat.add_mul,Nat.one_mul,← Nat.add_assoc,← hk']
    rw [← hk'] at hg
    exact hg
  ·obtain rfl : j = ws.length := by omega
   have hL := H.len
   simp only [hlt2,zz,Nat.reduceEqDiff]
   rw [Qi _ (by omega) (by omega)]
   simp only [zz,Nat.reduceEqDiff]
   refine next _ _ hlt ⟨out,by simp,?_⟩
   rw [hnext,hcnt]
   exact hg
 ·obtain rfl : i = L.length := by omega
  simp only [hlt,zz,Nat.reduceEqDiff]
  rw [List.take_length,H.cnt] at hg
  obtain ⟨ys,g,hl⟩ := hg
  refine Q2 ?_
  rcases g with ⟨rfl,rfl⟩ | ⟨b,g,_,rfl,_,_⟩
  ·cases hl
  ·exact ⟨b,g,7,0,by rw [hl]; rfl⟩
end Go.Proofs.YtgghfcchanilpaaGreatDoor
