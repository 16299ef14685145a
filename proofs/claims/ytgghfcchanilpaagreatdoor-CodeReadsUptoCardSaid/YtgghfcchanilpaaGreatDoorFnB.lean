import Derived.Test.YtgghfcchanilpaaGreatDoorAbsTabE
import Derived.Deep.DeepWitnessRowRef
import Derived.Deep.DeepLaidRun
import Derived.Lib.LaidU8
import Derived.JoinedOf
import Derived.Test.YtgghfcchanilpaaGreatDoorAbsArgs
import Derived.Test.YtgghfcchanilpaaGreatDoorTabW
import Derived.KernelRfl
import Derived.Test.YtgghfcchanilpaaGreatDoorAnn
import Derived.Test.YtgghfcchanilpaaGreatDoorProg
set_option linter.unusedVariables false
set_option linter.unusedSimpArgs false
namespace Go.Proofs.YtgghfcchanilpaaGreatDoor
open Go Go.Abs Go.RowKit
theorem Hl {f : FuncId} {xs : List PV} (h : VS Tryz.prog QO f xs [] (fun r σ => r = .ret (.bool true))) {Wd : World} (hsh : Wd.ShapedOpen Tryz.prog) (hL : laidMet Tryz.prog UA Wd) {vs : Array Value} (hl : xs.length = vs.size)
  (hr : ∀ (i : Nat) (x : PV) (v : Value),xs[i]? = some x → vs[i]? = some v → Q7 (Gh.all Wd) x v) :
  Calls Tryz.prog f vs Wd fun e w' => e = .returned (.bool true) ∧ Below Wd.heap.size Wd w' := by
 have key := Tn Nr QO x5 (X4.all Wd (qF hL)) (Dv _ (facts hsh hL)) f xs [] _ h (Gh.all Wd) Wd vs (Ns Wd _) hl hr
 refine key.mono ?_
 rintro e w' ⟨G',σ',r,rfl,hI,hE,hm⟩
 cases e with
 | returned v =>
  have hv : Q7 G' (.bool true) v := hm
  rw [hv.Zv]
  exact ⟨rfl,SH hI hE⟩
 | _ => exact hm.elim
end Go.Proofs.YtgghfcchanilpaaGreatDoor
namespace Go.Proofs.YtgghfcchanilpaaGreatDoor
open Go Go.Abs Go.ChangeShapes Go.WideShapes Go.ChangeAt Go.RowKit
mutual
def O5 : DataW Unit → List Value
 | .lit (.int k n) => [.int k n]
 | .lit (.string s) => [.string ⟨⟨s⟩⟩]
 | .agg l => F4 l
 | _ => []
def F4 : List (DataW Unit) → List Value
 | [] => []
 | x :: l => O5 x ++ F4 l
end
noncomputable def Oe (os : Os) : World :=
 let N := (World.settled Tryz.prog os).heap.size
 let w0 := World.holding Tryz.prog os ⟨#[.cells (Lib.whiteT.map fun (z : Nat) => Value.int .u16 (z : Int)).toArray 363,.cells #[.slice (some ⟨N,0,none⟩) 7 7,.slice none 0 0,.int .i64 2] 361,
  .cells #[.string ⟨⟨[105,110,118,97,108,105,100,32,115,121,110,116,97,120]⟩⟩] 357,.cells #[.string ⟨⟨[118,97,108,117,101,32,111,117,116,32,111,102,32,114,97,110,103,101]⟩⟩] 357],#[],[]⟩
 let put (h : Array Obj) (g : Nat) (cs : Array Value) : Array Obj := h.modify g fun
  | .cells _ t frozen => .cells cs t frozen
  | o => o
 let h0 := put w0.heap 0 (O5 Rows.laid_environ_code_ops).toArray
 let h1 := put h0 1 (O5 Rows.laid_environ_stand_lengths).toArray
 let h2 := put h1 2 (O5 Rows.laid_strings_asciiSpace).toArray
 let h3 := put h2 3 (O5 Rows.laid_internal_strconv_uint64pow10).toArray
 let h4 := put h3 4 #[.iface 355 (.pointer (some ⟨N + 2,0,none⟩))]
 let h5 := put h4 5 #[.iface 355 (.pointer (some ⟨N + 3,0,none⟩))]
 let h6 := put h5 6 #[.pointer (some ⟨N + 1,0,none⟩)]
 let h7 := put h6 8 (O5 Rows.laid_math_bits_deBruijn32tab).toArray
 let h8 := put h7 9 (O5 Rows.laid_math_bits_deBruijn64tab).toArray
 let h9 := put h8 10 (O5 Rows.laid_unicode_utf8_first).toArray
 let h10 := put h9 11 (O5 Rows.laid_unicode_utf8_acceptRanges).toArray
 {w0 with heap := h10 }
theorem Fp (os : Os) (args : Array Value) : laidMet Tryz.prog UA ((Oe os).forCall (fun _ _ => 0) ⟨#[],args,[]⟩).memory :=
 laidMet_of_run3 8 (by kernel_rfl) (by kernel_rfl) (by kernel_rfl)
end Go.Proofs.YtgghfcchanilpaaGreatDoor
namespace Go.Abs
open Go
theorem YL {a b : Bool} (h : a = true) (k : b = true) : (a && b) = true := by rw [h,k]; rfl
theorem HW {P : Program} {f : FuncId} {fn : Func} {s : ChangeSpec} {c : OpenClaim}
  (k1 : (c.wf (OpenSpec.ofChange s)) = true)
  (k2 : (laidOutB P) = true)
  (k3 : (mapsRowed P) = true)
  (k4 : (fn.params.all (P.readableRec ·)) = true)
  (k5 : (namedTie P c.named s.vars) = true)
  (k6 : ((c.stops == [])) = true)
  (k7 : ((P.stops == [])) = true)
  (k8 : ((c.knobs == [])) = true)
  (k9 : ((P.stopKnobs == [])) = true)
  (k10 : ((c.inPlace == P.inPlace f)) = true)
  (k11 : ((c.unfollowed == P.unfollowed f)) = true)
  (k12 : ((c.recurses == P.recurses f)) = true)
  (k13 : ((c.named == P.varsNamed f)) = true)
  (k14 : ((c.maps == (fn.params.toList ++ s.plain.varTypes P).any (P.mapsRec ·))) = true)
  (k15 : ((c.ifaces == (fn.params.toList ++ s.plain.varTypes P).any (P.ifacesRec ·))) = true)
  (k16 : ((c.mapsOut == P.mapsAmong fn.resultTypes.toList)) = true)
  (k17 : ((c.loops == (fn.params.toList ++ s.plain.varTypes P).any (P.loopsFrom ·))) = true)
  (k18 : ((c.wideKeys == (fn.params.toList ++ s.plain.varTypes P ++ fn.resultTypes.toList).any (P.wideKeysFrom ·))) = true)
  (k19 : (s.vars.all (P.varReadable ·)) = true)
  (k20 : (fn.resultTypes.all (fun t => P.readableRec t && decide (t < P.types.size))) = true)
  (k21 : ((c.ifacesOut == fn.resultTypes.toList.any (P.ifacesRec ·))) = true)
  (k22 : ((c.loopsOut == fn.resultTypes.toList.any (P.loopsFrom ·))) = true)
  (k23 : ((c.plainKeys == P.plainKeys)) = true)
  (k24 : (c.shortTexts.isNone) = true)
  (k25 : (P.stopsHeard) = true)
  (k26 : (P.mayEnter) = true)
  (k27 : ((c.lifted == P.liftsFinal)) = true)
  (k28 : ((P.make == some c.make)) = true)
  (k29 : ((c.kinds == (if c.domain.isEmpty then [] else fn.params.toList.map fun t => match P.underlying t with | some (.int k) => some k | _ => none))) = true)
  (k30 : ((c.pinned == c.pinnedBy)) = true)
  (k31 : ((c.veiled == (fn.params.toList ++ s.plain.varTypes P ++ fn.resultTypes.toList).any (P.veiledRec ·))) = true)
  (k32 : (c.veiledFits P fn.params.toList (fn.params.toList ++ s.plain.varTypes P ++ fn.resultTypes.toList)) = true)
  : joinedFacts P f fn s c = true := by
 unfold joinedFacts
 exact YL (YL (YL (YL (YL (YL (YL (YL (YL (YL (YL (YL (YL (YL (YL (YL (YL (YL (YL (YL (YL (YL (YL (YL (YL (YL (YL (YL (YL (YL (YL (k1) k2) k3) k4) k5) k6) k7) k8) k9) k10) k11) k12) k13) k14) k15) k16) k17) k18) k19) k20) k21) k22) k23) k24) k25) k26) k27) k28) k29) k30) k31) k32
end Go.Abs
namespace Go.Proofs.YtgghfcchanilpaaGreatDoor
open Go Go.Abs Go.RowKit
theorem jj3 : (mapsRowed Tryz.prog) = true := by kernel_rfl
theorem jj6 : ((Rows.codeNamesUptoRow.stops == [])) = true := by kernel_rfl
theorem jj7 : ((Tryz.prog.stops == [])) = true := by kernel_rfl
theorem jj8 : ((Rows.codeNamesUptoRow.knobs == [])) = true := by kernel_rfl
theorem jj9 : ((Tryz.prog.stopKnobs == [])) = true := by kernel_rfl
theorem jj23 : ((Rows.codeNamesUptoRow.plainKeys == Tryz.prog.plainKeys)) = true := by kernel_rfl
theorem jj24 : (Rows.codeNamesUptoRow.shortTexts.isNone) = true := by kernel_rfl
theorem jj25 : (Tryz.prog.stopsHeard) = true := by kernel_rfl
theorem jj26 : (Tryz.prog.mayEnter) = true := by kernel_rfl
theorem uV : ((Rows.codeNamesUptoRow.lifted == Tryz.prog.liftsFinal)) = true := by kernel_rfl
theorem jj28 : ((Tryz.prog.make == some Rows.codeNamesUptoRow.make)) = true := by kernel_rfl
end Go.Proofs.YtgghfcchanilpaaGreatDoor
namespace Go.Proofs.YtgghfcchanilpaaGreatDoor
open Go Go.Abs Go.ChangeShapes Go.WideShapes Go.ChangeAt Go.RowKit
section
variable {H : Type} {encH : TypeId × Value → H} {W : World}
abbrev vL (b : Bool) (d : DataW H) : Prop := d = .lit (.bool b)
abbrev dStr (s : Str) (d : DataW H) : Prop := d = .lit (.string s)
theorem qq : IM encH Tryz.prog W PV.bool vL 4 1 := Iz Tryz.underlying4 (by kernel_rfl)
theorem oStr : IM encH Tryz.prog W PV.str dStr 9 1 := SB Tryz.underlying9 (by kernel_rfl)
end
end Go.Proofs.YtgghfcchanilpaaGreatDoor
namespace Go.Proofs.YtgghfcchanilpaaGreatDoor
open Go Go.Abs
def ql (Pr : Program) (W : Q8) (a0 : PV) (σ : St) (R : Res → St → Prop) : Prop :=
bF .lss a0 (nI 0) fun a =>
XB False a false (fun b =>
bF .geq a0 (nI 40) fun c =>
b (Q9 [(6,(.v a0)),(7,(.v c))]) σ) σ (fun b c =>
oF (Qc a (.bool true) (b 7).pv) fun a =>
Q3 a (
wkR σ (.str []) c R) (
Q0 W 38 [] c (fun a b =>
oF (Q5 2 a a0) fun a =>
oF (Qh 1 a) fun a =>
oF (Q4 false 1 a b) fun a =>
wkR σ a b R) (pNR R)))
theorem Ch (W : Q8) (a0 : PV) (σ : St) (R : Res → St → Prop) : Qn (Qq W) Tryz.prog QO 18 [a0] σ R = ql Tryz.prog W a0 σ R := by kernel_rfl
def zd (Pr : Program) (W : Q8) (a0 : PV) (σ : St) (R : Res → St → Prop) : Prop :=
bF .geq a0 (nI 0) fun a =>
XB False a true (fun b =>
bF .lss a0 (nI 40) fun c =>
b (Q9 [(6,(.v a0)),(7,(.v c))]) σ) σ (fun b c =>
oF (Qc a (b 7).pv (.bool false)) fun a =>
wkR σ a c R)
theorem DU (W : Q8) (a0 : PV) (σ : St) (R : Res → St → Prop) : Qn (Qq W) Tryz.prog QO 39 [a0] σ R = zd Tryz.prog W a0 σ R := by kernel_rfl
end Go.Proofs.YtgghfcchanilpaaGreatDoor
namespace Go.Proofs.YtgghfcchanilpaaGreatDoor
open Go Go.Abs
abbrev W : Q8 := VS Tryz.prog QO
theorem QE {f : FuncId} {args : List PV} {σ : St} {v : PV} (h : ∀ R : Res → St → Prop,R (.ret v) σ → Qn (Qq W) Tryz.prog QO f args σ R) : Ret W f args σ v := fun R hR => Xe (h R hR)
def Mj (p : Str × Str) : PV := .agg [.str p.1,.str p.2]
theorem Dj (W : Q8) (σ : St) (R : Res → St → Prop) : Qn (Qq W) Tryz.prog QO 38 [] σ R = XG σ (.list .full (M9.map Mj)) σ fun v σ => R (.ret v) σ := by kernel_rfl
theorem DP : Zy 0 = .eptr (.agg PC) 0 := rfl
theorem A8 : ∀ n : Fin 40,PC[2 * n.val]? = some (.str (VH ((n.val : Nat) : Int)).1) ∧ PC[2 * n.val + 1]? = some (.str (VH ((n.val : Nat) : Int)).2) := by
 have h : (List.range 40).all (fun n => (match PC[2 * n]? with | some (.str s) => s == (VH (n : Int)).1 | _ => false) && (match PC[2 * n + 1]? with | some (.str s) => s == (VH (n : Int)).2 | _ => false)) = true := by decide +kernel
 intro n
 have := List.all_eq_true.1 h n.val (by simp)
 simp only [Bool.and_eq_true] at this
 obtain ⟨h1,h2⟩ := this
 constructor
 ·split at h1
  ·rename_i s hs; rw [hs,eq_of_beq h1]
  ·cases h1
 ·split at h2
  ·rename_i s hs; rw [hs,eq_of_beq h2]
  ·cases h2
theorem c38 (σ : St) : Ret W 38 [] σ (.list .full (M9.map Mj)) := by
 refine QE fun R hR => ?_
 rw [Dj]
 exact Q2 hR
theorem c39 (n : Int) (σ : St) : Ret W 39 [.int .i64 n] σ (.bool (Zo n)) := by
 refine QE fun R hR => ?_
 rw [DU]
 delta zd bF nI
 unfold Zo at hR
 simp only [zz,Nat.reduceEqDiff]
 have e : decide (n ≥ 0) = decide (0 ≤ n) := rfl
 cases h : decide (n ≥ 0) with
 | true =>
  rw [← e,h] at hR
  simp only [zz,Nat.reduceEqDiff]
  exact Q2 (by simpa using hR)
 | false =>
  rw [← e,h] at hR
  simp only [zz,Nat.reduceEqDiff]
  exact Q2 (by simpa using hR)
end Go.Proofs.YtgghfcchanilpaaGreatDoor
namespace Go.Proofs.YtgghfcchanilpaaGreatDoor
open Go Go.Abs
def CW (Pr : Program) (W : Q8) (a0 a1 : PV) (σ : St) (R : Res → St → Prop) : Prop :=
Q0 W 221 [a0,a1] σ (fun a b =>
bF .geq a (nI 0) fun a =>
wkR σ a b R) (pNR R)
theorem FW (W : Q8) (a0 a1 : PV) (σ : St) (R : Res → St → Prop) : Qn (Qq W) Tryz.prog QO 104 [a0,a1] σ R = CW Tryz.prog W a0 a1 σ R := by kernel_rfl
def CN (Pr : Program) (W : Q8) (a0 a1 : PV) (σ : St) (R : Res → St → Prop) : Prop :=
Q0 W 136 [a0,a1] σ (fun a b =>
bF .geq a (nI 0) fun a =>
wkR σ a b R) (pNR R)
theorem Ed (W : Q8) (a0 a1 : PV) (σ : St) (R : Res → St → Prop) : Qn (Qq W) Tryz.prog QO 106 [a0,a1] σ R = CN Tryz.prog W a0 a1 σ R := by kernel_rfl
def Cw (Pr : Program) (W : Q8) (a0 a1 : PV) (σ : St) (R : Res → St → Prop) : Prop :=
Q0 W 222 [a0,a1] σ (fun a b =>
bF .geq a (nI 0) fun a =>
wkR σ a b R) (pNR R)
theorem E0 (W : Q8) (a0 a1 : PV) (σ : St) (R : Res → St → Prop) : Qn (Qq W) Tryz.prog QO 108 [a0,a1] σ R = Cw Tryz.prog W a0 a1 σ R := by kernel_rfl
def Bu (Pr : Program) (W : Q8) (a0 a1 : PV) (σ : St) (R : Res → St → Prop) : Prop :=
Q0 W 223 [a0,a1] σ (fun a b =>
bF .geq a (nI 0) fun a =>
wkR σ a b R) (pNR R)
theorem EN (W : Q8) (a0 a1 : PV) (σ : St) (R : Res → St → Prop) : Qn (Qq W) Tryz.prog QO 110 [a0,a1] σ R = Bu Tryz.prog W a0 a1 σ R := by kernel_rfl
def Cr (Pr : Program) (W : Q8) (a0 a1 : PV) (σ : St) (R : Res → St → Prop) : Prop :=
Q0 W 224 [a0,a1] σ (fun a b =>
bF .geq a (nI 0) fun a =>
wkR σ a b R) (pNR R)
theorem E6 (W : Q8) (a0 a1 : PV) (σ : St) (R : Res → St → Prop) : Qn (Qq W) Tryz.prog QO 113 [a0,a1] σ R = Cr Tryz.prog W a0 a1 σ R := by kernel_rfl
def CM (Pr : Program) (W : Q8) (a0 a1 : PV) (σ : St) (R : Res → St → Prop) : Prop :=
oF (Qj .sl a0 σ) fun a =>
QC [(0,a0),(1,a1),(7,a),(8,nI 0)] fun a =>
Lfp σ (fun b c d =>
bF .lss (c 8) (c 7) fun e =>
Q3 e (
oF (Q5 9 (c 0) (c 8)) fun e =>
oF (Q4 true 9 e d) fun e =>
Zc (Qq W) Pr false (c 1) [e] d (fun e f =>
Q3 e (
wkR σ (c 8) f R) (
bF .add (c 8) (nI 1) fun e =>
kF [(0,c 0),(1,c 1),(7,c 7),(8,e)] b f)) (pNR R)) (
wkR σ (nI (-1)) d R)) a σ
theorem Gw (W : Q8) (a0 a1 : PV) (σ : St) (R : Res → St → Prop) : Qn (Qq W) Tryz.prog QO 136 [a0,a1] σ R = CM Tryz.prog W a0 a1 σ R := by kernel_rfl
def CI (Pr : Program) (W : Q8) (a0 a1 : PV) (σ : St) (R : Res → St → Prop) : Prop :=
oF (Qj .sl a0 σ) fun a =>
QC [(0,a0),(1,a1),(7,a),(8,nI 0)] fun a =>
Lfp σ (fun b c d =>
bF .lss (c 8) (c 7) fun e =>
Q3 e (
oF (Q5 1 (c 0) (c 8)) fun e =>
oF (Q4 true 1 e d) fun e =>
Zc (Qq W) Pr false (c 1) [e] d (fun e f =>
Q3 e (
wkR σ (c 8) f R) (
bF .add (c 8) (nI 1) fun e =>
kF [(0,c 0),(1,c 1),(7,c 7),(8,e)] b f)) (pNR R)) (
wkR σ (nI (-1)) d R)) a σ
theorem D1 (W : Q8) (a0 a1 : PV) (σ : St) (R : Res → St → Prop) : Qn (Qq W) Tryz.prog QO 221 [a0,a1] σ R = CI Tryz.prog W a0 a1 σ R := by kernel_rfl
def Ct (Pr : Program) (W : Q8) (a0 a1 : PV) (σ : St) (R : Res → St → Prop) : Prop :=
oF (Qj .sl a0 σ) fun a =>
QC [(0,a0),(1,a1),(7,a),(8,nI 0)] fun a =>
Lfp σ (fun b c d =>
bF .lss (c 8) (c 7) fun e =>
Q3 e (
oF (Q5 1 (c 0) (c 8)) fun e =>
oF (Q4 false 1 e d) fun e =>
Zc (Qq W) Pr false (c 1) [e] d (fun e f =>
Q3 e (
wkR σ (c 8) f R) (
bF .add (c 8) (nI 1) fun e =>
kF [(0,c 0),(1,c 1),(7,c 7),(8,e)] b f)) (pNR R)) (
wkR σ (nI (-1)) d R)) a σ
theorem GY (W : Q8) (a0 a1 : PV) (σ : St) (R : Res → St → Prop) : Qn (Qq W) Tryz.prog QO 222 [a0,a1] σ R = Ct Tryz.prog W a0 a1 σ R := by kernel_rfl
def CO (Pr : Program) (W : Q8) (a0 a1 : PV) (σ : St) (R : Res → St → Prop) : Prop :=
oF (Qj .sl a0 σ) fun a =>
QC [(0,a0),(1,a1),(7,a),(8,nI 0)] fun a =>
Lfp σ (fun b c d =>
bF .lss (c 8) (c 7) fun e =>
Q3 e (
oF (Q5 1 (c 0) (c 8)) fun e =>
oF (Q4 false 1 e d) fun e =>
Zc (Qq W) Pr false (c 1) [e] d (fun e f =>
Q3 e (
wkR σ (c 8) f R) (
bF .add (c 8) (nI 1) fun e =>
kF [(0,c 0),(1,c 1),(7,c 7),(8,e)] b f)) (pNR R)) (
wkR σ (nI (-1)) d R)) a σ
theorem D4 (W : Q8) (a0 a1 : PV) (σ : St) (R : Res → St → Prop) : Qn (Qq W) Tryz.prog QO 223 [a0,a1] σ R = CO Tryz.prog W a0 a1 σ R := by kernel_rfl
def CK (Pr : Program) (W : Q8) (a0 a1 : PV) (σ : St) (R : Res → St → Prop) : Prop :=
oF (Qj .sl a0 σ) fun a =>
QC [(0,a0),(1,a1),(7,a),(8,nI 0)] fun a =>
Lfp σ (fun b c d =>
bF .lss (c 8) (c 7) fun e =>
Q3 e (
oF (Q5 1 (c 0) (c 8)) fun e =>
oF (Q4 false 1 e d) fun e =>
Zc (Qq W) Pr false (c 1) [e] d (fun e f =>
Q3 e (
wkR σ (c 8) f R) (
bF .add (c 8) (nI 1) fun e =>
kF [(0,c 0),(1,c 1),(7,c 7),(8,e)] b f)) (pNR R)) (
wkR σ (nI (-1)) d R)) a σ
theorem Ec (W : Q8) (a0 a1 : PV) (σ : St) (R : Res → St → Prop) : Qn (Qq W) Tryz.prog QO 224 [a0,a1] σ R = CK Tryz.prog W a0 a1 σ R := by kernel_rfl
end Go.Proofs.YtgghfcchanilpaaGreatDoor
