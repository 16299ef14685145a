import Derived.Test.YteikomnahelckaaGreatDoorTabL
set_option linter.unusedVariables false
set_option linter.unusedSimpArgs false
namespace Go.Proofs.YteikomnahelckaaGreatDoor
open Go Go.Abs
structure Ln where
 s : List UInt8
 p : Int
 l : List UInt8
 r : List UInt8
 q : List UInt8
 d : Int
 f : Int
 a : Int
 b : Int
def toLn (x : PV) : Option Ln :=
 match x with
 | .agg [.str s,.int .i64 p,.str l,.str r,.str q,.int .i64 d,.int .i64 f,.int .i64 a,.int .i64 b] => some ⟨s,p,l,r,q,d,f,a,b⟩
 | _ => none
def pvLn (x : Ln) : PV := .agg [.str x.s,.int .i64 x.p,.str x.l,.str x.r,.str x.q,.int .i64 x.d,.int .i64 x.f,.int .i64 x.a,.int .i64 x.b]
def lns : List Ln := (lines201 ++ lines202 ++ lines203).filterMap toLn
theorem lns_eq : lns.map pvLn = lines201 ++ lines202 ++ lines203 := by kernel_rfl
def Ln.ok (x : Ln) : Bool := x.s.all (fun c => decide (c.toNat < 128)) && (decide (x.s.length < 100) && (decide (0 ≤ x.a) && (decide (x.a ≤ x.b) && (decide (x.b < 3) && (decide (0 ≤ x.f) && decide (x.f < 500))))))
theorem lns_ok : lns.all Ln.ok = true := by kernel_rfl
def Ln.cnt (x : Ln) : Nat := (Go.Lib.fields x.s).length * (x.b - x.a + 1).toNat
theorem lns_cnt : (lns.map Ln.cnt).sum = 470 := by kernel_rfl
def Ln.fromTo (x : Ln) : List Int := (List.range (x.b - x.a + 1).toNat).map fun (i : Nat) => x.a + (i : Int)
def allModes : List (List UInt8 × Int) := (lns.flatMap fun x => [x.l,x.r,x.q].flatMap fun s => x.fromTo.map fun k => (s,k)).eraseDups
theorem modes_run : allModes.all (fun m => run206 m.1 m.2) = true := by kernel_rfl
theorem modes_all : lns.all (fun x => x.fromTo.all fun k => allModes.contains (x.l,k) && (allModes.contains (x.r,k) && allModes.contains (x.q,k))) = true := by kernel_rfl
end Go.Proofs.YteikomnahelckaaGreatDoor
