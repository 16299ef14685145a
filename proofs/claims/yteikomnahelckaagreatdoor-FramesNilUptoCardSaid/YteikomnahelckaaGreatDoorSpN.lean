import Derived.Test.YteikomnahelckaaGreatDoorFnA
import Derived.Test.YteikomnahelckaaGreatDoorGrd
set_option linter.unusedVariables false
set_option linter.unusedSimpArgs false
namespace Go.Proofs.YteikomnahelckaaGreatDoor
open Go Go.Abs
abbrev W : CallP := callW Tryz.prog annF
theorem ret_of {f : FuncId} {args : List PV} {σ : St} {v : PV} (h : ∀ R : Res → St → Prop,R (.ret v) σ → bodyC (algP W) Tryz.prog annF f args σ R) : Ret W f args σ v := fun R hR => callW_fold (h R hR)
theorem nil_eq (ek : Option EK) : vBin (some .ptr) .eql .nilptr .nilptr = some (.bool true) := rfl
theorem c8 (σ : St) : Ret W 8 [] σ (.bool true) := ret_of fun R hR => hR
theorem c33n (m : Int) (σ : St) : Ret W 33 [.nilptr,.int .i64 m] σ (.int .i64 6) := by
 refine ret_of fun R hR => ?_
 rw [fn33_eq]
 delta fn33 bF gF nI
 simp only [nil_eq (some .ptr),zz,Nat.reduceEqDiff]
 exact weakW_keep hR
theorem c11n (m : Int) (σ : St) : Ret W 11 [.nilptr,.int .i64 m] σ (.tuple [.list .nil [],.int .i64 6]) := by
 refine ret_of fun R hR => ?_
 rw [fn11_eq]
 delta fn11 bF lF nI nL
 refine (c33n m σ).callB ?_
 have e : ((6 : Int) != 0) = true := rfl
 simp only [e,zz,Nat.reduceEqDiff]
 exact weakW_keep hR
theorem c16n (m k : Int) (σ : St) : Ret W 16 [.nilptr,.int .i64 m,.int .i64 k] σ (.tuple [.int .i64 0,.int .i64 0,.int .i64 6]) := by
 refine ret_of fun R hR => ?_
 rw [fn16_eq]
 delta fn16 bF pF lF gF kF nI nL
 refine (c33n m σ).callB ?_
 have e : ((6 : Int) != 0) = true := rfl
 simp only [e,zz,Nat.reduceEqDiff]
 exact weakW_keep hR
theorem c15n (m : Int) (σ : St) : Ret W 15 [.nilptr,.int .i64 m] σ (.int .i64 0) := by
 refine ret_of fun R hR => ?_
 rw [fn15_eq]
 delta fn15 bF lF nI
 refine (c33n m σ).callB ?_
 have e : ((6 : Int) != 0) = true := rfl
 simp only [e,zz,Nat.reduceEqDiff]
 exact weakW_keep hR
theorem c14n (m : Int) (σ : St) : Ret W 14 [.nilptr,.int .i64 m] σ (.int .i64 0) := by
 refine ret_of fun R hR => ?_
 rw [fn14_eq]
 delta fn14 bF lF nI
 refine (c33n m σ).callB ?_
 have e : ((6 : Int) != 0) = true := rfl
 simp only [e,zz,Nat.reduceEqDiff]
 exact weakW_keep hR
theorem c24n (m : Int) (σ : St) : Ret W 24 [.nilptr,.int .i64 m] σ (.int .i64 (-1)) := by
 refine ret_of fun R hR => ?_
 rw [fn24_eq]
 delta fn24 bF gF nI
 refine (c33n m σ).callB ?_
 have e : ((6 : Int) != 0) = true := rfl
 simp only [e,zz,Nat.reduceEqDiff]
 exact weakW_keep hR
theorem c13n (σ : St) : Ret W 13 [.nilptr] σ (.list .nil []) := by
 refine ret_of fun R hR => ?_
 rw [fn13_eq]
 delta fn13 bF lF kF nI nL
 simp only [nil_eq (some .ptr),zz,Nat.reduceEqDiff]
 exact weakW_keep hR
theorem c25n (σ : St) : Ret W 25 [.nilptr] σ (.list .nil []) := by
 refine ret_of fun R hR => ?_
 rw [fn25_eq]
 delta fn25 bF lF kF nI nL
 simp only [nil_eq (some .ptr),zz,Nat.reduceEqDiff]
 exact weakW_keep hR
theorem c26n (σ : St) : Ret W 26 [.nilptr] σ (.list .nil []) := by
 refine ret_of fun R hR => ?_
 rw [fn26_eq]
 delta fn26 lF nL
 simp only [nil_eq (some .ptr),zz,Nat.reduceEqDiff]
 exact weakW_keep hR
theorem c23n (p : List PV) (σ : St) : Ret W 23 [.nilptr,.agg p] σ (.tuple [.list .nil [],.int .i64 6]) := by
 refine ret_of fun R hR => ?_
 rw [fn23_eq]
 delta fn23 bF pF lF sF gF kF nI nL mF
 have hb : opC.vBoxAny (.agg p) = some (p.length,.agg p) := rfl
 simp only [hb,nil_eq (some .ptr),zz,Nat.reduceEqDiff]
 exact weakW_keep hR
theorem load_cell {σ : St} {b g z i : Nat} {xs : List PV} {x y : PV} (h : σ[b]? = some (.arr g z xs)) (hi : xs[i]? = some x) (hx : vPart false 1 x 0 = some y) : vLoad false 1 (.ptr b g i 0) σ = some y := by
 simp only [vLoad,h,if_true,hi,hx]
theorem frz_same {σ : St} {n : Nat} {v : PV} (h : Under n v) : Frz σ n v v := .base v h
theorem under_ints2 (n : Nat) (a b : Int) : Under n (.tuple [.int .i64 a,.int .i64 b]) := by
 refine .tuple _ fun i x hx => ?_
 match i with
 | 0 => simp at hx; subst hx; exact .int _ _
 | 1 => simp at hx; subst hx; exact .int _ _
theorem c20n (k : LK) (xs : List PV) (σ : St) : Ret W 20 [.nilptr,.list k xs] σ (.tuple [.int .i64 0,.int .i64 6]) := by
 refine ret_of fun R hR => ?_
 rw [fn20_eq]
 delta fn20 bF lF sF nI nL mF
 have b1 : opC.vBoxAny .nilptr = some (1,.nilptr) := rfl
 have b2 : opC.vBoxAny (.list k xs) = some (1,.list k xs) := rfl
 have l1 : vLoad false 1 (.ptr σ.length 0 0 0) (σ ++ [.arr 0 1 [.nilptr]] ++ [.arr 0 1 [.list k xs]]) = some .nilptr :=
  load_cell (g := 0) (z := 1) (xs := [.nilptr]) (x := .nilptr) (by simp) rfl rfl
 simp only [b1,b2,newW_eq,Nat.lt_irrefl,Nat.zero_lt_one,if_true,l1,nil_eq (some .ptr),zz,Nat.reduceEqDiff]
 exact weakW_clean (by rw [List.append_assoc]; exact List.prefix_append _ _) (frz_same (under_ints2 _ _ _)) hR
theorem c7 (m : Int) (k : LK) (xs : List PV) : Ret W 7 [.int .i64 m,.list k xs] [] (.bool true) := by
 refine ret_of fun R hR => ?_
 rw [fn7_eq]
 delta fn7 bF gF nI nL
 refine (c11n m _).callB ?_
 simp only [zz,Nat.reduceEqDiff]
 refine (c16n m 0 _).callB ?_
 simp only [zz,Nat.reduceEqDiff]
 refine (c20n k xs _).callB ?_
 simp only [zz,Nat.reduceEqDiff]
 have hb : vBuild [(.list .nil []),(.int .i64 0),(.int .i64 0),(.str []),(.int .i64 0),(.int .i64 0),(.int .i64 0),(.list .nil []),(.list .nil []),(.list .nil []),(.int .i64 0)] [] = some [(.list .nil []),(.int .i64 0),(.int .i64 0),(.str []),(.int .i64 0),(.int .i64 0),(.int .i64 0),(.list .nil []),(.list .nil []),(.list .nil []),(.int .i64 0)] := rfl
 simp only [hb,zz,Nat.reduceEqDiff]
 refine (c23n _ _).callB ?_
 simp only [zz,Nat.reduceEqDiff]
 refine (c8 _).callB ?_
 have e6 : ((6 : Int) == 6) = true := rfl
 have e0 : ((0 : Int) == 0) = true := rfl
 have em : ((-1 : Int) == -1) = true := rfl
 simp only [e6,zz,Nat.reduceEqDiff]
 refine (c15n m _).callB ?_
 simp only [e0,zz,Nat.reduceEqDiff]
 refine (c14n m _).callB ?_
 simp only [e0,zz,Nat.reduceEqDiff]
 refine (c24n m _).callB ?_
 simp only [em,zz,Nat.reduceEqDiff]
 refine (c13n _).callB ?_
 have el : (((([] : List PV).length : Nat) : Int) == 0) = true := rfl
 simp only [el,zz,Nat.reduceEqDiff]
 refine (c25n _).callB ?_
 simp only [el,zz,Nat.reduceEqDiff]
 refine (c26n _).callB ?_
 simp only [el,zz,Nat.reduceEqDiff]
 exact weakW_keep hR
end Go.Proofs.YteikomnahelckaaGreatDoor
