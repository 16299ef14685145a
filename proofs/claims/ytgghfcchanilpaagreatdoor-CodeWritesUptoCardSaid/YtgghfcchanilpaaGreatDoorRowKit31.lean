import Derived.WalkKit
import Derived.ProofKit
import Derived.OpenShut
import Derived.Deep.DeepHandedRow
import Derived.Lib.LaidTab
import Derived.LaidLaws
import Derived.Stop.LaidErr
import Derived.Test.YtgghfcchanilpaaGreatDoorCards
import Derived.Test.YtgghfcchanilpaaGreatDoorTie
import Derived.Test.YtgghfcchanilpaaGreatDoorAbsArgs
import Derived.Test.YtgghfcchanilpaaGreatDoorAbsExtOk
set_option linter.unusedVariables false
set_option linter.unusedSimpArgs false
namespace Go.Proofs.YtgghfcchanilpaaGreatDoor
open Go Go.Abs Go.ChangeShapes Go.WideShapes Go.ChangeAt Go.RowKit
theorem own : ownKnob Tryz.prog.godebug = none := by kernel_rfl
theorem laidOut : laidOutB Tryz.prog = true := by kernel_rfl
theorem glob_of_head {W : World} {nm : String} {d : DataW Unit} {rest : List (String × DataW Unit)} {g : Nat} {t e : TypeId} {n sz : Nat} {α : Type} {enc : α → PV} {dat : α → DataW Unit → Prop}
  (h : laidMet Tryz.prog ((nm,d) :: rest) W) (hg : Tryz.prog.globalNamed nm = some g) (hty : (Tryz.prog.globals[g]?).map (·.type) = some t) (ht : Tryz.prog.underlying t = some (.array n e))
  (O : Opens' false (fun _ => ()) Tryz.prog W enc dat t sz) : ∃ a,dat a d ∧ RelV (Gh.all W) (.eptr (enc a) 0) (.pointer (some ⟨g,0,none⟩)) := by
 obtain ⟨ps,⟨g',t',cs,fuel,p,q,hg',ht',hvar,hd,_,_⟩,_⟩ := h
 obtain rfl := Option.some.inj (hg.symm.trans hg')
 obtain rfl := Option.some.inj (hty.symm.trans ht')
 have hl : cs.toList.length = sz := by
  cases fuel with
  | zero => simp [DataW.trod] at hd
  | succ fuel =>
   unfold DataW.trod at hd
   rw [ht] at hd
   simp only at hd
   split at hd
   ·rename_i hl
    rw [hl,O.cells]
   ·cases hd
 obtain ⟨a,v,hv,rv,ov,dv⟩ := O.open_ _ _ _ hl hd
 refine ⟨a,dv,?_⟩
 have := RelV.eptr (G := Gh.all W) (enc a) 0 g 0 v rv fun j u hj => ⟨ov u (by rw [← hv]; exact List.mem_of_getElem? (by simpa using hj)),?_⟩
 ·exact this
 ·show W.cell? ⟨g,0 + j,none⟩ = some u
  rw [Nat.zero_add,World.var?_cell hg hvar j]
  have h1 : v.cells.toList[j]? = some u := by simpa using hj
  rw [hv] at h1
  simpa using h1
def strOf : DataW Unit → List UInt8
 | .lit (.string s) => s
 | _ => []
def pairOf : DataW Unit → List UInt8 × List UInt8
 | .agg [x,y] => (strOf x,strOf y)
 | _ => ([],[])
def intOf : DataW Unit → Int
 | .lit (.int _ n) => n
 | _ => 0
theorem arr_of {α : Type} {n : Nat} {dat : α → DataW Unit → Prop} {f : DataW Unit → α} (hf : ∀ a d,dat a d → a = f d) {l : { l : List α // l.length = n }} {es : List (DataW Unit)} (hn : es.length = n)
  (h : ∀ (i : Nat) a e,l.1[i]? = some a → es[i]? = some e → dat a e) : l.1 = es.map f := by
 refine List.ext_getElem? fun i => ?_
 rw [List.getElem?_map]
 by_cases hi : i < n
 ·have h1 : l.1[i]? = some (l.1[i]'(by rw [l.2]; exact hi)) := by simp [l.2,hi]
  have h2 : es[i]? = some (es[i]'(by omega)) := by simp [hn,hi]
  rw [h1,h2,Option.map_some,hf _ _ (h i _ _ h1 h2)]
 ·rw [List.getElem?_eq_none (by rw [l.2]; omega),List.getElem?_eq_none (by omega)]
  rfl
abbrev laidAll : List (String × DataW Unit) := Rows.codeNamesUptoRow.laid
set_option maxRecDepth 100000 in
theorem globs {W : World} (h : laidMet Tryz.prog laidAll W) : ∀ g,RelV (Gh.all W) (globPV g) (.pointer (some ⟨g,0,none⟩)) := by
 have h9 := h.tail.tail.tail.tail.tail.tail.tail
 intro g
 match g with
 | 0 =>
  have O := opens_array (held := false) (encH := fun _ => ()) (P := Tryz.prog) (W := W) (n := 40) Tryz.underlying82 (by kernel_rfl) (opens_pair (e0 := PV.str) (e1 := PV.str) (t0 := 9) (t1 := 9) (s0 := 1) (s1 := 1) Tryz.underlying81 (by kernel_rfl) rfl rfl rfl rfl (opens_str Tryz.underlying9 (by kernel_rfl)) (opens_str Tryz.underlying9 (by kernel_rfl)))
  obtain ⟨a,⟨es,he,hn,hd⟩,hr⟩ := glob_of_head (g := 0) h9.tail.tail (by kernel_rfl) (by kernel_rfl) Tryz.underlying82 O
  have ha : a.1 = es.map pairOf := arr_of (fun p d hp => by
   obtain ⟨x,y,rfl,hx,hy⟩ := hp
   obtain ⟨p0,p1⟩ := p
   simp only at hx hy
   subst hx hy
   rfl) hn hd
  have he' := DataW.agg.inj he
  have : encArr (n := 40) (encPair PV.str PV.str) a = .agg opsPV := by
   unfold encArr
   rw [ha,← he']
   kernel_rfl
  rw [this] at hr
  exact hr
 | 1 =>
  have O := opens_array (held := false) (encH := fun _ => ()) (P := Tryz.prog) (W := W) (n := 3) Tryz.underlying177 (by kernel_rfl) (opens_str Tryz.underlying9 (by kernel_rfl))
  obtain ⟨a,⟨es,he,hn,hd⟩,hr⟩ := glob_of_head (g := 1) h9.tail (by kernel_rfl) (by kernel_rfl) Tryz.underlying177 O
  have ha : a.1 = es.map strOf := arr_of (fun p d hp => by subst hp; rfl) hn hd
  have he' := DataW.agg.inj he
  have : encArr (n := 3) PV.str a = .agg lensPV := by
   unfold encArr
   rw [ha,← he']
   kernel_rfl
  rw [this] at hr
  exact hr
 | 2 =>
  have O := opens_array (held := false) (encH := fun _ => ()) (P := Tryz.prog) (W := W) (n := 256) Tryz.underlying282 (by kernel_rfl) (opens_int Tryz.underlying5 (by kernel_rfl))
  obtain ⟨a,⟨es,he,hn,hd⟩,hr⟩ := glob_of_head (g := 2) h9 (by kernel_rfl) (by kernel_rfl) Tryz.underlying282 O
  have ha : a.1 = es.map intOf := arr_of (fun p d hp => by obtain ⟨rfl,_⟩ := hp; rfl) hn hd
  have he' := DataW.agg.inj he
  have : encArr (n := 256) (PV.int .u8) a = .agg spacePV := by
   unfold encArr
   rw [ha,← he']
   kernel_rfl
  rw [this] at hr
  exact hr
 | g + 3 => exact .any _
theorem star : ("*errors.errorString" : String) = "*" ++ "errors.errorString" := by decide
theorem row355 (u : TypeId) (h : Tryz.prog.typeName? 3 u = some "*errors.errorString") : u = 355 :=
 typeName_ptr_named (nm := "errors.errorString") (by rw [← star]; kernel_rfl) (by kernel_rfl) (by decide) u (by rw [← star]; exact h)
theorem facts {W : World} (hsh : W.ShapedOpen Tryz.prog) (h : laidMet Tryz.prog laidAll W) : Facts W where
 max := Tryz.laysM146.s1_3 W hsh
 pow := Lib.tabIs_of_head (rest := _) (g := 3) (t := 325) (e := 157) (n := 20) (by kernel_rfl) (by kernel_rfl) Tryz.underlying325 Tryz.underlying157 (by kernel_rfl) (by kernel_rfl) h.tail.tail
 syn := by
  obtain ⟨a,s,h1,_⟩ := laid_sentinel (g := 4) (ti := 98) (tp := 355) (te := 357) (ts := 9) h.tail.tail.tail.tail.tail (by kernel_rfl) (by kernel_rfl) Tryz.underlying98 row355 Tryz.underlying355 Tryz.underlying357 rfl rfl Tryz.underlying9 (by kernel_rfl) (by kernel_rfl)
  exact ⟨_,World.var?_cell (g := 4) (by kernel_rfl) h1 0,.inr ⟨_,_,rfl⟩⟩
 rng := by
  obtain ⟨a,s,h1,_⟩ := laid_sentinel (g := 5) (ti := 98) (tp := 355) (te := 357) (ts := 9) h.tail.tail.tail.tail (by kernel_rfl) (by kernel_rfl) Tryz.underlying98 row355 Tryz.underlying355 Tryz.underlying357 rfl rfl Tryz.underlying9 (by kernel_rfl) (by kernel_rfl)
  exact ⟨_,World.var?_cell (g := 5) (by kernel_rfl) h1 0,.inr ⟨_,_,rfl⟩⟩
 spc := by
  have e : laidAll.drop 7 = ("strings.asciiSpace",Lib.tabData .u8 Lib.asciiSpaceTab) :: laidAll.drop 8 := by kernel_rfl
  have h9 : laidMet Tryz.prog (laidAll.drop 7) W := h.tail.tail.tail.tail.tail.tail.tail
  rw [e] at h9
  exact Lib.tabIs_of_head (rest := _) (g := 2) (t := 282) (e := 5) (n := 256) (by kernel_rfl) (by kernel_rfl) Tryz.underlying282 Tryz.underlying5 (by kernel_rfl) (by kernel_rfl) h9
end Go.Proofs.YtgghfcchanilpaaGreatDoor
