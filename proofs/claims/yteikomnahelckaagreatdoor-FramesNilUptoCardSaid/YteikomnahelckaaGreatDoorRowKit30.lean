import Derived.WalkKit
import Derived.ProofKit
import Derived.OpenShut
import Derived.Deep.DeepHandedRow
import Derived.Lib.LaidTab
import Derived.LaidLaws
import Derived.Stop.LaidErr
import Derived.Test.YteikomnahelckaaGreatDoorCards
import Derived.Test.YteikomnahelckaaGreatDoorTie
import Derived.Test.YteikomnahelckaaGreatDoorAbsArgs
import Derived.Test.YteikomnahelckaaGreatDoorAbsExtOk
set_option linter.unusedVariables false
set_option linter.unusedSimpArgs false
namespace Go.Proofs.YteikomnahelckaaGreatDoor
open Go Go.Abs Go.ChangeShapes Go.WideShapes Go.ChangeAt Go.RowKit
theorem own : ownKnob Tryz.prog.godebug = none := by kernel_rfl
theorem laidOut : laidOutB Tryz.prog = true := by kernel_rfl
theorem glob_of_head {W : World} {nm : String} {d : DataW Unit} {rest : List (String × DataW Unit)} {g : Nat} {t e : TypeId} {n sz : Nat} {α : Type} {enc : α → PV} {dat : α → DataW Unit → Prop}
  (h : laidMet Tryz.prog ((nm,d) :: rest) W) (hg : Tryz.prog.globalNamed nm = some g) (hty : (Tryz.prog.globals[g]?).map (·.type) = some t) (ht : Tryz.prog.underlying t = some (.array n e))
  (O : Opens' false (fun _ => ()) Tryz.prog W enc dat t sz) : ∃ a,dat a d ∧ RelV (Gh.all W) (.eptr (enc a) 0) (.pointer (some ⟨g,0,none⟩)) := by
 obtain ⟨ps,⟨g',t',cs,fuel,p,q,hg',ht',hvar,hd,_,_⟩,_⟩ := h
 obtain rfl := Option.some.inj (hg.symm.trans hg')
 obtain rfl := Option.some.inj (hty.symm.trans ht')
 have hl : cs.toList.length = sz := by
  cases fuel with
  | zero => simp [DataW.trod] at hd
  | succ fuel =>
   unfold DataW.trod at hd
   rw [ht] at hd
   simp only at hd
   split at hd
   ·rename_i hl
    rw [hl,O.cells]
   ·cases hd
 obtain ⟨a,v,hv,rv,ov,dv⟩ := O.open_ _ _ _ hl hd
 refine ⟨a,dv,?_⟩
 have := RelV.eptr (G := Gh.all W) (enc a) 0 g 0 v rv fun j u hj => ⟨ov u (by rw [← hv]; exact List.mem_of_getElem? (by simpa using hj)),?_⟩
 ·exact this
 ·show W.cell? ⟨g,0 + j,none⟩ = some u
  rw [Nat.zero_add,World.var?_cell hg hvar j]
  have h1 : v.cells.toList[j]? = some u := by simpa using hj
  rw [hv] at h1
  simpa using h1
def strOf : DataW Unit → List UInt8
 | .lit (.string s) => s
 | _ => []
def intOf : DataW Unit → Int
 | .lit (.int _ n) => n
 | _ => 0
theorem arr_of {α : Type} {n : Nat} {dat : α → DataW Unit → Prop} {f : DataW Unit → α} (hf : ∀ a d,dat a d → a = f d) {l : { l : List α // l.length = n }} {es : List (DataW Unit)} (hn : es.length = n)
  (h : ∀ (i : Nat) a e,l.1[i]? = some a → es[i]? = some e → dat a e) : l.1 = es.map f := by
 refine List.ext_getElem? fun i => ?_
 rw [List.getElem?_map]
 by_cases hi : i < n
 ·have h1 : l.1[i]? = some (l.1[i]'(by rw [l.2]; exact hi)) := by simp [l.2,hi]
  have h2 : es[i]? = some (es[i]'(by omega)) := by simp [hn,hi]
  rw [h1,h2,Option.map_some,hf _ _ (h i _ _ h1 h2)]
 ·rw [List.getElem?_eq_none (by rw [l.2]; omega),List.getElem?_eq_none (by omega)]
  rfl
abbrev laidAll : List (String × DataW Unit) := Rows.framesNilUptoRow.laid
set_option maxRecDepth 100000 in
theorem globs {W : World} (h : laidMet Tryz.prog laidAll W) : ∀ g,RelV (Gh.all W) (globPV g) (.pointer (some ⟨g,0,none⟩)) := by
 have h5 := h.tail.tail.tail.tail.tail
 intro g
 match g with
 | 0 =>
  have O := opens_array (held := false) (encH := fun _ => ()) (P := Tryz.prog) (W := W) (n := 14) Tryz.underlying127 (by kernel_rfl) (opens_int Tryz.underlying3 (by kernel_rfl))
  obtain ⟨a,⟨es,he,hn,hd⟩,hr⟩ := glob_of_head (g := 0) h5.tail.tail (by kernel_rfl) (by kernel_rfl) Tryz.underlying127 O
  have ha : a.1 = es.map intOf := arr_of (fun p d hp => by obtain ⟨rfl,_⟩ := hp; rfl) hn hd
  have he' := DataW.agg.inj he
  have : encArr (n := 14) (PV.int .i64) a = .agg kindsPV := by
   unfold encArr
   rw [ha,← he']
   kernel_rfl
  rw [this] at hr
  exact hr
 | 1 =>
  have O := opens_array (held := false) (encH := fun _ => ()) (P := Tryz.prog) (W := W) (n := 3) Tryz.underlying214 (by kernel_rfl) (opens_str Tryz.underlying9 (by kernel_rfl))
  obtain ⟨a,⟨es,he,hn,hd⟩,hr⟩ := glob_of_head (g := 1) h5.tail (by kernel_rfl) (by kernel_rfl) Tryz.underlying214 O
  have ha : a.1 = es.map strOf := arr_of (fun p d hp => by subst hp; rfl) hn hd
  have he' := DataW.agg.inj he
  have : encArr (n := 3) PV.str a = .agg lensPV := by
   unfold encArr
   rw [ha,← he']
   kernel_rfl
  rw [this] at hr
  exact hr
 | 2 =>
  have O := opens_array (held := false) (encH := fun _ => ()) (P := Tryz.prog) (W := W) (n := 256) Tryz.underlying229 (by kernel_rfl) (opens_int Tryz.underlying5 (by kernel_rfl))
  obtain ⟨a,⟨es,he,hn,hd⟩,hr⟩ := glob_of_head (g := 2) h5 (by kernel_rfl) (by kernel_rfl) Tryz.underlying229 O
  have ha : a.1 = es.map intOf := arr_of (fun p d hp => by obtain ⟨rfl,_⟩ := hp; rfl) hn hd
  have he' := DataW.agg.inj he
  have : encArr (n := 256) (PV.int .u8) a = .agg spacePV := by
   unfold encArr
   rw [ha,← he']
   kernel_rfl
  rw [this] at hr
  exact hr
 | g + 3 => exact .any _
theorem facts {W : World} (hsh : W.ShapedOpen Tryz.prog) (h : laidMet Tryz.prog laidAll W) : Facts W where
 max := Tryz.laysM143.s1_3 W hsh
 pow := Lib.tabIs_of_head (rest := _) (g := 4) (t := 300) (e := 255) (n := 20) (by kernel_rfl) (by kernel_rfl) Tryz.underlying300 Tryz.underlying255 (by kernel_rfl) (by kernel_rfl) h.tail.tail
 spc := by
  have e : laidAll.drop 5 = ("strings.asciiSpace",Lib.tabData .u8 Lib.asciiSpaceTab) :: laidAll.drop 6 := by kernel_rfl
  have h9 : laidMet Tryz.prog (laidAll.drop 5) W := h.tail.tail.tail.tail.tail
  rw [e] at h9
  exact Lib.tabIs_of_head (rest := _) (g := 2) (t := 229) (e := 5) (n := 256) (by kernel_rfl) (by kernel_rfl) Tryz.underlying229 Tryz.underlying5 (by kernel_rfl) (by kernel_rfl) h9
end Go.Proofs.YteikomnahelckaaGreatDoor
