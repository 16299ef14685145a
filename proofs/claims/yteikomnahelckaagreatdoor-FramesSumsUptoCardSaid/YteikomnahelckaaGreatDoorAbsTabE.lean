import Derived.WalkKit
import Derived.ProofKit
import Derived.OpenShut
import Derived.Deep.DeepHandedRow
import Derived.Lib.LaidTab
import Derived.LaidLaws
import Derived.Stop.LaidErr
import Derived.Test.YteikomnahelckaaGreatDoorCards
import Derived.Test.YteikomnahelckaaGreatDoorTie
import Derived.Test.YteikomnahelckaaGreatDoorAbsArgs
import Derived.Test.YteikomnahelckaaGreatDoorAbsExtOk
import Derived.Test.YteikomnahelckaaGreatDoorAbsAwake
import Derived.Test.YteikomnahelckaaGreatDoorBldB
import Derived.Test.YteikomnahelckaaGreatDoorTabW
set_option linter.unusedVariables false
set_option linter.unusedSimpArgs false
namespace Go.Proofs.YteikomnahelckaaGreatDoor
open Go Go.Abs Go.ChangeShapes Go.WideShapes Go.ChangeAt Go.RowKit
theorem own : ownKnob Tryz.prog.godebug = none := by kernel_rfl
theorem laidOut : laidOutB Tryz.prog = true := by kernel_rfl
theorem glob_of_head {W : World} {nm : String} {d : DataW Unit} {rest : List (String × DataW Unit)} {g : Nat} {t e : TypeId} {n sz : Nat} {α : Type} {enc : α → PV} {dat : α → DataW Unit → Prop}
  (h : laidMet Tryz.prog ((nm,d) :: rest) W) (hg : Tryz.prog.globalNamed nm = some g) (hty : (Tryz.prog.globals[g]?).map (·.type) = some t) (ht : Tryz.prog.underlying t = some (.array n e))
  (O : Opens' false (fun _ => ()) Tryz.prog W enc dat t sz) : ∃ a,dat a d ∧ RelV (Gh.all W) (.eptr (enc a) 0) (.pointer (some ⟨g,0,none⟩)) := by
 obtain ⟨ps,⟨g',t',cs,fuel,p,q,hg',ht',hvar,hd,_,_⟩,_⟩ := h
 obtain rfl := Option.some.inj (hg.symm.trans hg')
 obtain rfl := Option.some.inj (hty.symm.trans ht')
 have hl : cs.toList.length = sz := by
  cases fuel with
  | zero => simp [DataW.trod] at hd
  | succ fuel =>
   unfold DataW.trod at hd
   rw [ht] at hd
   simp only at hd
   split at hd
   ·rename_i hl
    rw [hl,O.cells]
   ·cases hd
 obtain ⟨a,v,hv,rv,ov,dv⟩ := O.open_ _ _ _ hl hd
 refine ⟨a,dv,?_⟩
 have := RelV.eptr (G := Gh.all W) (enc a) 0 g 0 v rv fun j u hj => ⟨ov u (by rw [← hv]; exact List.mem_of_getElem? (by simpa using hj)),?_⟩
 ·exact this
 ·show W.cell? ⟨g,0 + j,none⟩ = some u
  rw [Nat.zero_add,World.var?_cell hg hvar j]
  have h1 : v.cells.toList[j]? = some u := by simpa using hj
  rw [hv] at h1
  simpa using h1
def strOf : DataW Unit → List UInt8
 | .lit (.string s) => s
 | _ => []
def intOf : DataW Unit → Int
 | .lit (.int _ n) => n
 | _ => 0
theorem arr_of {α : Type} {n : Nat} {dat : α → DataW Unit → Prop} {f : DataW Unit → α} (hf : ∀ a d,dat a d → a = f d) {l : { l : List α // l.length = n }} {es : List (DataW Unit)} (hn : es.length = n)
  (h : ∀ (i : Nat) a e,l.1[i]? = some a → es[i]? = some e → dat a e) : l.1 = es.map f := by
 refine List.ext_getElem? fun i => ?_
 rw [List.getElem?_map]
 by_cases hi : i < n
 ·have h1 : l.1[i]? = some (l.1[i]'(by rw [l.2]; exact hi)) := by simp [l.2,hi]
  have h2 : es[i]? = some (es[i]'(by omega)) := by simp [hn,hi]
  rw [h1,h2,Option.map_some,hf _ _ (h i _ _ h1 h2)]
 ·rw [List.getElem?_eq_none (by rw [l.2]; omega),List.getElem?_eq_none (by omega)]
  rfl
abbrev laidAll : List (String × DataW Unit) := Rows.framesNilUptoRow.laid
set_option maxRecDepth 100000 in
theorem globs {W : World} (h : laidMet Tryz.prog laidAll W) : ∀ g,RelV (Gh.all W) (globPV g) (.pointer (some ⟨g,0,none⟩)) := by
 have h5 := h.tail.tail.tail.tail.tail
 intro g
 match g with
 | 0 =>
  have O := opens_array (held := false) (encH := fun _ => ()) (P := Tryz.prog) (W := W) (n := 14) Tryz.underlying127 (by kernel_rfl) (opens_int Tryz.underlying3 (by kernel_rfl))
  obtain ⟨a,⟨es,he,hn,hd⟩,hr⟩ := glob_of_head (g := 0) h5.tail.tail (by kernel_rfl) (by kernel_rfl) Tryz.underlying127 O
  have ha : a.1 = es.map intOf := arr_of (fun p d hp => by obtain ⟨rfl,_⟩ := hp; rfl) hn hd
  have he' := DataW.agg.inj he
  have : encArr (n := 14) (PV.int .i64) a = .agg kindsPV := by
   unfold encArr
   rw [ha,← he']
   kernel_rfl
  rw [this] at hr
  exact hr
 | 1 =>
  have O := opens_array (held := false) (encH := fun _ => ()) (P := Tryz.prog) (W := W) (n := 3) Tryz.underlying214 (by kernel_rfl) (opens_str Tryz.underlying9 (by kernel_rfl))
  obtain ⟨a,⟨es,he,hn,hd⟩,hr⟩ := glob_of_head (g := 1) h5.tail (by kernel_rfl) (by kernel_rfl) Tryz.underlying214 O
  have ha : a.1 = es.map strOf := arr_of (fun p d hp => by subst hp; rfl) hn hd
  have he' := DataW.agg.inj he
  have : encArr (n := 3) PV.str a = .agg lensPV := by
   unfold encArr
   rw [ha,← he']
   kernel_rfl
  rw [this] at hr
  exact hr
 | 2 =>
  have O := opens_array (held := false) (encH := fun _ => ()) (P := Tryz.prog) (W := W) (n := 256) Tryz.underlying229 (by kernel_rfl) (opens_int Tryz.underlying5 (by kernel_rfl))
  obtain ⟨a,⟨es,he,hn,hd⟩,hr⟩ := glob_of_head (g := 2) h5 (by kernel_rfl) (by kernel_rfl) Tryz.underlying229 O
  have ha : a.1 = es.map intOf := arr_of (fun p d hp => by obtain ⟨rfl,_⟩ := hp; rfl) hn hd
  have he' := DataW.agg.inj he
  have : encArr (n := 256) (PV.int .u8) a = .agg spacePV := by
   unfold encArr
   rw [ha,← he']
   kernel_rfl
  rw [this] at hr
  exact hr
 | g + 3 => exact .any _
theorem facts {W : World} (hsh : W.ShapedOpen Tryz.prog) (h : laidMet Tryz.prog laidAll W) : Facts W where
 max := Tryz.laysM143.s1_3 W hsh
 pow := Lib.tabIs_of_head (rest := _) (g := 4) (t := 300) (e := 255) (n := 20) (by kernel_rfl) (by kernel_rfl) Tryz.underlying300 Tryz.underlying255 (by kernel_rfl) (by kernel_rfl) h.tail.tail
 spc := by
  have e : laidAll.drop 5 = ("strings.asciiSpace",Lib.tabData .u8 Lib.asciiSpaceTab) :: laidAll.drop 6 := by kernel_rfl
  have h9 : laidMet Tryz.prog (laidAll.drop 5) W := h.tail.tail.tail.tail.tail
  rw [e] at h9
  exact Lib.tabIs_of_head (rest := _) (g := 2) (t := 229) (e := 5) (n := 256) (by kernel_rfl) (by kernel_rfl) Tryz.underlying229 Tryz.underlying5 (by kernel_rfl) (by kernel_rfl) h9
end Go.Proofs.YteikomnahelckaaGreatDoor
namespace Go.Proofs.YteikomnahelckaaGreatDoor
open Go Go.Abs Go.RowKit
theorem plainL_get : ∀ {l : List PV},plainL l = true → ∀ (i : Nat) x,l[i]? = some x → plainV x = true
 | [],_,i,x,h => by simp at h
 | y :: l,hp,i,x,h => by
  simp only [plainL,Bool.and_eq_true] at hp
  cases i with
  | zero => simp at h; subst h; exact hp.1
  | succ i => exact plainL_get hp.2 i x (by simpa using h)
theorem plain_rel {G G' : Gh} {x : PV} {v : Value} (h : RelV G x v) (hp : plainV x = true) : RelV G' x v := by
 induction h with
 | str s => exact .str s
 | int k n => exact .int k n
 | bool b => exact .bool b
 | agg cs vs hl hr h1 ih => exact .agg cs vs hl (fun i x v hx hv => ih i x v hx hv (plainL_get (by simpa [plainV] using hp) i x hx)) h1
 | _ => simp [plainV] at hp
theorem tab_of {ann : FuncId → Ann} (hok : progOk Tryz.prog ann = true) {w : World} (hg : ∀ g,RelV (Gh.all w) (globPV g) (.pointer (some ⟨g,0,none⟩))) (hext : ExtOk Tryz.prog (Base.all w hg) ann) {f n : Nat}
  (hc : callW Tryz.prog ann f [] [] (fun r _ => ∃ b g z o,r = .ret (.sref b g z o n))) {G : Gh} {N : Base} {σ : St} (hI : Inv G N σ w) :
  Calls Tryz.prog f #[] w fun e w' => ∃ G' v,Inv G' N σ w' ∧ Ext G σ w G' σ w' ∧ RelV G' (.list .part (List.replicate n .any)) v ∧ e = .returned v := by
 refine (call_sound namesOk ann hok (Base.all w hg) hext f [] [] _ hc (Gh.all w) w #[] (inv_all w hg) rfl (fun i x v hx => by simp at hx)).mono ?_
 rintro e w' ⟨G',σ',r,⟨b,g,z,o,rfl⟩,hI',hE',hm⟩
 cases e with
 | returned v =>
  have hv : RelV G' (.sref b g z o n) v := hm
  cases hv with
  | sref _ _ _ _ _ B O m cap h1 h2 h3 =>
   obtain ⟨i1,i2⟩ := inv_below hI (ext_below hI' hE')
   refine ⟨G,_,i1,i2,?_,rfl⟩
   have := RelV.list (G := G) .part (List.replicate n .any) B (O + o * z) 0 cap (fun _ => .agg #[]) (by simp) (fun h => by cases h) (by simpa using h2) (fun i x hx => by
    have : x = .any := List.eq_of_mem_replicate (List.mem_of_getElem? hx)
    subst this
    exact .any _) (fun i hi => ⟨rfl,fun j v hj => by simp [Value.cells] at hj⟩)
   rw [List.length_replicate] at this
   exact this
 | _ => exact hm.elim
theorem Facts.size {W : World} (F : Facts W) : 6 ≤ W.heap.size := by
 obtain ⟨m,hm⟩ := F.max
 have := World.block_lt_of_cell? _ _ hm
 exact this
theorem Facts.at {W : World} (F : Facts W) {hg : ∀ g,RelV (Gh.all W) (globPV g) (.pointer (some ⟨g,0,none⟩))} {G : Gh} {σ : St} {w : World} (hI : Inv G (Base.all W hg) σ w) : Facts w :=
 F.same fun k hk => hI.old k (show k < W.heap.size by have := F.size; omega)
theorem ext0_sound {N : Base} {f : FuncId} {g : List PV → St → Option (PV × St)} (hg : ext0 f = some g) {args : List PV} {σ : St} {r : PV × St} (hr : g args σ = some r) {G : Gh} {w : World} {vs : Array Value} (hI : Inv G N σ w) (hl : args.length = vs.size)
  (ha : ∀ (i : Nat) (x : PV) (v : Value),args[i]? = some x → vs[i]? = some v → RelV G x v) (F : Facts w) :
  Calls Tryz.prog f vs w fun e w' => ∃ G' v,Inv G' N r.2 w' ∧ Ext G σ w G' r.2 w' ∧ RelV G' r.1 v ∧ e = .returned v := by
 unfold ext0 at hg
 by_cases h1 : f = 79
 ·subst h1
  obtain rfl : extItoa = g := Option.some.inj hg
  exact ext_itoa hr hI hl ha F
 by_cases h2 : f = 80
 ·subst h2
  obtain rfl : extBool = g := Option.some.inj hg
  exact ext_bool hr hI hl ha
 by_cases h3 : f = 83
 ·subst h3
  obtain rfl : extStr 133 5 = g := Option.some.inj hg
  exact ext_str hr hI hl ha
 by_cases h4 : f = 125
 ·subst h4
  obtain rfl : extCopy 133 = g := Option.some.inj hg
  exact ext_copy hr hI hl ha
 by_cases h5 : f = 182
 ·subst h5
  obtain rfl : extSplit = g := Option.some.inj hg
  exact ext_split hr hI hl ha N.hn F
 by_cases h6 : f = 183
 ·subst h6
  obtain rfl : extReplace = g := Option.some.inj hg
  exact ext_replace hr hI hl ha F
 by_cases h7 : f = 263
 ·subst h7
  obtain rfl : extJoin = g := Option.some.inj hg
  exact ext_join hr hI hl ha
 have e : ∀ k,f ≠ k → Nat.beq f k = false := fun k hk => by
  rw [Bool.eq_false_iff]
  exact fun h => hk (Nat.eq_of_beq_eq_true h)
 rw [e _ h1,e _ h2,e _ h3,e _ h4,e _ h5,e _ h6,e _ h7] at hg
 cases hg
theorem ext0_ok {W : World} (hg : ∀ g,RelV (Gh.all W) (globPV g) (.pointer (some ⟨g,0,none⟩))) (F : Facts W) : ExtOk Tryz.prog (Base.all W hg) ann0 := by
 intro f g hge args σ r hr G w vs hI hl ha
 exact ext0_sound hge hr hI hl ha (F.at hI)
theorem globs_at {W : World} {hg : ∀ g,RelV (Gh.all W) (globPV g) (.pointer (some ⟨g,0,none⟩))} {G : Gh} {σ : St} {w : World} (hI : Inv G (Base.all W hg) σ w) : ∀ g,RelV (Gh.all w) (globPV g) (.pointer (some ⟨g,0,none⟩)) := by
 have key : ∀ (g : Nat) (e : PV),plainV e = true → RelV (Gh.all W) (.eptr e 0) (.pointer (some ⟨g,0,none⟩)) → RelV (Gh.all w) (.eptr e 0) (.pointer (some ⟨g,0,none⟩)) := by
  intro g e hp hr
  generalize hv : (Value.pointer (some ⟨g,0,none⟩)) = v at hr
  cases hr with
  | eptr _ _ B O ve re hc =>
   refine .eptr e 0 B O ve (plain_rel re hp) fun j u hj => ⟨(hc j u hj).1,?_⟩
   have h1 : W.cell? ⟨B,O + j,none⟩ = some u := (hc j u hj).2
   show w.cell? ⟨B,O + j,none⟩ = some u
   rw [cell_of_heap_eq (hI.old B (World.block_lt_of_cell? _ _ h1))]
   exact h1
 intro g
 match g with
 | 0 => exact key 0 _ (by kernel_rfl) (hg 0)
 | 1 => exact key 1 _ (by kernel_rfl) (hg 1)
 | 2 => exact key 2 _ (by kernel_rfl) (hg 2)
 | g + 3 => exact .any _
theorem ext1_ok {W : World} (hg : ∀ g,RelV (Gh.all W) (globPV g) (.pointer (some ⟨g,0,none⟩))) (F : Facts W) : ExtOk Tryz.prog (Base.all W hg) ann1 := by
 intro f g hge args σ r hr G w vs hI hl ha
 have hge : ext1 f = some g := hge
 unfold ext1 at hge
 by_cases h : f = 206
 ·subst h
  obtain rfl : ext206 = g := Option.some.inj hge
  unfold ext206 at hr
  split at hr
  ·rename_i cs s k
   split at hr
   ·rename_i hh
    obtain ⟨h9,hb⟩ := hh
    simp only [Option.some.injEq] at hr
    subst hr
    have hc : callW Tryz.prog ann0 206 [.agg (List.replicate 9 .any),.str s,.int .i64 k] [] (fun r _ => r = .ret (.str (withS s k))) := callW_of_reckoned (fun r σ hr => by
     unfold isTxt at hr
     split at hr
     ·rw [eq_of_beq hr]
     ·cases hr) hb
    obtain ⟨v0,v1,v2,rfl,r0,r1,r2⟩ := three_args hl ha
    refine (call_sound namesOk ann0 ann0k (Base.all w (globs_at hI)) (ext0_ok _ (F.at hI)) 206 _ [] _ hc (Gh.all w) w #[v0,v1,v2] (inv_all w _) rfl (fun i x v hx hv => ?_)).mono ?_
    ·match i with
     | 0 =>
      simp at hx hv
      subst hx hv
      cases r0 with
      | agg _ us hl' hr' h1' =>
       refine .agg _ _ (by rw [← hl',h9]; rfl) (fun i x u hx hu => ?_) h1'
       have : x = .any := List.eq_of_mem_replicate (n := 9) (List.mem_of_getElem? hx)
       subst this
       exact .any _
     | 1 => simp at hx hv; subst hx hv; exact plain_rel r1 rfl
     | 2 => simp at hx hv; subst hx hv; exact plain_rel r2 rfl
     | i + 3 => simp at hx
    ·rintro e w' ⟨G',σ',r,rfl,hI',hE',hm⟩
     cases e with
     | returned v =>
      have hv : RelV G' (.str (withS s k)) v := hm
      obtain ⟨i1,i2⟩ := inv_below hI (ext_below hI' hE')
      exact ⟨G,_,i1,i2,plain_rel hv rfl,rfl⟩
     | _ => exact hm.elim
   ·cases hr
  ·cases hr
 have e : ∀ k,f ≠ k → Nat.beq f k = false := fun k hk => by
  rw [Bool.eq_false_iff]
  exact fun hh => hk (Nat.eq_of_beq_eq_true hh)
 by_cases h137 : f = 137
 ·subst h137
  obtain rfl : extFields = g := Option.some.inj hge
  exact ext_fields hr hI hl ha (Base.all W hg).hn (F.at hI)
 rw [e _ h,e _ h137] at hge
 exact ext0_sound hge hr hI hl ha (F.at hI)
theorem beq_ne {f k : Nat} (hk : f ≠ k) : Nat.beq f k = false := by
 rw [Bool.eq_false_iff]
 exact fun h => hk (Nat.eq_of_beq_eq_true h)
theorem ext2_ok {W : World} (hg : ∀ g,RelV (Gh.all W) (globPV g) (.pointer (some ⟨g,0,none⟩))) (F : Facts W) : ExtOk Tryz.prog (Base.all W hg) ann2 := by
 intro f g hge args σ r hr G w vs hI hl ha
 have hge : ext2 f = some g := hge
 unfold ext2 at hge
 by_cases h1 : f = 95
 ·subst h1
  obtain rfl : extLen nOpers = g := Option.some.inj hge
  unfold extLen at hr
  split at hr
  ·simp only [Option.some.injEq] at hr
   subst hr
   obtain rfl : vs = #[] := Array.eq_empty_of_size_eq_zero (by simpa using hl.symm)
   exact tab_of ann1k (globs_at hI) (ext1_ok _ (F.at hI)) c95 hI
  ·cases hr
 rw [beq_ne h1] at hge
 exact ext0_sound hge hr hI hl ha (F.at hI)
theorem awake_true : callW Tryz.prog ann2 8 [] [] (fun r σ => r = .ret (.bool true)) := callW_of_reckoned (fun r σ hr => by
 split at hr
 ·rfl
 ·cases hr) awakeB
theorem extF_ok {W : World} (hg : ∀ g,RelV (Gh.all W) (globPV g) (.pointer (some ⟨g,0,none⟩))) (F : Facts W) : ExtOk Tryz.prog (Base.all W hg) annF := by
 intro f g hge args σ r hr G w vs hI hl ha
 have hge : extF f = some g := hge
 have h0 : ext0 f = some g ∨ f = 8 := by
  unfold extF at hge
  by_cases h8 : f = 8
  ·exact .inr h8
  ·rw [beq_ne h8] at hge
   exact .inl hge
 by_cases h8 : f = 8
 ·subst h8
  obtain rfl : extAwake = g := Option.some.inj hge
  unfold extAwake at hr
  split at hr
  ·simp only [Option.some.injEq] at hr
   subst hr
   obtain rfl : vs = #[] := Array.eq_empty_of_size_eq_zero (by simpa using hl.symm)
   refine (call_sound namesOk ann2 ann2k (Base.all w (globs_at hI)) (ext2_ok _ (F.at hI)) 8 [] [] _ awake_true (Gh.all w) w #[] (inv_all w _) rfl (fun i x v hx => by simp at hx)).mono ?_
   rintro e w' ⟨G',σ',r,rfl,hI',hE',hm⟩
   cases e with
   | returned v =>
    have hv : RelV G' (.bool true) v := hm
    obtain ⟨i1,i2⟩ := inv_below hI (ext_below hI' hE')
    exact ⟨G,_,i1,i2,plain_rel hv rfl,rfl⟩
   | _ => exact hm.elim
  ·cases hr
 ·exact ext0_sound (h0.resolve_right h8) hr hI hl ha (F.at hI)
end Go.Proofs.YteikomnahelckaaGreatDoor
