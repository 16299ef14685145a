import Derived.WalkKit
import Derived.ProofKit
import Derived.OpenShut
import Derived.Deep.DeepHandedRow
import Derived.Lib.LaidTab
import Derived.LaidLaws
import Derived.Stop.LaidErr
import Derived.Test.YtgghfcchanilpaaGreatDoorCards
import Derived.Test.YtgghfcchanilpaaGreatDoorTie
import Derived.Test.YtgghfcchanilpaaGreatDoorAbsArgs
import Derived.Test.YtgghfcchanilpaaGreatDoorAbsExtOk
import Derived.Test.YtgghfcchanilpaaGreatDoorAbsTab
import Derived.Test.YtgghfcchanilpaaGreatDoorTabR
set_option linter.unusedVariables false
set_option linter.unusedSimpArgs false
namespace Go.Proofs.YtgghfcchanilpaaGreatDoor
open Go Go.Abs Go.ChangeShapes Go.WideShapes Go.ChangeAt Go.RowKit
theorem own : ownKnob Tryz.prog.godebug = none := by kernel_rfl
theorem laidOut : laidOutB Tryz.prog = true := by kernel_rfl
theorem TG {W : World} {nm : String} {d : DataW Unit} {rest : List (String × DataW Unit)} {g : Nat} {t e : TypeId} {n sz : Nat} {α : Type} {enc : α → PV} {dat : α → DataW Unit → Prop}
  (h : laidMet Tryz.prog ((nm,d) :: rest) W) (hg : Tryz.prog.globalNamed nm = some g) (hty : (Tryz.prog.globals[g]?).map (·.type) = some t) (ht : Tryz.prog.underlying t = some (.array n e))
  (O : UN false (fun _ => ()) Tryz.prog W enc dat t sz) : ∃ a,dat a d ∧ Q7 (Gh.all W) (.eptr (enc a) 0) (.pointer (some ⟨g,0,none⟩)) := by
 obtain ⟨ps,⟨g',t',cs,fuel,p,q,hg',ht',hvar,hd,_,_⟩,_⟩ := h
 obtain rfl := Option.some.inj (hg.symm.trans hg')
 obtain rfl := Option.some.inj (hty.symm.trans ht')
 have hl : cs.toList.length = sz := by
  cases fuel with
  | zero => simp [DataW.trod] at hd
  | succ fuel =>
   unfold DataW.trod at hd
   rw [ht] at hd
   simp only at hd
   split at hd
   ·rename_i hl
    rw [hl,O.cells]
   ·cases hd
 obtain ⟨a,v,hv,rv,ov,dv⟩ := O.open_ _ _ _ hl hd
 refine ⟨a,dv,?_⟩
 have := Q7.eptr (G := Gh.all W) (enc a) 0 g 0 v rv fun j u hj => ⟨ov u (by rw [← hv]; exact List.mem_of_getElem? (by simpa using hj)),?_⟩
 ·exact this
 ·show W.cell? ⟨g,0 + j,none⟩ = some u
  rw [Nat.zero_add,World.var?_cell hg hvar j]
  have h1 : v.cells.toList[j]? = some u := by simpa using hj
  rw [hv] at h1
  simpa using h1
def strOf : DataW Unit → List UInt8
 | .lit (.string s) => s
 | _ => []
def SS : DataW Unit → List UInt8 × List UInt8
 | .agg [x,y] => (strOf x,strOf y)
 | _ => ([],[])
def intOf : DataW Unit → Int
 | .lit (.int _ n) => n
 | _ => 0
theorem IG {α : Type} {n : Nat} {dat : α → DataW Unit → Prop} {f : DataW Unit → α} (hf : ∀ a d,dat a d → a = f d) {l : { l : List α // l.length = n }} {es : List (DataW Unit)} (hn : es.length = n)
  (h : ∀ (i : Nat) a e,l.1[i]? = some a → es[i]? = some e → dat a e) : l.1 = es.map f := by
 refine List.ext_getElem? fun i => ?_
 rw [List.getElem?_map]
 by_cases hi : i < n
 ·have h1 : l.1[i]? = some (l.1[i]'(by rw [l.2]; exact hi)) := by simp [l.2,hi]
  have h2 : es[i]? = some (es[i]'(by omega)) := by simp [hn,hi]
  rw [h1,h2,Option.map_some,hf _ _ (h i _ _ h1 h2)]
 ·rw [List.getElem?_eq_none (by rw [l.2]; omega),List.getElem?_eq_none (by omega)]
  rfl
abbrev UA : List (String × DataW Unit) := Rows.codeNamesUptoRow.laid
set_option maxRecDepth 100000 in
theorem qF {W : World} (h : laidMet Tryz.prog UA W) : ∀ g,Q7 (Gh.all W) (Zy g) (.pointer (some ⟨g,0,none⟩)) := by
 have h9 := h.tail.tail.tail.tail.tail.tail.tail
 intro g
 match g with
 | 0 =>
  have O := TV (held := false) (encH := fun _ => ()) (P := Tryz.prog) (W := W) (n := 40) Tryz.underlying82 (by kernel_rfl) (IC (e0 := PV.str) (e1 := PV.str) (t0 := 9) (t1 := 9) (s0 := 1) (s1 := 1) Tryz.underlying81 (by kernel_rfl) rfl rfl rfl rfl (SB Tryz.underlying9 (by kernel_rfl)) (SB Tryz.underlying9 (by kernel_rfl)))
  obtain ⟨a,⟨es,he,hn,hd⟩,hr⟩ := TG (g := 0) h9.tail.tail (by kernel_rfl) (by kernel_rfl) Tryz.underlying82 O
  have ha : a.1 = es.map SS := IG (fun p d hp => by
   obtain ⟨x,y,rfl,hx,hy⟩ := hp
   obtain ⟨p0,p1⟩ := p
   simp only at hx hy
   subst hx hy
   rfl) hn hd
  have he' := DataW.agg.inj he
  have : SV (n := 40) (Kc PV.str PV.str) a = .agg PC := by
   unfold SV
   rw [ha,← he']
   kernel_rfl
  rw [this] at hr
  exact hr
 | 1 =>
  have O := TV (held := false) (encH := fun _ => ()) (P := Tryz.prog) (W := W) (n := 3) Tryz.underlying177 (by kernel_rfl) (SB Tryz.underlying9 (by kernel_rfl))
  obtain ⟨a,⟨es,he,hn,hd⟩,hr⟩ := TG (g := 1) h9.tail (by kernel_rfl) (by kernel_rfl) Tryz.underlying177 O
  have ha : a.1 = es.map strOf := IG (fun p d hp => by subst hp; rfl) hn hd
  have he' := DataW.agg.inj he
  have : SV (n := 3) PV.str a = .agg D7 := by
   unfold SV
   rw [ha,← he']
   kernel_rfl
  rw [this] at hr
  exact hr
 | 2 =>
  have O := TV (held := false) (encH := fun _ => ()) (P := Tryz.prog) (W := W) (n := 256) Tryz.underlying282 (by kernel_rfl) (HY Tryz.underlying5 (by kernel_rfl))
  obtain ⟨a,⟨es,he,hn,hd⟩,hr⟩ := TG (g := 2) h9 (by kernel_rfl) (by kernel_rfl) Tryz.underlying282 O
  have ha : a.1 = es.map intOf := IG (fun p d hp => by obtain ⟨rfl,_⟩ := hp; rfl) hn hd
  have he' := DataW.agg.inj he
  have : SV (n := 256) (PV.int .u8) a = .agg II := by
   unfold SV
   rw [ha,← he']
   kernel_rfl
  rw [this] at hr
  exact hr
 | g + 3 => exact .any _
theorem star : ("*errors.errorString" : String) = "*" ++ "errors.errorString" := by decide
theorem ES (u : TypeId) (h : Tryz.prog.typeName? 3 u = some "*errors.errorString") : u = 355 :=
 typeName_ptr_named (nm := "errors.errorString") (by rw [← star]; kernel_rfl) (by kernel_rfl) (by decide) u (by rw [← star]; exact h)
theorem facts {W : World} (hsh : W.ShapedOpen Tryz.prog) (h : laidMet Tryz.prog UA W) : ZO W where
 max := Tryz.Ea.s1_3 W hsh
 pow := Lib.tabIs_of_head (rest := _) (g := 3) (t := 325) (e := 157) (n := 20) (by kernel_rfl) (by kernel_rfl) Tryz.underlying325 Tryz.underlying157 (by kernel_rfl) (by kernel_rfl) h.tail.tail
 syn := by
  obtain ⟨a,s,h1,_⟩ := laid_sentinel (g := 4) (ti := 98) (tp := 355) (te := 357) (ts := 9) h.tail.tail.tail.tail.tail (by kernel_rfl) (by kernel_rfl) Tryz.underlying98 ES Tryz.underlying355 Tryz.underlying357 rfl rfl Tryz.underlying9 (by kernel_rfl) (by kernel_rfl)
  exact ⟨_,World.var?_cell (g := 4) (by kernel_rfl) h1 0,.inr ⟨_,_,rfl⟩⟩
 rng := by
  obtain ⟨a,s,h1,_⟩ := laid_sentinel (g := 5) (ti := 98) (tp := 355) (te := 357) (ts := 9) h.tail.tail.tail.tail (by kernel_rfl) (by kernel_rfl) Tryz.underlying98 ES Tryz.underlying355 Tryz.underlying357 rfl rfl Tryz.underlying9 (by kernel_rfl) (by kernel_rfl)
  exact ⟨_,World.var?_cell (g := 5) (by kernel_rfl) h1 0,.inr ⟨_,_,rfl⟩⟩
 spc := by
  have e : UA.drop 7 = ("strings.asciiSpace",Lib.tabData .u8 Lib.asciiSpaceTab) :: UA.drop 8 := by kernel_rfl
  have h9 : laidMet Tryz.prog (UA.drop 7) W := h.tail.tail.tail.tail.tail.tail.tail
  rw [e] at h9
  exact Lib.tabIs_of_head (rest := _) (g := 2) (t := 282) (e := 5) (n := 256) (by kernel_rfl) (by kernel_rfl) Tryz.underlying282 Tryz.underlying5 (by kernel_rfl) (by kernel_rfl) h9
end Go.Proofs.YtgghfcchanilpaaGreatDoor
namespace Go.Proofs.YtgghfcchanilpaaGreatDoor
open Go Go.Abs Go.RowKit
theorem NX : ∀ {l : List PV},LA l = true → ∀ (i : Nat) x,l[i]? = some x → Oh x = true
 | [],_,i,x,h => by simp at h
 | y :: l,hp,i,x,h => by
  simp only [LA,Bool.and_eq_true] at hp
  cases i with
  | zero => simp at h; subst h; exact hp.1
  | succ i => exact NX hp.2 i x (by simpa using h)
theorem Sy {G G' : Gh} {x : PV} {v : Value} (h : Q7 G x v) (hp : Oh x = true) : Q7 G' x v := by
 induction h with
 | str s => exact .str s
 | int k n => exact .int k n
 | bool b => exact .bool b
 | agg cs vs hl hr h1 ih => exact .agg cs vs hl (fun i x v hx hv => ih i x v hx hv (NX (by simpa [Oh] using hp) i x hx)) h1
 | _ => simp [Oh] at hp
theorem I1 {ann : FuncId → Ann} (hok : VJ Tryz.prog ann = true) {w : World} (hg : ∀ g,Q7 (Gh.all w) (Zy g) (.pointer (some ⟨g,0,none⟩))) (hext : Mf Tryz.prog (X4.all w hg) ann) {f n : Nat}
  (hc : VS Tryz.prog ann f [] [] (fun r _ => ∃ b g z o,r = .ret (.sref b g z o n))) {G : Gh} {N : X4} {σ : St} (hI : Inv G N σ w) :
  Calls Tryz.prog f #[] w fun e w' => ∃ G' v,Inv G' N σ w' ∧ Ext G σ w G' σ w' ∧ Q7 G' (.list .part (List.replicate n .any)) v ∧ e = .returned v := by
 refine (Tn Nr ann hok (X4.all w hg) hext f [] [] _ hc (Gh.all w) w #[] (Ns w hg) rfl (fun i x v hx => by simp at hx)).mono ?_
 rintro e w' ⟨G',σ',r,⟨b,g,z,o,rfl⟩,hI',hE',hm⟩
 cases e with
 | returned v =>
  have hv : Q7 G' (.sref b g z o n) v := hm
  cases hv with
  | sref _ _ _ _ _ B O m cap h1 h2 h3 =>
   obtain ⟨i1,i2⟩ := U1 hI (SH hI' hE')
   refine ⟨G,_,i1,i2,?_,rfl⟩
   have := Q7.list (G := G) .part (List.replicate n .any) B (O + o * z) 0 cap (fun _ => .agg #[]) (by simp) (fun h => by cases h) (by simpa using h2) (fun i x hx => by
    have : x = .any := List.eq_of_mem_replicate (List.mem_of_getElem? hx)
    subst this
    exact .any _) (fun i hi => ⟨rfl,fun j v hj => by simp [Value.cells] at hj⟩)
   rw [List.length_replicate] at this
   exact this
 | _ => exact hm.elim
theorem MX {ann : FuncId → Ann} (hok : VJ Tryz.prog ann = true) {w : World} (hg : ∀ g,Q7 (Gh.all w) (Zy g) (.pointer (some ⟨g,0,none⟩))) (hext : Mf Tryz.prog (X4.all w hg) ann) {f n : Nat}
  (h : Qn (Oq Tryz.prog ann 3000 60) Tryz.prog ann f [] [] (fun r _ => IT n r) = true) {G : Gh} {N : X4} {σ : St} (hI : Inv G N σ w) :
  Calls Tryz.prog f #[] w fun e w' => ∃ G' v,Inv G' N σ w' ∧ Ext G σ w G' σ w' ∧ Q7 G' (.list .part (List.replicate n .any)) v ∧ e = .returned v :=
 I1 hok hg hext (Y7 (fun r σ hr => by
  unfold IT at hr
  split at hr
  ·rename_i b g z o m
   exact ⟨b,g,z,o,by rw [eq_of_beq hr]⟩
  ·cases hr) h) hI
theorem ZO.size {W : World} (F : ZO W) : 8 ≤ W.heap.size := by
 obtain ⟨m,hm⟩ := F.max
 have := World.block_lt_of_cell? _ _ hm
 exact this
theorem ZO.at {W : World} (F : ZO W) {hg : ∀ g,Q7 (Gh.all W) (Zy g) (.pointer (some ⟨g,0,none⟩))} {G : Gh} {σ : St} {w : World} (hI : Inv G (X4.all W hg) σ w) : ZO w :=
 F.same fun k hk => hI.old k (show k < W.heap.size by have := F.size; omega)
theorem IL {W : World} (hg : ∀ g,Q7 (Gh.all W) (Zy g) (.pointer (some ⟨g,0,none⟩))) (F : ZO W) : Mf Tryz.prog (X4.all W hg) MM := by
 intro f g hge args σ r hr G w vs hI hl ha
 exact Ph hge hr hI hl ha (F.at hI)
theorem Tb {W : World} {hg : ∀ g,Q7 (Gh.all W) (Zy g) (.pointer (some ⟨g,0,none⟩))} {G : Gh} {σ : St} {w : World} (hI : Inv G (X4.all W hg) σ w) : ∀ g,Q7 (Gh.all w) (Zy g) (.pointer (some ⟨g,0,none⟩)) := by
 have key : ∀ (g : Nat) (e : PV),Oh e = true → Q7 (Gh.all W) (.eptr e 0) (.pointer (some ⟨g,0,none⟩)) → Q7 (Gh.all w) (.eptr e 0) (.pointer (some ⟨g,0,none⟩)) := by
  intro g e hp hr
  generalize hv : (Value.pointer (some ⟨g,0,none⟩)) = v at hr
  cases hr with
  | eptr _ _ B O ve re hc =>
   refine .eptr e 0 B O ve (Sy re hp) fun j u hj => ⟨(hc j u hj).1,?_⟩
   have h1 : W.cell? ⟨B,O + j,none⟩ = some u := (hc j u hj).2
   show w.cell? ⟨B,O + j,none⟩ = some u
   rw [X8 (hI.old B (World.block_lt_of_cell? _ _ h1))]
   exact h1
 intro g
 match g with
 | 0 => exact key 0 _ (by kernel_rfl) (hg 0)
 | 1 => exact key 1 _ (by kernel_rfl) (hg 1)
 | 2 => exact key 2 _ (by kernel_rfl) (hg 2)
 | g + 3 => exact .any _
theorem Ng {W : World} (hg : ∀ g,Q7 (Gh.all W) (Zy g) (.pointer (some ⟨g,0,none⟩))) (F : ZO W) : Mf Tryz.prog (X4.all W hg) VW := by
 intro f g hge args σ r hr G w vs hI hl ha
 have hge : BX f = some g := hge
 unfold BX at hge
 by_cases h : f = 214
 ·subst h
  obtain rfl : Mk = g := Option.some.inj hge
  unfold Mk at hr
  split at hr
  ·rename_i cs s k
   split at hr
   ·rename_i hh
    obtain ⟨h9,hb⟩ := hh
    simp only [Option.some.injEq] at hr
    subst hr
    have hc : VS Tryz.prog MM 214 [.agg (List.replicate 9 .any),.str s,.int .i64 k] [] (fun r _ => r = .ret (.str (SR s k))) := Y7 (fun r σ hr => by
     unfold CA at hr
     split at hr
     ·rw [eq_of_beq hr]
     ·cases hr) hb
    obtain ⟨v0,v1,v2,rfl,r0,r1,r2⟩ := P6 hl ha
    refine (Tn Nr MM B5 (X4.all w (Tb hI)) (IL _ (F.at hI)) 214 _ [] _ hc (Gh.all w) w #[v0,v1,v2] (Ns w _) rfl (fun i x v hx hv => ?_)).mono ?_
    ·match i with
     | 0 =>
      simp at hx hv
      subst hx hv
      cases r0 with
      | agg _ us hl' hr' h1' =>
       refine .agg _ _ (by rw [← hl',h9]; rfl) (fun i x u hx hu => ?_) h1'
       have : x = .any := List.eq_of_mem_replicate (n := 9) (List.mem_of_getElem? hx)
       subst this
       exact .any _
     | 1 => simp at hx hv; subst hx hv; exact Sy r1 rfl
     | 2 => simp at hx hv; subst hx hv; exact Sy r2 rfl
     | i + 3 => simp at hx
    ·rintro e w' ⟨G',σ',r,rfl,hI',hE',hm⟩
     cases e with
     | returned v =>
      have hv : Q7 G' (.str (SR s k)) v := hm
      obtain ⟨i1,i2⟩ := U1 hI (SH hI' hE')
      exact ⟨G,_,i1,i2,Sy hv rfl,rfl⟩
     | _ => exact hm.elim
   ·cases hr
  ·cases hr
 have e : ∀ k,f ≠ k → Nat.beq f k = false := fun k hk => by
  rw [Bool.eq_false_iff]
  exact fun hh => hk (Nat.eq_of_beq_eq_true hh)
 by_cases h98 : f = 98
 ·subst h98
  obtain rfl : Vj = g := Option.some.inj hge
  exact Ie hr hI hl ha (X4.all W hg).hn (F.at hI)
 rw [e _ h,e _ h98] at hge
 exact Ph hge hr hI hl ha (F.at hI)
theorem qd {W : World} {hg : ∀ g,Q7 (Gh.all W) (Zy g) (.pointer (some ⟨g,0,none⟩))} (F : ZO W) {G : Gh} {σ : St} {w : World} (hI : Inv G (X4.all W hg) σ w) :
  Calls Tryz.prog 57 #[] w fun e w' => ∃ G' v,Inv G' (X4.all W hg) σ w' ∧ Ext G σ w G' σ w' ∧ Q7 G' (.list .part (List.replicate YD .any)) v ∧ e = .returned v :=
 MX H3 (Tb hI) (Ng _ (F.at hI)) wF hI
theorem xN {W : World} {hg : ∀ g,Q7 (Gh.all W) (Zy g) (.pointer (some ⟨g,0,none⟩))} (F : ZO W) {G : Gh} {σ : St} {w : World} (hI : Inv G (X4.all W hg) σ w) :
  Calls Tryz.prog 69 #[] w fun e w' => ∃ G' v,Inv G' (X4.all W hg) σ w' ∧ Ext G σ w G' σ w' ∧ Q7 G' (.list .part (List.replicate YD .any)) v ∧ e = .returned v :=
 MX H3 (Tb hI) (Ng _ (F.at hI)) wO hI
theorem GJ {W : World} {hg : ∀ g,Q7 (Gh.all W) (Zy g) (.pointer (some ⟨g,0,none⟩))} (F : ZO W) {G : Gh} {σ : St} {w : World} (hI : Inv G (X4.all W hg) σ w) {args : List PV} {vs : Array Value} {r : PV × St} (hl : args.length = vs.size)
  (ha : ∀ (i : Nat) (x : PV) (v : Value),args[i]? = some x → vs[i]? = some v → Q7 G x v) {n : Int} (hn : args = [.list .full [.int .i64 n]]) (hr : some (PV.tuple [],σ) = some r) :
  Calls Tryz.prog 73 vs w fun e w' => ∃ G' v,Inv G' (X4.all W hg) r.2 w' ∧ Ext G σ w G' r.2 w' ∧ Q7 G' r.1 v ∧ e = .returned v := by
 subst hn
 simp only [Option.some.injEq] at hr
 subst hr
 obtain ⟨v,rfl,rv⟩ := Vu hl ha
 have hc : VS Tryz.prog MM 73 [.list .part [.any]] [] (fun r _ => r = .ret (.tuple [])) := Y7 (fun r σ hr => by
  split at hr
  ·rfl
  ·cases hr) xy
 have ra : Q7 (Gh.all w) (.list .part [.any]) v := by
  cases rv with
  | list _ _ B O z cap us h1 h2 h3 h4 h5 =>
   refine .list .part [.any] B O z cap us (by simp) (fun h => by cases h) (by simpa using h3) (fun i x hx => ?_) (fun i hi => ?_)
   ·have : x = .any := List.eq_of_mem_replicate (n := 1) (List.mem_of_getElem? hx)
    subst this
    exact .any _
   ·obtain ⟨q1,q2⟩ := h5 i (by simpa using hi)
    exact ⟨q1,fun j u hj => ⟨(q2 j u hj).1,hI.imm _ _ _ (q2 j u hj).2⟩⟩
 refine (Tn Nr MM B5 (X4.all w (Tb hI)) (IL _ (F.at hI)) 73 _ [] _ hc (Gh.all w) w #[v] (Ns w _) rfl (fun i x u hx hu => ?_)).mono ?_
 ·match i with
  | 0 =>
   simp at hx hu
   subst hx hu
   exact ra
  | i + 1 => simp at hx
 ·rintro e w' ⟨G',σ',r,rfl,hI',hE',hm⟩
  cases e with
  | returned u =>
   have hv : Q7 G' (.tuple []) u := hm
   obtain ⟨i1,i2⟩ := U1 hI (SH hI' hE')
   refine ⟨G,_,i1,i2,?_,rfl⟩
   cases hv with
   | tuple _ us hl hr =>
    obtain rfl : us = #[] := Array.eq_empty_of_size_eq_zero (by simpa using hl.symm)
    exact .tuple [] #[] rfl (fun i x v hx => by simp at hx)
  | _ => exact hm.elim
theorem Dv {W : World} (hg : ∀ g,Q7 (Gh.all W) (Zy g) (.pointer (some ⟨g,0,none⟩))) (F : ZO W) : Mf Tryz.prog (X4.all W hg) QO := by
 intro f g hge args σ r hr G w vs hI hl ha
 have hge : Aa f = some g := hge
 have none_args : ∀ {n : Nat},UD n args σ = some r → args = [] ∧ r = (.list .part (List.replicate n .any),σ) := by
  intro n h
  unfold UD at h
  split at h
  ·simp only [Option.some.injEq] at h
   exact ⟨rfl,h.symm⟩
  ·cases h
 have nil_vs : args = [] → vs = #[] := by
  rintro rfl
  exact Array.eq_empty_of_size_eq_zero (by simpa using hl.symm)
 unfold Aa at hge
 by_cases h1 : f = 56
 ·subst h1
  obtain rfl : UD UG = g := Option.some.inj hge
  obtain ⟨e1,rfl⟩ := none_args hr
  obtain rfl := nil_vs e1
  exact I1 H3 (Tb hI) (Ng _ (F.at hI)) c56 hI
 by_cases h2 : f = 57
 ·subst h2
  obtain rfl : UD YD = g := Option.some.inj hge
  obtain ⟨e1,rfl⟩ := none_args hr
  obtain rfl := nil_vs e1
  exact qd F hI
 by_cases h3 : f = 68
 ·subst h3
  obtain rfl : UD UG = g := Option.some.inj hge
  obtain ⟨e1,rfl⟩ := none_args hr
  obtain rfl := nil_vs e1
  exact I1 H3 (Tb hI) (Ng _ (F.at hI)) c68 hI
 by_cases h4 : f = 69
 ·subst h4
  obtain rfl : UD YD = g := Option.some.inj hge
  obtain ⟨e1,rfl⟩ := none_args hr
  obtain rfl := nil_vs e1
  exact xN F hI
 by_cases h5 : f = 71
 ·subst h5
  obtain rfl : O6 = g := Option.some.inj hge
  exact HI hr hI hl ha
 by_cases h6 : f = 73
 ·subst h6
  obtain rfl : Nk = g := Option.some.inj hge
  exact ET hr hI hl ha fun n hn hs => GJ F hI hl ha hn hs
 by_cases h7 : f = 74
 ·subst h7
  obtain rfl : TE = g := Option.some.inj hge
  exact KB hr hI hl ha
 have e : ∀ k,f ≠ k → Nat.beq f k = false := fun k hk => by
  rw [Bool.eq_false_iff]
  exact fun h => hk (Nat.eq_of_beq_eq_true h)
 rw [e _ h1,e _ h2,e _ h3,e _ h4,e _ h5,e _ h6,e _ h7] at hge
 exact Ph (f := f) hge hr hI hl ha (F.at hI)
end Go.Proofs.YtgghfcchanilpaaGreatDoor
