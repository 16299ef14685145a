import Derived.Below
import Derived.Lib.LaidTab
import Derived.Test.YtgghfcchanilpaaGreatDoorAnn
import Derived.Test.YtgghfcchanilpaaGreatDoorAbsE
import Derived.Test.YtgghfcchanilpaaGreatDoorShelf
set_option linter.unusedVariables false
set_option linter.unusedSimpArgs false
namespace Go.Proofs.YtgghfcchanilpaaGreatDoor
open Go Go.Abs Go.RowKit Go.Sort Go.Shelf
theorem inv_below {G : Gh} {N : Base} {σ : St} {w w' : World} (h : Inv G N σ w) (b : Go.RowKit.Below w.heap.size w w') : Inv G N σ w' ∧ Ext G σ w G σ w' := by
 have hcell : ∀ B o v,w.cell? ⟨B,o,none⟩ = some v → w'.cell? ⟨B,o,none⟩ = some v := by
  intro B o v hv
  rw [cell_of_heap_eq (b.block B ?_)]
  ·exact hv
  ·rcases Nat.lt_or_ge B w.heap.size with h1 | h1
   ·exact h1
   ·simp [World.cell?,Array.getElem?_eq_none h1] at hv
 refine ⟨⟨fun B o v hv => hcell B o v (h.imm B o v hv),h.dom,fun c k hk => (h.blk c k hk).step (.refl G) fun B hB => b.block B (h.lt_of_own ⟨c,k,hk,hB⟩).1,h.inj,h.sep,Nat.le_trans h.big b.size,h.gen,h.domH,h.genH,fun k hk => (b.block k (Nat.lt_of_lt_of_le hk h.big)).trans (h.old k hk),h.bas⟩,
  ⟨.refl G,b.os,b.tape,b.output,b.size,fun k hk _ _ => b.block k hk,fun B hB => .inl hB,fun B o v hv => .inl hv,Nat.le_refl _⟩⟩
theorem two_args {G : Gh} {x y : PV} {vs : Array Value} (hl : [x,y].length = vs.size) (hr : ∀ (i : Nat) (z : PV) (v : Value),[x,y][i]? = some z → vs[i]? = some v → RelV G z v) :
  ∃ v0 v1,vs = #[v0,v1] ∧ RelV G x v0 ∧ RelV G y v1 := by
 obtain ⟨l⟩ := vs
 match l,hl with
 | [v0,v1],_ => exact ⟨v0,v1,rfl,hr 0 x v0 rfl rfl,hr 1 y v1 rfl rfl⟩
theorem str_eq {G : Gh} {l : List UInt8} {v : Value} (r : RelV G (.str l) v) : v = .string ⟨⟨l⟩⟩ := by
 cases r
 rfl
theorem strs_some : ∀ {l : List PV} {ss : List (List UInt8)},strs? l = some ss → l = ss.map .str
 | [],ss,h => by simp [strs?] at h; subst h; rfl
 | .str s :: l,ss,h => by
  simp only [strs?] at h
  cases hr : strs? l with
  | none => simp [hr] at h
  | some r =>
   simp [hr] at h
   subst h
   rw [strs_some hr]
   rfl
 | .any :: l,ss,h => by simp [strs?] at h
 | .bool _ :: l,ss,h => by simp [strs?] at h
 | .int _ _ :: l,ss,h => by simp [strs?] at h
 | .nilptr :: l,ss,h => by simp [strs?] at h
 | .ptr .. :: l,ss,h => by simp [strs?] at h
 | .eptr .. :: l,ss,h => by simp [strs?] at h
 | .list .. :: l,ss,h => by simp [strs?] at h
 | .sref .. :: l,ss,h => by simp [strs?] at h
 | .nilmap :: l,ss,h => by simp [strs?] at h
 | .mref _ :: l,ss,h => by simp [strs?] at h
 | .func .. :: l,ss,h => by simp [strs?] at h
 | .nilfunc :: l,ss,h => by simp [strs?] at h
 | .iface .. :: l,ss,h => by simp [strs?] at h
 | .nilIface :: l,ss,h => by simp [strs?] at h
 | .agg _ :: l,ss,h => by simp [strs?] at h
 | .tuple _ :: l,ss,h => by simp [strs?] at h
theorem strs_cells {G : Gh} {N : Base} {σ : St} {w : World} {x : PV} {l : List PV} {ss : List (List UInt8)} {v : Value} (hI : Inv G N σ w) (r : RelV G x v) (hl : listOf x σ = some l) (hs : strs? l = some ss) :
  (ss = [] ∧ ∃ a c,v = .slice a 0 c) ∨ ∃ B O c,v = .slice (some ⟨B,O,none⟩) ss.length c ∧ ss.length ≤ c ∧ B < w.heap.size ∧ ∀ (j : Nat) (s : List UInt8),ss[j]? = some s → w.cell? ⟨B,O + j,none⟩ = some (.string ⟨⟨s⟩⟩) := by
 have hls := strs_some hs
 have one : ∀ {B O : Nat} {s : List UInt8} {u : Value},RelV G (.str s) u → (∀ j v',u.cells[j]? = some v' → w.cell? ⟨B,O + j,none⟩ = some v') → w.cell? ⟨B,O,none⟩ = some (.string ⟨⟨s⟩⟩) := by
  intro B O s u ru hu
  rw [(str_eq ru)] at hu
  exact hu 0 _ rfl
 cases x with
 | list k xs =>
  simp only [listOf,Option.some.injEq] at hl
  subst hl
  cases r with
  | nillist =>
   simp [strs?] at hs
   exact .inl ⟨by simpa using hs,_,_,rfl⟩
  | emptyl a c =>
   simp [strs?] at hs
   exact .inl ⟨by simpa using hs,_,_,rfl⟩
  | list _ _ B O z cap vs h1 h2 h3 h4 h5 =>
   cases ss with
   | nil =>
    simp at hls
    subst hls
    exact .inl ⟨rfl,_,_,rfl⟩
   | cons s0 sr =>
    subst hls
    have hlen : ((s0 :: sr).map PV.str).length = (s0 :: sr).length := by simp
    have hz : z = 1 := by
     obtain ⟨q1,q2⟩ := h5 0 (by simp)
     have := h4 0 (.str s0) rfl
     rw [(str_eq this)] at q1
     exact q1.symm
    subst hz
    refine .inr ⟨B,O,cap,by rw [hlen],by rw [← hlen]; exact h3,?_,fun j s hj => ?_⟩
    ·obtain ⟨q1,q2⟩ := h5 0 (by simp)
     have h40 := h4 0 (.str s0) rfl
     rw [(str_eq h40)] at q2
     have := hI.imm _ _ _ (q2 0 _ rfl).2
     rcases Nat.lt_or_ge B w.heap.size with h | h
     ·exact h
     ·simp [World.cell?,Array.getElem?_eq_none h] at this
    ·have hjl : j < (s0 :: sr).length := (List.getElem?_eq_some_iff.1 hj).1
     obtain ⟨q1,q2⟩ := h5 j (by simpa using hjl)
     refine one (h4 j (.str s) (by rw [List.getElem?_map,hj]; rfl)) fun i v' hv => ?_
     have := hI.imm _ _ _ (q2 i v' hv).2
     rw [Nat.mul_one] at this
     exact this
 | sref b g z off len =>
  simp only [listOf] at hl
  split at hl
  ·rename_i hz
   subst hz
   simp only [vElems] at hl
   split at hl
   ·rename_i g' z' xs hb
    split at hl
    ·rename_i hh
     obtain ⟨rfl,hfit⟩ := hh
     simp only [Option.some.injEq] at hl
     cases r with | sref _ _ _ _ _ B O n cap hμ hcap hsz =>
     obtain ⟨B',O',n',cs,el,hm',hN,⟨fz0,hfz0,hheap⟩,hn,hxsz,hpos,vs,hrel,hcell⟩ := hI.blk b _ hb
     rw [hμ] at hm'
     simp only [Option.some.injEq,Prod.mk.injEq] at hm'
     obtain ⟨rfl,rfl,rfl,rfl⟩ := hm'
     have hlen : ss.length = len := by
      have := congrArg List.length hl
      rw [hls] at this
      simp at this
      omega
     cases ss with
     | nil =>
      simp at hlen
      subst hlen
      exact .inl ⟨rfl,_,_,rfl⟩
     | cons s0 sr =>
      rw [← hlen]
      refine .inr ⟨B,O + off * 1,cap,rfl,by omega,(Array.getElem?_eq_some_iff.1 hheap).1,fun j s hj => ?_⟩
      have hjl : j < (s0 :: sr).length := (List.getElem?_eq_some_iff.1 hj).1
      have hx : xs[off + j]? = some (.str s) := by
       have : ((xs.drop off).take len)[j]? = some (.str s) := by
        rw [hl,hls,List.getElem?_map,hj]
        rfl
       rw [List.getElem?_take] at this
       split at this
       ·rw [List.getElem?_drop] at this; exact this
       ·cases this
      obtain ⟨q1,q2⟩ := hcell (off + j) (by omega)
      rw [show O + off * 1 + j = O + (off + j) * 1 by omega]
      refine one (hrel _ _ hx) fun i v' hv => ?_
      simp only [World.cell?,hheap]
      exact (q2 i v' hv).2
    ·cases hl
   ·cases hl
  ·cases hl
 | _ => simp [listOf] at hl
structure Facts (w : World) : Prop where
 max : ∃ m,w.cell? ⟨7,0,none⟩ = some (.int .i64 m)
 pow : Lib.TabIs Tryz.prog w "internal/strconv.uint64pow10" .u64 Lib.pow10Tab
 syn : ∃ ev,w.cell? ⟨4,0,none⟩ = some ev ∧ (ev = .nilIface ∨ ∃ te pe,ev = .iface te pe)
 rng : ∃ ev,w.cell? ⟨5,0,none⟩ = some ev ∧ (ev = .nilIface ∨ ∃ te pe,ev = .iface te pe)
 spc : Lib.TabIs Tryz.prog w "strings.asciiSpace" .u8 Lib.asciiSpaceTab
theorem var_same {w w' : World} (h : ∀ k,k < 8 → w'.heap[k]? = w.heap[k]?) (nm : String) {g : Nat} (hg : Tryz.prog.globalNamed nm = some g) (hlt : g < 8) : w'.var? Tryz.prog nm = w.var? Tryz.prog nm := by
 unfold World.var?
 rw [hg]
 show (match w'.heap[g]? with | some (.cells cs _ _) => some cs | _ => none) = (match w.heap[g]? with | some (.cells cs _ _) => some cs | _ => none)
 rw [h g hlt]
theorem Facts.same {w w' : World} (h : ∀ k,k < 8 → w'.heap[k]? = w.heap[k]?) (f : Facts w) : Facts w' where
 max := by
  obtain ⟨m,hm⟩ := f.max
  exact ⟨m,by rw [cell_of_heap_eq (h 7 (by omega))]; exact hm⟩
 pow := by
  have := f.pow
  unfold Lib.TabIs at this ⊢
  rw [var_same h _ (g := 3) (by kernel_rfl) (by omega)]
  exact this
 syn := by
  obtain ⟨m,hm,hh⟩ := f.syn
  exact ⟨m,by rw [cell_of_heap_eq (h 4 (by omega))]; exact hm,hh⟩
 rng := by
  obtain ⟨m,hm,hh⟩ := f.rng
  exact ⟨m,by rw [cell_of_heap_eq (h 5 (by omega))]; exact hm,hh⟩
 spc := by
  have := f.spc
  unfold Lib.TabIs at this ⊢
  rw [var_same h _ (g := 2) (by kernel_rfl) (by omega)]
  exact this
theorem one_arg {G : Gh} {x : PV} {vs : Array Value} (hl : [x].length = vs.size) (hr : ∀ (i : Nat) (z : PV) (v : Value),[x][i]? = some z → vs[i]? = some v → RelV G z v) :
  ∃ v0,vs = #[v0] ∧ RelV G x v0 := by
 obtain ⟨l⟩ := vs
 match l,hl with
 | [v0],_ => exact ⟨v0,rfl,hr 0 x v0 rfl rfl⟩
theorem three_args {G : Gh} {x y z : PV} {vs : Array Value} (hl : [x,y,z].length = vs.size) (hr : ∀ (i : Nat) (u : PV) (v : Value),[x,y,z][i]? = some u → vs[i]? = some v → RelV G u v) :
  ∃ v0 v1 v2,vs = #[v0,v1,v2] ∧ RelV G x v0 ∧ RelV G y v1 ∧ RelV G z v2 := by
 obtain ⟨l⟩ := vs
 match l,hl with
 | [v0,v1,v2],_ => exact ⟨v0,v1,v2,rfl,hr 0 x v0 rfl rfl,hr 1 y v1 rfl rfl,hr 2 z v2 rfl rfl⟩
theorem below_drewN (w : World) (n : Nat) : Below w.heap.size w (w.drewN n) := ⟨rfl,rfl,rfl,Nat.le_refl _,fun _ _ => rfl⟩
theorem below_grow (w : World) (n : Nat) (os : Array Obj) : Below w.heap.size w (grow (w.drewN n) os) := by
 refine ⟨rfl,rfl,rfl,?_,fun k hk => ?_⟩
 ·show w.heap.size ≤ (w.heap ++ os).size
  simp
 ·show (w.heap ++ os)[k]? = w.heap[k]?
  rw [Array.getElem?_append_left hk]
theorem below_bytes (w : World) (t : ByteArray) : Below w.heap.size w (Lib.bytesWorld w 5 t) :=
 ⟨rfl,rfl,rfl,by rw [Lib.bytesWorld_size]; omega,fun k hk => Lib.bytesWorld_at_old w 5 t k hk⟩
theorem of_below {N : Base} {σ : St} {G : Gh} {w : World} {f : FuncId} {vs : Array Value} {x : PV} (hI : Inv G N σ w) (h : Calls Tryz.prog f vs w fun e w' => ∃ v,e = .returned v ∧ RelV G x v ∧ Below w.heap.size w w') :
  Calls Tryz.prog f vs w fun e w' => ∃ G' v,Inv G' N σ w' ∧ Ext G σ w G' σ w' ∧ RelV G' x v ∧ e = .returned v := by
 refine h.mono ?_
 rintro e w' ⟨v,rfl,rv,hb⟩
 obtain ⟨i1,i2⟩ := inv_below hI hb
 exact ⟨G,v,i1,i2,rv,rfl⟩
theorem pair_rel {G : Gh} {x y : PV} {v u : Value} (rx : RelV G x v) (ry : RelV G y u) : RelV G (.tuple [x,y]) (.tuple #[v,u]) :=
 .tuple _ _ rfl fun i z t hz ht => by
  match i with
  | 0 => simp at hz ht; subst hz ht; exact rx
  | 1 => simp at hz ht; subst hz ht; exact ry
  | i + 2 => simp at hz
theorem ext_fmt {N : Base} {args : List PV} {σ : St} {r : PV × St} (hr : extFmt args σ = some r) {G : Gh} {w : World} {vs : Array Value} (hI : Inv G N σ w) (hl : args.length = vs.size)
  (ha : ∀ (i : Nat) (x : PV) (v : Value),args[i]? = some x → vs[i]? = some v → RelV G x v) (F : Facts w) :
  Calls Tryz.prog 44 vs w fun e w' => ∃ G' v,Inv G' N r.2 w' ∧ Ext G σ w G' r.2 w' ∧ RelV G' r.1 v ∧ e = .returned v := by
 unfold extFmt at hr
 split at hr
 ·rename_i n
  split at hr
  ·rename_i hn
   simp only [Option.some.injEq] at hr
   subst hr
   obtain ⟨v0,v1,rfl,r0,r1⟩ := two_args hl ha
   rw [r0.int_inv,r1.int_inv]
   have hb := hn
   simp only [inI64,Bool.and_eq_true,decide_eq_true_eq] at hb
   refine of_below hI ((Tryz.strconv_FormatInt_10 n hb.1 hb.2 w F.pow).mono ?_)
   rintro e w' ⟨rfl,k,os,rfl⟩
   refine ⟨_,rfl,?_,below_grow _ _ _⟩
   show RelV G (.str (itoaB n)) _
   rw [itoaB_eq hn]
   exact RelV.str ⟨(Lib.itoa n).toArray⟩
  ·cases hr
 ·cases hr
theorem ext_itoa {N : Base} {args : List PV} {σ : St} {r : PV × St} (hr : extItoa args σ = some r) {G : Gh} {w : World} {vs : Array Value} (hI : Inv G N σ w) (hl : args.length = vs.size)
  (ha : ∀ (i : Nat) (x : PV) (v : Value),args[i]? = some x → vs[i]? = some v → RelV G x v) (F : Facts w) :
  Calls Tryz.prog 45 vs w fun e w' => ∃ G' v,Inv G' N r.2 w' ∧ Ext G σ w G' r.2 w' ∧ RelV G' r.1 v ∧ e = .returned v := by
 unfold extItoa at hr
 split at hr
 ·rename_i n
  split at hr
  ·rename_i hn
   simp only [Option.some.injEq] at hr
   subst hr
   obtain ⟨v0,rfl,r0⟩ := one_arg hl ha
   rw [r0.int_inv]
   have hb := hn
   simp only [inI64,Bool.and_eq_true,decide_eq_true_eq] at hb
   refine of_below hI ((Tryz.strconv_Itoa n hb.1 hb.2 w F.pow).mono ?_)
   rintro e w' ⟨rfl,k,os,rfl⟩
   refine ⟨_,rfl,?_,below_grow _ _ _⟩
   show RelV G (.str (itoaB n)) _
   rw [itoaB_eq hn]
   exact RelV.str ⟨(Lib.itoa n).toArray⟩
  ·cases hr
 ·cases hr
theorem ext_parse {N : Base} {args : List PV} {σ : St} {r : PV × St} (hr : extParse args σ = some r) {G : Gh} {w : World} {vs : Array Value} (hI : Inv G N σ w) (hl : args.length = vs.size)
  (ha : ∀ (i : Nat) (x : PV) (v : Value),args[i]? = some x → vs[i]? = some v → RelV G x v) (F : Facts w) :
  Calls Tryz.prog 49 vs w fun e w' => ∃ G' v,Inv G' N r.2 w' ∧ Ext G σ w G' r.2 w' ∧ RelV G' r.1 v ∧ e = .returned v := by
 unfold extParse at hr
 split at hr
 ·rename_i s
  split at hr
  ·rename_i hn
   simp only [Option.some.injEq] at hr
   subst hr
   obtain ⟨v0,v1,v2,rfl,r0,r1,r2⟩ := three_args hl ha
   rw [str_eq r0,r1.int_inv,r2.int_inv]
   have hsz : (⟨⟨s⟩⟩ : ByteArray).size = s.length := rfl
   show Calls Tryz.prog 49 _ w fun e w' => ∃ G' v,Inv G' N σ w' ∧ Ext G σ w G' σ w' ∧ RelV G' (numEnd (Lib.parseIntB 64 s) (Lib.intSat 64 s)) v ∧ e = .returned v
   cases hp : Lib.parseIntB 64 s with
   | ok v =>
    refine of_below hI ((Tryz.strconv_ParseInt_10_at64_ok ⟨⟨s⟩⟩ (by omega) v hp w).mono ?_)
    rintro e w' ⟨rfl,hw⟩
    refine ⟨_,rfl,pair_rel (.int _ _) .nilIface,?_⟩
    rcases hw with rfl | ⟨t,rfl⟩
    ·exact Below.refl _ _
    ·exact below_bytes _ _
   | range =>
    obtain ⟨ev,h1,h2⟩ := F.rng
    refine of_below hI ((Tryz.strconv_ParseInt_10_at64_range ⟨⟨s⟩⟩ (by omega) hp ev w h1 h2).mono ?_)
    rintro e w' ⟨M,rfl,_,_,hb⟩
    exact ⟨_,rfl,pair_rel (.int _ _) (.any _),hb⟩
   | _ =>
    obtain ⟨ev,h1,h2⟩ := F.syn
    refine of_below hI ((Tryz.strconv_ParseInt_10_at64_syntax ⟨⟨s⟩⟩ (by omega) hp ev w h1 h2).mono ?_)
    rintro e w' ⟨M,rfl,_,_,hb⟩
    exact ⟨_,rfl,pair_rel (.int _ _) (.any _),hb⟩
  ·cases hr
 ·cases hr
theorem ext_atoi {N : Base} {args : List PV} {σ : St} {r : PV × St} (hr : extAtoi args σ = some r) {G : Gh} {w : World} {vs : Array Value} (hI : Inv G N σ w) (hl : args.length = vs.size)
  (ha : ∀ (i : Nat) (x : PV) (v : Value),args[i]? = some x → vs[i]? = some v → RelV G x v) (F : Facts w) :
  Calls Tryz.prog 50 vs w fun e w' => ∃ G' v,Inv G' N r.2 w' ∧ Ext G σ w G' r.2 w' ∧ RelV G' r.1 v ∧ e = .returned v := by
 unfold extAtoi at hr
 split at hr
 ·rename_i s
  split at hr
  ·rename_i hn
   simp only [Option.some.injEq] at hr
   subst hr
   obtain ⟨v0,rfl,r0⟩ := one_arg hl ha
   rw [str_eq r0]
   have hsz : (⟨⟨s⟩⟩ : ByteArray).size = s.length := rfl
   show Calls Tryz.prog 50 _ w fun e w' => ∃ G' v,Inv G' N σ w' ∧ Ext G σ w G' σ w' ∧ RelV G' (numEnd (Lib.atoiAll s) (Lib.atoiSat s)) v ∧ e = .returned v
   cases hp : Lib.atoiAll s with
   | ok v =>
    refine of_below hI ((Tryz.strconv_Atoi_ok ⟨⟨s⟩⟩ (by omega) v hp w).mono ?_)
    rintro e w' ⟨rfl,hw⟩
    refine ⟨_,rfl,pair_rel (.int _ _) .nilIface,?_⟩
    rcases hw with rfl | ⟨t,rfl⟩
    ·exact Below.refl _ _
    ·exact below_bytes _ _
   | range =>
    obtain ⟨ev,h1,h2⟩ := F.rng
    refine of_below hI ((Tryz.strconv_Atoi_range ⟨⟨s⟩⟩ (by omega) hp ev w h1 h2).mono ?_)
    rintro e w' ⟨M,rfl,_,_,hb⟩
    exact ⟨_,rfl,pair_rel (.int _ _) (.any _),hb⟩
   | _ =>
    obtain ⟨ev,h1,h2⟩ := F.syn
    refine of_below hI ((Tryz.strconv_Atoi_syntax ⟨⟨s⟩⟩ (by omega) hp ev w h1 h2).mono ?_)
    rintro e w' ⟨M,rfl,_,_,hb⟩
    exact ⟨_,rfl,pair_rel (.int _ _) (.any _),hb⟩
  ·cases hr
 ·cases hr
theorem ext_cut {N : Base} {args : List PV} {σ : St} {r : PV × St} (hr : extCut args σ = some r) {G : Gh} {w : World} {vs : Array Value} (hI : Inv G N σ w) (hl : args.length = vs.size)
  (ha : ∀ (i : Nat) (x : PV) (v : Value),args[i]? = some x → vs[i]? = some v → RelV G x v) (F : Facts w) :
  Calls Tryz.prog 96 vs w fun e w' => ∃ G' v,Inv G' N r.2 w' ∧ Ext G σ w G' r.2 w' ∧ RelV G' r.1 v ∧ e = .returned v := by
 unfold extCut at hr
 split at hr
 ·rename_i s t
  split at hr
  ·rename_i hn
   simp only [Option.some.injEq] at hr
   subst hr
   obtain ⟨v0,v1,rfl,r0,r1⟩ := two_args hl ha
   rw [str_eq r0,str_eq r1]
   obtain ⟨m,hm⟩ := F.max
   refine of_below hI ((Tryz.strings_Cut ⟨⟨s⟩⟩ ⟨⟨t⟩⟩ m w hn hm).mono ?_)
   rintro e w' ⟨rfl,n,rfl⟩
   refine ⟨_,rfl,.tuple _ _ rfl fun i z u hz hu => ?_,below_drewN _ _⟩
   match i with
   | 0 => simp at hz hu; subst hz hu; exact RelV.str ⟨(Lib.cut s t).1.toArray⟩
   | 1 => simp at hz hu; subst hz hu; exact RelV.str ⟨(Lib.cut s t).2.1.toArray⟩
   | 2 => simp at hz hu; subst hz hu; exact .bool _
   | i + 3 => simp at hz
  ·cases hr
 ·cases hr
theorem ext_contains {N : Base} {args : List PV} {σ : St} {r : PV × St} (hr : extContains args σ = some r) {G : Gh} {w : World} {vs : Array Value} (hI : Inv G N σ w) (hl : args.length = vs.size)
  (ha : ∀ (i : Nat) (x : PV) (v : Value),args[i]? = some x → vs[i]? = some v → RelV G x v) (F : Facts w) :
  Calls Tryz.prog 117 vs w fun e w' => ∃ G' v,Inv G' N r.2 w' ∧ Ext G σ w G' r.2 w' ∧ RelV G' r.1 v ∧ e = .returned v := by
 unfold extContains at hr
 split at hr
 ·rename_i s t
  split at hr
  ·rename_i hn
   simp only [Option.some.injEq] at hr
   subst hr
   obtain ⟨v0,v1,rfl,r0,r1⟩ := two_args hl ha
   rw [str_eq r0,str_eq r1]
   obtain ⟨m,hm⟩ := F.max
   refine of_below hI ((Tryz.strings_Contains ⟨⟨s⟩⟩ ⟨⟨t⟩⟩ m w hn hm).mono ?_)
   rintro e w' ⟨rfl,rfl⟩
   exact ⟨_,rfl,.bool _,Below.refl _ _⟩
  ·cases hr
 ·cases hr
theorem count_le (s sub : List UInt8) (h : 1 ≤ sub.length) : Lib.count s sub ≤ s.length + 1 := by
 have : ∀ (f : Nat) (s : List UInt8),Lib.countFrom sub f s ≤ f := by
  intro f
  induction f with
  | zero => intro s; exact Nat.le_refl _
  | succ f ih =>
   intro s
   rw [Lib.countFrom]
   split
   ·omega
   ·have := ih (s.drop ((Lib.index s sub).toNat + sub.length))
    omega
 exact this (s.length + 1) s
theorem ext_replace {N : Base} {args : List PV} {σ : St} {r : PV × St} (hr : extReplace args σ = some r) {G : Gh} {w : World} {vs : Array Value} (hI : Inv G N σ w) (hl : args.length = vs.size)
  (ha : ∀ (i : Nat) (x : PV) (v : Value),args[i]? = some x → vs[i]? = some v → RelV G x v) (F : Facts w) :
  Calls Tryz.prog 101 vs w fun e w' => ∃ G' v,Inv G' N r.2 w' ∧ Ext G σ w G' r.2 w' ∧ RelV G' r.1 v ∧ e = .returned v := by
 unfold extReplace at hr
 split at hr
 ·rename_i s t u
  split at hr
  ·rename_i hn
   obtain ⟨n1,n2,n3⟩ := hn
   simp only [Option.some.injEq] at hr
   subst hr
   obtain ⟨v0,v1,v2,rfl,r0,r1,r2⟩ := three_args hl ha
   rw [str_eq r0,str_eq r1,str_eq r2]
   obtain ⟨m,hm⟩ := F.max
   have hs1 : (⟨⟨s⟩⟩ : ByteArray).size = s.length := rfl
   have hs2 : (⟨⟨t⟩⟩ : ByteArray).size = t.length := rfl
   have hs3 : (⟨⟨u⟩⟩ : ByteArray).size = u.length := rfl
   have hc : Lib.countB ⟨⟨s⟩⟩ ⟨⟨t⟩⟩ ≤ s.length + 1 := count_le s t n2
   have hmul : Lib.countB ⟨⟨s⟩⟩ ⟨⟨t⟩⟩ * u.length ≤ 65536 * 65536 := Nat.mul_le_mul (by omega) (by omega)
   refine of_below hI ((Tryz.strings_ReplaceAll ⟨⟨s⟩⟩ ⟨⟨t⟩⟩ ⟨⟨u⟩⟩ m w (by omega) hm n2 (by rw [hs1,hs3]; omega)).mono ?_)
   rintro e w' ⟨rfl,hb⟩
   exact ⟨_,rfl,RelV.str ⟨(Lib.replaceAll s t u).toArray⟩,hb⟩
  ·cases hr
 ·cases hr
theorem ext_split {N : Base} {args : List PV} {σ : St} {r : PV × St} (hr : extSplit args σ = some r) {G : Gh} {w : World} {vs : Array Value} (hI : Inv G N σ w) (hl : args.length = vs.size)
  (ha : ∀ (i : Nat) (x : PV) (v : Value),args[i]? = some x → vs[i]? = some v → RelV G x v) (hN : N.g0.n0 = N.n) (F : Facts w) :
  Calls Tryz.prog 48 vs w fun e w' => ∃ G' v,Inv G' N r.2 w' ∧ Ext G σ w G' r.2 w' ∧ RelV G' r.1 v ∧ e = .returned v := by
 have key : ∀ (s t : List UInt8) (L : List (List UInt8)) (v0 v1 : Value),RelV G (.str s) v0 → RelV G (.str t) v1 → s.length < 4294967281 → 1 ≤ t.length → Lib.splitK t 0 (Lib.count s t) s = L →
   Calls Tryz.prog 48 #[v0,v1] w fun e w' => ∃ G' v,Inv G' N σ w' ∧ Ext G σ w G' σ w' ∧ RelV G' (.list .full (L.map .str)) v ∧ e = .returned v := by
  intro s t L v0 v1 r0 r1 hlen ht hL
  rw [str_eq r0,str_eq r1]
  obtain ⟨m,hm⟩ := F.max
  refine (Tryz.strings_Split ⟨⟨s⟩⟩ ⟨⟨t⟩⟩ m w hlen hm ht).mono ?_
  rintro e w' ⟨rfl,rfl⟩
  have hsp : (Go.Lib.splitB ⟨⟨t⟩⟩ 0 (Go.Lib.countB ⟨⟨s⟩⟩ ⟨⟨t⟩⟩) ⟨⟨s⟩⟩).map (·.data.toList) = L := (Go.Lib.splitB_data ⟨⟨t⟩⟩ 0 (Go.Lib.countB ⟨⟨s⟩⟩ ⟨⟨t⟩⟩) ⟨⟨s⟩⟩).trans hL
  have hsl : (Go.Lib.splitB ⟨⟨t⟩⟩ 0 (Go.Lib.countB ⟨⟨s⟩⟩ ⟨⟨t⟩⟩) ⟨⟨s⟩⟩).length = Go.Lib.countB ⟨⟨s⟩⟩ ⟨⟨t⟩⟩ + 1 := Go.Lib.splitB_all ⟨⟨t⟩⟩ ht 0 _ _ rfl
  generalize Go.Lib.splitB ⟨⟨t⟩⟩ 0 (Go.Lib.countB ⟨⟨s⟩⟩ ⟨⟨t⟩⟩) ⟨⟨s⟩⟩ = ps at hsp hsl
  obtain ⟨p1,p2,p3⟩ := imm_sound hI ((ps.map Value.string).toArray) 9
  have hlen' : (L.map PV.str).length = ps.length := by rw [← hsp]; simp
  have hn0 : (G.newImm w.heap.size ((ps.map Value.string).toArray)).n0 ≤ w.heap.size := by
   have h1 := hI.bas.n0
   have h2 := hI.big
   show G.n0 ≤ w.heap.size
   omega
  rw [← hsl,← hlen']
  refine ⟨_,_,p1,p2,?_,rfl⟩
  refine RelV.list .full (L.map PV.str) w.heap.size 0 1 _ (fun i => (ps.map Value.string).getD i .nilIface) (by simp) (fun _ => ⟨rfl,hn0⟩) (Nat.le_refl _) (fun i x hx => ?_) (fun i hi => ?_)
  ·rw [← hsp,List.map_map,List.getElem?_map,Option.map_eq_some_iff] at hx
   obtain ⟨p,hp,rfl⟩ := hx
   simp only [List.getD_eq_getElem?_getD,List.getElem?_map,hp,Option.map_some,Option.getD_some]
   exact .str p
  ·rw [hlen'] at hi
   have hp : ps[i]? = some ps[i] := by simp [hi]
   simp only [List.getD_eq_getElem?_getD,List.getElem?_map,hp,Option.map_some,Option.getD_some]
   refine ⟨rfl,fun j v hj => ?_⟩
   cases j with
   | zero =>
    simp [Value.cells] at hj
    subst hj
    refine ⟨rfl,?_⟩
    simp [Gh.newImm,hp]
   | succ j => simp [Value.cells] at hj
 unfold extSplit at hr
 split at hr
 ·rename_i s c
  split at hr
  ·rename_i hlen
   simp only [Option.some.injEq] at hr
   subst hr
   obtain ⟨v0,v1,rfl,r0,r1⟩ := two_args hl ha
   exact key s [c] _ v0 v1 r0 r1 hlen (Nat.le_refl 1) (splitB_eq c s.length s (Nat.le_refl _))
  ·cases hr
 ·rename_i s t _
  split at hr
  ·rename_i hh
   simp only [Option.some.injEq] at hr
   subst hr
   obtain ⟨v0,v1,rfl,r0,r1⟩ := two_args hl ha
   exact key s t _ v0 v1 r0 r1 hh.1 hh.2 rfl
  ·cases hr
 ·cases hr
theorem ext_fields {N : Base} {args : List PV} {σ : St} {r : PV × St} (hr : extFields args σ = some r) {G : Gh} {w : World} {vs : Array Value} (hI : Inv G N σ w) (hl : args.length = vs.size)
  (ha : ∀ (i : Nat) (x : PV) (v : Value),args[i]? = some x → vs[i]? = some v → RelV G x v) (hN : N.g0.n0 = N.n) (F : Facts w) :
  Calls Tryz.prog 98 vs w fun e w' => ∃ G' v,Inv G' N r.2 w' ∧ Ext G σ w G' r.2 w' ∧ RelV G' r.1 v ∧ e = .returned v := by
 unfold extFields at hr
 split at hr
 ·rename_i s
  split at hr
  ·rename_i hh
   simp only [Option.some.injEq] at hr
   subst hr
   obtain ⟨v0,rfl,r0⟩ := one_arg hl ha
   rw [str_eq r0]
   refine (Tryz.strings_Fields ⟨⟨s⟩⟩ w hh.1 (fun j b hb => of_decide_eq_true (List.all_eq_true.1 hh.2 b (List.mem_of_getElem? hb))) F.spc).mono ?_
   rintro e w' ⟨rfl,rfl⟩
   show ∃ G' v,Inv G' N σ _ ∧ Ext G σ w G' σ _ ∧ RelV G' (.list .full ((Lib.fields s).map .str)) v ∧ _
   generalize Lib.fields s = ps
   obtain ⟨p1,p2,p3⟩ := imm_sound hI ((ps.map fun l => Value.string ⟨l.toArray⟩).toArray) 9
   have hlen' : (ps.map PV.str).length = ps.length := by simp
   have hn0 : (G.newImm w.heap.size ((ps.map fun l => Value.string ⟨l.toArray⟩).toArray)).n0 ≤ w.heap.size := by
    have h1 := hI.bas.n0
    have h2 := hI.big
    show G.n0 ≤ w.heap.size
    omega
   refine ⟨_,_,p1,p2,?_,rfl⟩
   have key := RelV.list (G := G.newImm w.heap.size ((ps.map fun l => Value.string ⟨l.toArray⟩).toArray)) .full (ps.map PV.str) w.heap.size 0 1 ps.length (fun i => (ps.map fun l => Value.string ⟨l.toArray⟩).getD i .nilIface) (by simp) (fun _ => ⟨hlen'.symm,hn0⟩) (by rw [hlen']; exact Nat.le_refl _) (fun i x hx => ?_) (fun i hi => ?_)
   ·rw [hlen'] at key
    exact key
   ·rw [List.getElem?_map,Option.map_eq_some_iff] at hx
    obtain ⟨p,hp,rfl⟩ := hx
    simp only [List.getD_eq_getElem?_getD,List.getElem?_map,hp,Option.map_some,Option.getD_some]
    exact .str ⟨⟨p⟩⟩
   ·rw [hlen'] at hi
    have hp : ps[i]? = some ps[i] := by simp [hi]
    simp only [List.getD_eq_getElem?_getD,List.getElem?_map,hp,Option.map_some,Option.getD_some]
    refine ⟨rfl,fun j v hj => ?_⟩
    cases j with
    | zero =>
     simp [Value.cells] at hj
     subst hj
     refine ⟨rfl,?_⟩
     simp [Gh.newImm,hp]
    | succ j => simp [Value.cells] at hj
  ·cases hr
 ·cases hr
theorem ext_join {N : Base} {args : List PV} {σ : St} {r : PV × St} (hr : extJoin args σ = some r) {G : Gh} {w : World} {vs : Array Value} (hI : Inv G N σ w) (hl : args.length = vs.size)
  (ha : ∀ (i : Nat) (x : PV) (v : Value),args[i]? = some x → vs[i]? = some v → RelV G x v) :
  Calls Tryz.prog 270 vs w fun e w' => ∃ G' v,Inv G' N r.2 w' ∧ Ext G σ w G' r.2 w' ∧ RelV G' r.1 v ∧ e = .returned v := by
 unfold extJoin at hr
 split at hr
 ·rename_i l sep
  obtain ⟨v0,v1,rfl,r0,r1⟩ := two_args hl ha
  rw [(str_eq r1)]
  split at hr
  ·rename_i l' hl'
   split at hr
   ·rename_i ss hss
    split at hr
    ·rename_i hb
     simp only [Option.some.injEq] at hr
     subst hr
     rcases strs_cells hI r0 hl' hss with ⟨rfl,a,c,rfl⟩ | ⟨B,O,c,rfl,hc,hB,hcells⟩
     ·refine (Tryz.strings_Join_none a c _ w).mono ?_
      rintro e w' ⟨rfl,rfl⟩
      exact ⟨G,_,hI,.refl _ _ _,RelV.str ⟨#[]⟩,rfl⟩
     ·have hmap : (ss.map fun s => (⟨⟨s⟩⟩ : ByteArray)).map (·.data.toList) = ss := by
       rw [List.map_map]
       exact List.map_id _
      have hjoin : Go.Lib.join ((ss.map fun s => (⟨⟨s⟩⟩ : ByteArray)).map (·.data.toList)) (⟨⟨sep⟩⟩ : ByteArray).data.toList = joinB sep ss := by
       rw [hmap,joinB_eq]
      have := Tryz.strings_Join B O c (ss.map fun s => (⟨⟨s⟩⟩ : ByteArray)) ⟨⟨sep⟩⟩ w (fun j x hx => by
       rw [List.getElem?_map,Option.map_eq_some_iff] at hx
       obtain ⟨s,hs,rfl⟩ := hx
       exact hcells j s hs) hB (by simpa using hb.1) (by simpa using hc) (by rw [hjoin]; exact hb.2)
      rw [List.length_map] at this
      refine this.mono ?_
      rintro e w' ⟨rfl,hbel⟩
      obtain ⟨i1,i2⟩ := inv_below hI hbel
      refine ⟨G,_,i1,i2,?_,rfl⟩
      rw [hjoin]
      exact RelV.str ⟨(joinB sep ss).toArray⟩
    ·cases hr
   ·cases hr
  ·cases hr
 ·cases hr
theorem adopt_sound {G : Gh} {N : Base} {σ : St} {w w' : World} (hi : Inv G N σ w) (b : Go.RowKit.Below w.heap.size w w') (z : Nat) (xs : List PV) (cs : Array Value) (el : TypeId) {B : Nat} (hB : w.heap.size ≤ B)
  (hh : w'.heap[B]? = some (.cells cs el (0,0))) (hz : 0 < z) (hle : xs.length * z ≤ cs.size) (hr : RowAt G cs 0 z xs) :
  Inv (G.newAt σ.length 0 (B,0,z,cs.size)) N (σ ++ [.arr 0 z xs]) w' ∧ Ext G σ w (G.newAt σ.length 0 (B,0,z,cs.size)) (σ ++ [.arr 0 z xs]) w' := by
 obtain ⟨hi',he⟩ := inv_below hi b
 have hnone : G.μ σ.length 0 = none := by
  cases h : G.μ σ.length 0 with
  | none => rfl
  | some y => exact absurd (hi.dom _ _ _ h) (by omega)
 have le := Gh.newAt_le (y := (B,0,z,cs.size)) hnone
 have hget : ∀ c k,(σ ++ [Blk.arr 0 z xs])[c]? = some k → (σ[c]? = some k) ∨ (c = σ.length ∧ k = .arr 0 z xs) := by
  intro c k h
  rw [List.getElem?_append] at h
  split at h
  ·exact .inl h
  ·rename_i hc
   have hc0 : c - σ.length = 0 := by
    have := (List.getElem?_eq_some_iff.1 h).1
    simp at this
    omega
   rw [hc0] at h
   simp at h
   exact .inr ⟨by omega,h.symm⟩
 have hbn : baseOf (G.newAt σ.length 0 (B,0,z,cs.size)) σ.length (.arr 0 z xs) = some B := by simp [baseOf,Gh.newAt_at]
 have hown : ∀ C,ownB (G.newAt σ.length 0 (B,0,z,cs.size)) (σ ++ [.arr 0 z xs]) C → ownB G σ C ∨ C = B := by
  rintro C ⟨c,k,hk,hC⟩
  rcases hget c k hk with h1 | ⟨rfl,rfl⟩
  ·rw [baseOf_mono le (hi.blk c k h1)] at hC
   exact .inl ⟨c,k,h1,hC⟩
  ·rw [hbn] at hC
   exact .inr (Option.some.inj hC).symm
 have hBl : B < w'.heap.size := (Array.getElem?_eq_some_iff.1 hh).1
 have hNB : N.n ≤ B := Nat.le_trans hi.big hB
 refine ⟨⟨?_,?_,?_,?_,?_,?_,?_,?_,?_,hi'.old,hi.bas.trans le⟩,⟨le,he.os,he.tape,he.output,he.size,fun k hk _ _ => b.block k hk,fun C hC => ?_,fun _ _ _ hv => .inl hv,by simp⟩⟩
 ·exact hi'.imm
 ·intro c g y hy
  simp only [Gh.newAt] at hy
  split at hy
  ·rename_i hc; obtain ⟨rfl,rfl⟩ := hc; simp
  ·have := hi.dom c g y hy; simp; omega
 ·intro c k hk
  rcases hget c k hk with h1 | ⟨rfl,rfl⟩
  ·exact (hi.blk c k h1).step le fun C hC => b.block C (hi.lt_of_own ⟨c,k,h1,hC⟩).1
  ·exact ⟨B,0,cs.size,cs,el,Gh.newAt_at _ _ _ _,hNB,⟨(0,0),.inl rfl,hh⟩,rfl,by omega,⟨hz,.no (by decide) (by decide)⟩,hr.mono le⟩
 ·intro c c' k k' C hk hk' hC hC'
  rcases hget c k hk with h1 | ⟨rfl,rfl⟩
  ·rw [baseOf_mono le (hi.blk c k h1)] at hC
   rcases hget c' k' hk' with h2 | ⟨rfl,rfl⟩
   ·rw [baseOf_mono le (hi.blk c' k' h2)] at hC'
    exact hi.inj c c' k k' C h1 h2 hC hC'
   ·rw [hbn] at hC'
    have := (hi.lt_of_own ⟨c,k,h1,hC⟩).1
    simp at hC'
    omega
  ·rw [hbn] at hC
   rcases hget c' k' hk' with h2 | ⟨rfl,rfl⟩
   ·rw [baseOf_mono le (hi.blk c' k' h2)] at hC'
    have := (hi.lt_of_own ⟨c',k',h2,hC'⟩).1
    simp at hC
    omega
   ·rfl
 ·intro C o ho
  rcases hown C ho with h1 | rfl
  ·exact hi.sep C o h1
  ·show G.I C o = none
   cases h : G.I C o with
   | none => rfl
   | some v =>
    have := hi.imm _ _ _ h
    simp [World.cell?,Array.getElem?_eq_none hB] at this
 ·exact hi'.big
 ·intro c g z' xs' hk g' hlt
  simp only [Gh.newAt]
  rcases hget c _ hk with h1 | ⟨rfl,h2⟩
  ·have hbl := (List.getElem?_eq_some_iff.1 h1).1
   rw [if_neg (by omega)]
   exact hi.gen c g z' xs' h1 g' hlt
  ·simp only [Blk.arr.injEq] at h2
   rw [if_neg (by omega)]
   cases h : G.μ σ.length g' with
   | none => rfl
   | some y => exact absurd (hi.dom _ _ _ h) (by omega)
 ·intro c v y hy
  have := hi.domH c v y hy
  simp; omega
 ·intro c v es hk v' hlt
  rcases hget c _ hk with h1 | ⟨rfl,h2⟩
  ·exact hi.genH c v es h1 v' hlt
  ·cases h2
 ·rcases hown C hC with h1 | rfl
  ·exact .inl h1
  ·exact .inr hB
theorem ints_some : ∀ {l : List PV} {ss : List Int},ints? l = some ss → l = ss.map (PV.int .i64)
 | [],ss,h => by simp [ints?] at h; subst h; rfl
 | x :: l,ss,h => by
  unfold ints? at h
  split at h
  ·rename_i heq; cases heq
  ·rename_i n l' heq
   simp only [List.cons.injEq] at heq
   obtain ⟨rfl,rfl⟩ := heq
   split at h
   ·rename_i r hr
    simp only [Option.some.injEq] at h
    subst h
    rw [ints_some hr]
    rfl
   ·cases h
  ·cases h
theorem int_eq {G : Gh} {n : Int} {v : Value} (r : RelV G (.int .i64 n) v) : v = .int .i64 n := by
 cases r
 rfl
theorem ints_list {G : Gh} {N : Base} {σ : St} {w : World} {k : LK} {ss : List Int} {v : Value} (hI : Inv G N σ w) (r : RelV G (.list k (ss.map (PV.int .i64))) v) (h0 : ss ≠ []) :
  ∃ B O c,v = .slice (some ⟨B,O,none⟩) ss.length c ∧ ss.length ≤ c ∧ ∀ j,j < ss.length → w.cell? ⟨B,O + j,none⟩ = some (.int .i64 (ss.getD j 0)) := by
 obtain ⟨s0,sr,rfl⟩ := List.exists_cons_of_ne_nil h0
 generalize hxs : (s0 :: sr).map (PV.int .i64) = xs at r
 cases r with
 | nillist => simp at hxs
 | emptyl a c => simp at hxs
 | list _ _ B O z cap vs h1 h2 h3 h4 h5 =>
  subst hxs
  have hz : z = 1 := by
   obtain ⟨q1,q2⟩ := h5 0 (by simp)
   have := h4 0 (.int .i64 s0) rfl
   rw [(int_eq this)] at q1
   exact q1.symm
  subst hz
  refine ⟨B,O,cap,by simp,by simpa using h3,fun j hj => ?_⟩
  have hg : (s0 :: sr)[j]? = some ((s0 :: sr).getD j 0) := by
   rw [List.getD_eq_getElem?_getD,List.getElem?_eq_getElem hj]
   rfl
  obtain ⟨q1,q2⟩ := h5 j (by simpa using hj)
  have h4j := h4 j (.int .i64 ((s0 :: sr).getD j 0)) (by rw [List.getElem?_map,hg]; rfl)
  rw [(int_eq h4j)] at q2
  have := hI.imm _ _ _ (q2 0 (.int .i64 ((s0 :: sr).getD j 0)) rfl).2
  simpa using this
theorem ext_clone {N : Base} {args : List PV} {σ : St} {r : PV × St} (hr : extClone args σ = some r) {G : Gh} {w : World} {vs : Array Value} (hI : Inv G N σ w) (hl : args.length = vs.size)
  (ha : ∀ (i : Nat) (x : PV) (v : Value),args[i]? = some x → vs[i]? = some v → RelV G x v) :
  Calls Tryz.prog 71 vs w fun e w' => ∃ G' v,Inv G' N r.2 w' ∧ Ext G σ w G' r.2 w' ∧ RelV G' r.1 v ∧ e = .returned v := by
 unfold extClone at hr
 split at hr
 ·rename_i k x l
  split at hr
  ·rename_i ss hss
   split at hr
   ·rename_i hlen
    simp only [Option.some.injEq] at hr
    subst hr
    have hx := ints_some hss
    have h0 : ss ≠ [] := fun h => by rw [h] at hx; simp at hx
    obtain ⟨v,rfl,rv⟩ := one_arg hl ha
    rw [hx] at rv
    obtain ⟨B,O,c,rfl,hc,hcell⟩ := ints_list hI rv h0
    refine (Tryz.slices_Clone_int B O ss.length c ss w (Nat.le_refl _) hlen hcell).mono ?_
    rintro e w' ⟨v',rfl,⟨_,how⟩,hnn,bel⟩
    rcases how with ⟨_,h1⟩ | ⟨g,cap,cur,rfl,hg,hh,hn,hm,hsz,htk⟩
    ·exact absurd (List.length_eq_zero_iff.1 h1) h0
    ·have hsz' : cur.size = cap := by simpa using hsz
     obtain ⟨i1,i2⟩ := adopt_sound hI bel 1 (ss.map (PV.int .i64)) cur 3 hg hh (by omega) (by simp; omega) (by
      refine ⟨fun i => .int .i64 (ss.getD i 0),fun i x hi => ?_,fun i hi => ?_⟩
      ·rw [List.getElem?_map,Option.map_eq_some_iff] at hi
       obtain ⟨s,hs,rfl⟩ := hi
       have : ss.getD i 0 = s := by simp [List.getD_eq_getElem?_getD,hs]
       show RelV G (.int .i64 s) (.int .i64 (ss.getD i 0))
       rw [this]
       exact .int _ _
      ·have hil : i < ss.length := by simpa using hi
       refine ⟨rfl,fun j v hj => ?_⟩
       cases j with
       | succ j => simp [Value.cells] at hj
       | zero =>
        simp [Value.cells] at hj
        subst hj
        refine ⟨rfl,?_⟩
        have h2 : (cur.toList.take (ss.length * 1))[i]? = ((ss.take ss.length).map (Value.int .i64))[i]? := by rw [htk]
        rw [List.getElem?_take,if_pos (by omega),List.take_length,List.getElem?_map] at h2
        simp only [List.getElem?_eq_getElem hil,Option.map_some] at h2
        simp [List.getD_eq_getElem?_getD,hil]
        simpa using h2)
     refine ⟨_,_,i1,i2,?_,rfl⟩
     have := RelV.sref (G := G.newAt σ.length 0 (g,0,1,cur.size)) σ.length 0 1 0 ss.length g 0 cur.size cap (Gh.newAt_at _ _ _ _) (by omega) (by omega)
     simpa using this
   ·cases hr
  ·cases hr
 ·cases hr
theorem row_world {G : Gh} {N : Base} {σ : St} {w : World} {x : PV} {v : Value} {b g : Nat} {ss : List Int} (hI : Inv G N σ w) (r : RelV G x v) (hx : intRow x σ = some (b,g,ss)) :
  ∃ B O n cap cs el,x = .sref b g 1 0 ss.length ∧ σ[b]? = some (.arr g 1 (ss.map (PV.int .i64))) ∧ v = .slice (some ⟨B,O,none⟩) ss.length cap ∧ G.μ b g = some (B,O,1,n) ∧ N.n ≤ B ∧ (∃ fz,FzOk fz n ∧ w.heap[B]? = some (.cells cs el fz)) ∧ cs.size = n ∧
   ss.length ≤ cap ∧ O + ss.length ≤ n ∧ O + cap = n ∧ TyOk g 1 O n el ∧ ss.length < 4611686018427387904 ∧ ∀ (i : Nat) s,ss[i]? = some s → cs[O + i]? = some (.int .i64 s) := by
 unfold intRow at hx
 split at hx
 ·rename_i b' g' z off len
  split at hx
  ·rename_i g2 z' xs hb
   split at hx
   ·rename_i hh
    obtain ⟨rfl,rfl,rfl,rfl,rfl,hlt⟩ := hh
    cases hs : ints? xs with
    | none => rw [hs] at hx; cases hx
    | some ss' =>
     rw [hs] at hx
     simp only [Option.some.injEq,Prod.mk.injEq] at hx
     obtain ⟨rfl,rfl,rfl⟩ := hx
     have hxs := ints_some hs
     subst hxs
     obtain ⟨B,O,n,cs,el,hm,hN,hh,hn,hle,⟨hz,hty⟩,vs,hrel,hcell⟩ := hI.blk _ _ hb
     cases r with
     | sref _ _ _ _ _ B' O' n' cap hm' hcap hfit =>
      rw [hm] at hm'
      simp only [Option.some.injEq,Prod.mk.injEq] at hm'
      obtain ⟨rfl,rfl,_,rfl⟩ := hm'
      simp only [List.length_map] at hcap hlt
      refine ⟨B,O,n,cap,cs,el,by simp,hb,by simp,hm,hN,hh,hn,hcap,by omega,by omega,hty,hlt,fun i s hi => ?_⟩
      have hil : i < ss'.length := (List.getElem?_eq_some_iff.1 hi).1
      have hv := hrel i (.int .i64 s) (by rw [List.getElem?_map,hi]; rfl)
      obtain ⟨q1,q2⟩ := hcell i (by simpa using hil)
      have hvs : vs i = .int .i64 s := int_eq hv
      have := (q2 0 (.int .i64 s) (by rw [hvs]; rfl)).2
      simpa using this
   ·cases hx
  ·cases hx
 ·cases hx
theorem put_sound {G : Gh} {N : Base} {σ : St} {w w' : World} {b g B O n : Nat} {cs : Array Value} {el : TypeId} {fz : Nat × Nat} {xs : List PV} {ds : List Int} (hI : Inv G N σ w) (hb : σ[b]? = some (.arr g 1 xs)) (hm : G.μ b g = some (B,O,1,n)) (hN : N.n ≤ B)
  (hfz : FzOk fz n) (hh : w.heap[B]? = some (.cells cs el fz)) (hn : cs.size = n) (hO : O + ds.length ≤ n) (hty : TyOk g 1 O n el) {q : Nat} {os : Array Obj} (hw : w' = grow (putRow (Value.int .i64) (Sort.ahead w q) B O ds.toArray) os) :
  Inv G N (σ.set b (.arr g 1 (ds.map (PV.int .i64)))) w' ∧ Ext G σ w G (σ.set b (.arr g 1 (ds.map (PV.int .i64)))) w' := by
 subst hw
 have hsz : (grow (putRow (Value.int .i64) (Sort.ahead w q) B O ds.toArray) os).heap.size = w.heap.size + os.size := by
  show ((putRow (Value.int .i64) (Sort.ahead w q) B O ds.toArray).heap ++ os).size = _
  rw [Array.size_append,size_putRow]
  rfl
 have hBl : B < w.heap.size := (Array.getElem?_eq_some_iff.1 hh).1
 have hget : ∀ k,k < w.heap.size → (grow (putRow (Value.int .i64) (Sort.ahead w q) B O ds.toArray) os).heap[k]? = if B = k then w.heap[k]?.map (onCells (putCells (Value.int .i64) O ds.toArray)) else w.heap[k]? := by
  intro k hk
  show ((putRow (Value.int .i64) (Sort.ahead w q) B O ds.toArray).heap ++ os)[k]? = _
  rw [Array.getElem?_append_left (by rw [size_putRow]; exact hk)]
  show (w.heap.modify B (onCells (putCells (Value.int .i64) O ds.toArray)))[k]? = _
  rw [Array.getElem?_modify]
 have hnew : (grow (putRow (Value.int .i64) (Sort.ahead w q) B O ds.toArray) os).heap[B]? = some (.cells (putCells (Value.int .i64) O ds.toArray cs) el fz) := by
  rw [hget B hBl,if_pos rfl,hh]
  rfl
 refine repl_sound (G' := G) (g' := g) (z' := 1) (B' := B) (O' := O) (n' := n) hI hb (by simp [baseOf,hm]) (.refl G) rfl rfl (fun _ _ _ => rfl) hm (fun h hlt => hI.gen b g 1 _ hb h hlt) (.inl rfl)
  (fun k hk hne => by rw [hget k hk,if_neg (Ne.symm hne)]) rfl rfl rfl (by rw [hsz]; omega) ?_
 refine ⟨B,O,n,_,el,hm,hN,⟨fz,hfz,hnew⟩,by simp [putCells,hn],by simpa using hO,⟨by decide,hty⟩,fun i => .int .i64 (ds.getD i 0),fun i x hx => ?_,fun i hi => ?_⟩
 ·rw [List.getElem?_map,Option.map_eq_some_iff] at hx
  obtain ⟨s,hs,rfl⟩ := hx
  have : ds.getD i 0 = s := by simp [List.getD_eq_getElem?_getD,hs]
  show RelV G (.int .i64 s) (.int .i64 (ds.getD i 0))
  rw [this]
  exact .int _ _
 ·have hil : i < ds.length := by simpa using hi
  refine ⟨rfl,fun j v hj => ?_⟩
  cases j with
  | succ j => simp [Value.cells] at hj
  | zero =>
   simp [Value.cells] at hj
   subst hj
   refine ⟨rfl,?_⟩
   have hlt : O + i < cs.size := by omega
   simp only [putCells,Nat.mul_one,Nat.add_zero,Array.getElem?_mapIdx]
   have hc : cs[O + i]? = some cs[O + i] := by simp [hlt]
   rw [hc]
   simp only [Option.map_some,Option.some.injEq]
   rw [if_pos ⟨by omega,by simp; omega⟩]
   have : O + i - O = i := by omega
   rw [this]
   have hd : ds[i]? = some ds[i] := by simp [hil]
   simp [List.getD_eq_getElem?_getD,hil]
theorem holds_of {w : World} {B O n : Nat} {cs : Array Value} {el : TypeId} {fz : Nat × Nat} {ss : List Int} (hfz : FzOk fz n) (hn : O + ss.length ≤ n) (hh : w.heap[B]? = some (.cells cs el fz)) (h : ∀ (i : Nat) s,ss[i]? = some s → cs[O + i]? = some (.int .i64 s)) : Holds (Value.int .i64) w B O ss.toArray := by
 intro j hj
 have hj' : j < ss.length := by simpa using hj
 refine ⟨?_,?_⟩
 ·rw [Lib.cell_of_heap hh,h j ss[j] (by simp [hj'])]
  simp [hj']
 ·obtain ⟨lo,hi⟩ := fz
  simp only [World.frozen?,hh]
  rcases hfz with h | h
  ·cases h
   simp
  ·simp only at h
   simp
   omega
theorem ext_sort {N : Base} {args : List PV} {σ : St} {r : PV × St} (hr : extSort args σ = some r) {G : Gh} {w : World} {vs : Array Value} (hI : Inv G N σ w) (hl : args.length = vs.size)
  (ha : ∀ (i : Nat) (x : PV) (v : Value),args[i]? = some x → vs[i]? = some v → RelV G x v)
  (h1 : ∀ n,args = [.list .full [.int .i64 n]] → some (.tuple [],σ) = some r → Calls Tryz.prog 73 vs w fun e w' => ∃ G' v,Inv G' N r.2 w' ∧ Ext G σ w G' r.2 w' ∧ RelV G' r.1 v ∧ e = .returned v) :
  Calls Tryz.prog 73 vs w fun e w' => ∃ G' v,Inv G' N r.2 w' ∧ Ext G σ w G' r.2 w' ∧ RelV G' r.1 v ∧ e = .returned v := by
 have htup : RelV G (.tuple []) (.tuple #[]) := .tuple [] #[] rfl (fun i x v hx => by simp at hx)
 unfold extSort at hr
 split at hr
 ·simp only [Option.some.injEq] at hr
  subst hr
  obtain ⟨v,rfl,rv⟩ := one_arg hl ha
  have hv : v = .slice none 0 0 := by
   cases rv with
   | nillist => rfl
   | list k xs B O z cap vs hk => exact absurd rfl hk
  subst hv
  refine (Tryz.slices_Sort_int_none none 0 w).mono ?_
  rintro e w' ⟨rfl,rfl⟩
  exact ⟨G,_,hI,.refl _ _ _,htup,rfl⟩
 ·rename_i n
  exact h1 n rfl hr
 ·rename_i x hx
  obtain ⟨v,rfl,rv⟩ := one_arg hl ha
  split at hr
  ·rename_i b g ss hrow
   simp only [Option.some.injEq] at hr
   subst hr
   obtain ⟨B,O,n,cap,cs,el,rfl,hb,rfl,hm,hN,⟨fz,hfz,hh⟩,hn,hcap,hO,hOc,hty,hlt,hcell⟩ := row_world hI rv hrow
   refine (Tryz.slices_Sort_int B O cap ss w (holds_of hfz hO hh hcell) (Array.getElem?_eq_some_iff.1 hh).1 hlt).mono ?_
   rintro e w' ⟨rfl,q,os,hw⟩
   obtain ⟨i1,i2⟩ := put_sound (ds := sortI ss) hI hb hm hN hfz hh hn (by simp [sortI]; omega) hty hw
   exact ⟨G,_,i1,i2,htup,rfl⟩
  ·cases hr
 ·cases hr
theorem compI_len (ss : List Int) : (compI ss).length ≤ ss.length := by
 unfold compI Lib.compact Lib.compactUpTo
 rw [List.length_map]
 have := List.length_filter_le (Lib.keeps ss.toArray) (List.range ss.length)
 simpa using this
set_option maxHeartbeats 1000000 in
theorem compact_oneP {P : Program} {ρ : Go.Shelf.Ren} (L : Lays2.n20 P ρ) (a : Option Addr) (cap : Nat) (w : World) :
  Calls P (ρ.f 20) #[.slice a 1 cap] w fun e w' => e = .returned (.slice a 1 cap) ∧ w' = w := by
 have mixed := L.mixed; have t0 := L.t0; have a0 := L.a0; have z0 := L.z0; have v0 := L.v0; have t3 := L.t3; have a3 := L.a3; have z3 := L.z3; have v3 := L.v3; have t4 := L.t4; have a4 := L.a4; have z4 := L.z4; have v4 := L.v4; have t22 := L.t22; have a22 := L.a22; have z22 := L.z22; have v22 := L.v22
 go_enter L.f20,Body2.n20_ntmps ρ
 go_wp2
 go_ret
 exact ⟨rfl,rfl⟩
theorem ext_compact {N : Base} {args : List PV} {σ : St} {r : PV × St} (hr : extCompact args σ = some r) {G : Gh} {w : World} {vs : Array Value} (hI : Inv G N σ w) (hl : args.length = vs.size)
  (ha : ∀ (i : Nat) (x : PV) (v : Value),args[i]? = some x → vs[i]? = some v → RelV G x v) :
  Calls Tryz.prog 74 vs w fun e w' => ∃ G' v,Inv G' N r.2 w' ∧ Ext G σ w G' r.2 w' ∧ RelV G' r.1 v ∧ e = .returned v := by
 unfold extCompact at hr
 split at hr
 ·simp only [Option.some.injEq] at hr
  subst hr
  obtain ⟨v,rfl,rv⟩ := one_arg hl ha
  have hv : v = .slice none 0 0 := by
   cases rv with
   | nillist => rfl
   | list k xs B O z cap vs h1 => exact absurd rfl h1
  subst hv
  refine (Tryz.slices_Compact_int_empty none 0 w).mono ?_
  rintro e w' ⟨rfl,rfl⟩
  exact ⟨G,_,hI,.refl _ _ _,.nillist,rfl⟩
 ·rename_i n
  simp only [Option.some.injEq] at hr
  subst hr
  obtain ⟨v,rfl,rv⟩ := one_arg hl ha
  obtain ⟨B,O,c,rfl,hc,hcell⟩ := ints_list (ss := [n]) hI rv (by simp)
  refine (compact_oneP Tryz.laysNm220 (some ⟨B,O,none⟩) c w).mono ?_
  rintro e w' ⟨rfl,rfl⟩
  exact ⟨G,_,hI,.refl _ _ _,rv,rfl⟩
 ·rename_i x hx
  obtain ⟨v,rfl,rv⟩ := one_arg hl ha
  split at hr
  ·rename_i b g ss hrow
   simp only [Option.some.injEq] at hr
   subst hr
   obtain ⟨B,O,n,cap,cs,el,rfl,hb,rfl,hm,hN,⟨fz,hfz,hh⟩,hn,hcap,hO,hOc,hty,hlt,hcell⟩ := row_world hI rv hrow
   have hcl := compI_len ss
   refine (Tryz.slices_Compact_int B O cap ss w (holds_of hfz hO hh hcell) (by omega) hcap).mono ?_
   rintro e w' ⟨rfl,q,hw⟩
   obtain ⟨i1,i2⟩ := put_sound (w' := w') (q := q) (os := #[]) (ds := compI ss ++ List.replicate (ss.length - (compI ss).length) 0) hI hb hm hN hfz hh hn (by rw [List.length_append,List.length_replicate]; omega) hty (by rw [grow_empty]; exact hw)
   refine ⟨G,_,i1,i2,?_,rfl⟩
   have := RelV.sref (G := G) b g 1 0 (compI ss).length B O n cap hm (by omega) (by omega)
   simpa [compI] using this
  ·cases hr
 ·cases hr
theorem ext0_sound {N : Base} {f : FuncId} {g : List PV → St → Option (PV × St)} (hg : ext0 f = some g) {args : List PV} {σ : St} {r : PV × St} (hr : g args σ = some r) {G : Gh} {w : World} {vs : Array Value} (hI : Inv G N σ w) (hl : args.length = vs.size)
  (ha : ∀ (i : Nat) (x : PV) (v : Value),args[i]? = some x → vs[i]? = some v → RelV G x v) (F : Facts w) :
  Calls Tryz.prog f vs w fun e w' => ∃ G' v,Inv G' N r.2 w' ∧ Ext G σ w G' r.2 w' ∧ RelV G' r.1 v ∧ e = .returned v := by
 unfold ext0 at hg
 by_cases h1 : f = 44
 ·subst h1
  obtain rfl : extFmt = g := Option.some.inj hg
  exact ext_fmt hr hI hl ha F
 by_cases h2 : f = 45
 ·subst h2
  obtain rfl : extItoa = g := Option.some.inj hg
  exact ext_itoa hr hI hl ha F
 by_cases h3 : f = 48
 ·subst h3
  obtain rfl : extSplit = g := Option.some.inj hg
  exact ext_split hr hI hl ha N.hn F
 by_cases h4 : f = 49
 ·subst h4
  obtain rfl : extParse = g := Option.some.inj hg
  exact ext_parse hr hI hl ha F
 by_cases h5 : f = 50
 ·subst h5
  obtain rfl : extAtoi = g := Option.some.inj hg
  exact ext_atoi hr hI hl ha F
 by_cases h6 : f = 96
 ·subst h6
  obtain rfl : extCut = g := Option.some.inj hg
  exact ext_cut hr hI hl ha F
 by_cases h7 : f = 117
 ·subst h7
  obtain rfl : extContains = g := Option.some.inj hg
  exact ext_contains hr hI hl ha F
 by_cases h8 : f = 101
 ·subst h8
  obtain rfl : extReplace = g := Option.some.inj hg
  exact ext_replace hr hI hl ha F
 by_cases h9 : f = 270
 ·subst h9
  obtain rfl : extJoin = g := Option.some.inj hg
  exact ext_join hr hI hl ha
 have e : ∀ k,f ≠ k → Nat.beq f k = false := fun k hk => by
  rw [Bool.eq_false_iff]
  exact fun h => hk (Nat.eq_of_beq_eq_true h)
 rw [e _ h1,e _ h2,e _ h3,e _ h4,e _ h5,e _ h6,e _ h7,e _ h8,e _ h9] at hg
 cases hg
end Go.Proofs.YtgghfcchanilpaaGreatDoor
