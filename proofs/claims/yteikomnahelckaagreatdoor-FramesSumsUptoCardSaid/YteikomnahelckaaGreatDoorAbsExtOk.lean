import Derived.Below
import Derived.Lib.LaidTab
import Derived.Test.YteikomnahelckaaGreatDoorAnn
import Derived.Test.YteikomnahelckaaGreatDoorAbsE
import Derived.Test.YteikomnahelckaaGreatDoorShelf
set_option linter.unusedVariables false
set_option linter.unusedSimpArgs false
namespace Go.Proofs.YteikomnahelckaaGreatDoor
open Go Go.Abs Go.RowKit Go.Sort Go.Shelf
theorem inv_below {G : Gh} {N : Base} {σ : St} {w w' : World} (h : Inv G N σ w) (b : Go.RowKit.Below w.heap.size w w') : Inv G N σ w' ∧ Ext G σ w G σ w' := by
 have hcell : ∀ B o v,w.cell? ⟨B,o,none⟩ = some v → w'.cell? ⟨B,o,none⟩ = some v := by
  intro B o v hv
  rw [cell_of_heap_eq (b.block B ?_)]
  ·exact hv
  ·rcases Nat.lt_or_ge B w.heap.size with h1 | h1
   ·exact h1
   ·simp [World.cell?,Array.getElem?_eq_none h1] at hv
 refine ⟨⟨fun B o v hv => hcell B o v (h.imm B o v hv),h.dom,fun c k hk => (h.blk c k hk).step (.refl G) fun B hB => b.block B (h.lt_of_own ⟨c,k,hk,hB⟩).1,h.inj,h.sep,Nat.le_trans h.big b.size,h.gen,h.domH,h.genH,fun k hk => (b.block k (Nat.lt_of_lt_of_le hk h.big)).trans (h.old k hk),h.bas⟩,
  ⟨.refl G,b.os,b.tape,b.output,b.size,fun k hk _ _ => b.block k hk,fun B hB => .inl hB,fun B o v hv => .inl hv,Nat.le_refl _⟩⟩
theorem two_args {G : Gh} {x y : PV} {vs : Array Value} (hl : [x,y].length = vs.size) (hr : ∀ (i : Nat) (z : PV) (v : Value),[x,y][i]? = some z → vs[i]? = some v → RelV G z v) :
  ∃ v0 v1,vs = #[v0,v1] ∧ RelV G x v0 ∧ RelV G y v1 := by
 obtain ⟨l⟩ := vs
 match l,hl with
 | [v0,v1],_ => exact ⟨v0,v1,rfl,hr 0 x v0 rfl rfl,hr 1 y v1 rfl rfl⟩
theorem str_eq {G : Gh} {l : List UInt8} {v : Value} (r : RelV G (.str l) v) : v = .string ⟨⟨l⟩⟩ := by
 cases r
 rfl
theorem strs_some : ∀ {l : List PV} {ss : List (List UInt8)},strs? l = some ss → l = ss.map .str
 | [],ss,h => by simp [strs?] at h; subst h; rfl
 | .str s :: l,ss,h => by
  simp only [strs?] at h
  cases hr : strs? l with
  | none => simp [hr] at h
  | some r =>
   simp [hr] at h
   subst h
   rw [strs_some hr]
   rfl
 | .any :: l,ss,h => by simp [strs?] at h
 | .bool _ :: l,ss,h => by simp [strs?] at h
 | .int _ _ :: l,ss,h => by simp [strs?] at h
 | .nilptr :: l,ss,h => by simp [strs?] at h
 | .ptr .. :: l,ss,h => by simp [strs?] at h
 | .eptr .. :: l,ss,h => by simp [strs?] at h
 | .list .. :: l,ss,h => by simp [strs?] at h
 | .sref .. :: l,ss,h => by simp [strs?] at h
 | .nilmap :: l,ss,h => by simp [strs?] at h
 | .mref _ :: l,ss,h => by simp [strs?] at h
 | .func .. :: l,ss,h => by simp [strs?] at h
 | .nilfunc :: l,ss,h => by simp [strs?] at h
 | .iface .. :: l,ss,h => by simp [strs?] at h
 | .nilIface :: l,ss,h => by simp [strs?] at h
 | .agg _ :: l,ss,h => by simp [strs?] at h
 | .tuple _ :: l,ss,h => by simp [strs?] at h
theorem strs_cells {G : Gh} {N : Base} {σ : St} {w : World} {x : PV} {l : List PV} {ss : List (List UInt8)} {v : Value} (hI : Inv G N σ w) (r : RelV G x v) (hl : listOf x σ = some l) (hs : strs? l = some ss) :
  (ss = [] ∧ ∃ a c,v = .slice a 0 c) ∨ ∃ B O c,v = .slice (some ⟨B,O,none⟩) ss.length c ∧ ss.length ≤ c ∧ B < w.heap.size ∧ ∀ (j : Nat) (s : List UInt8),ss[j]? = some s → w.cell? ⟨B,O + j,none⟩ = some (.string ⟨⟨s⟩⟩) := by
 have hls := strs_some hs
 have one : ∀ {B O : Nat} {s : List UInt8} {u : Value},RelV G (.str s) u → (∀ j v',u.cells[j]? = some v' → w.cell? ⟨B,O + j,none⟩ = some v') → w.cell? ⟨B,O,none⟩ = some (.string ⟨⟨s⟩⟩) := by
  intro B O s u ru hu
  rw [(str_eq ru)] at hu
  exact hu 0 _ rfl
 cases x with
 | list k xs =>
  simp only [listOf,Option.some.injEq] at hl
  subst hl
  cases r with
  | nillist =>
   simp [strs?] at hs
   exact .inl ⟨by simpa using hs,_,_,rfl⟩
  | emptyl a c =>
   simp [strs?] at hs
   exact .inl ⟨by simpa using hs,_,_,rfl⟩
  | list _ _ B O z cap vs h1 h2 h3 h4 h5 =>
   cases ss with
   | nil =>
    simp at hls
    subst hls
    exact .inl ⟨rfl,_,_,rfl⟩
   | cons s0 sr =>
    subst hls
    have hlen : ((s0 :: sr).map PV.str).length = (s0 :: sr).length := by simp
    have hz : z = 1 := by
     obtain ⟨q1,q2⟩ := h5 0 (by simp)
     have := h4 0 (.str s0) rfl
     rw [(str_eq this)] at q1
     exact q1.symm
    subst hz
    refine .inr ⟨B,O,cap,by rw [hlen],by rw [← hlen]; exact h3,?_,fun j s hj => ?_⟩
    ·obtain ⟨q1,q2⟩ := h5 0 (by simp)
     have h40 := h4 0 (.str s0) rfl
     rw [(str_eq h40)] at q2
     have := hI.imm _ _ _ (q2 0 _ rfl).2
     rcases Nat.lt_or_ge B w.heap.size with h | h
     ·exact h
     ·simp [World.cell?,Array.getElem?_eq_none h] at this
    ·have hjl : j < (s0 :: sr).length := (List.getElem?_eq_some_iff.1 hj).1
     obtain ⟨q1,q2⟩ := h5 j (by simpa using hjl)
     refine one (h4 j (.str s) (by rw [List.getElem?_map,hj]; rfl)) fun i v' hv => ?_
     have := hI.imm _ _ _ (q2 i v' hv).2
     rw [Nat.mul_one] at this
     exact this
 | sref b g z off len =>
  simp only [listOf] at hl
  split at hl
  ·rename_i hz
   subst hz
   simp only [vElems] at hl
   split at hl
   ·rename_i g' z' xs hb
    split at hl
    ·rename_i hh
     obtain ⟨rfl,hfit⟩ := hh
     simp only [Option.some.injEq] at hl
     cases r with | sref _ _ _ _ _ B O n cap hμ hcap hsz =>
     obtain ⟨B',O',n',cs,el,hm',hN,⟨fz0,hfz0,hheap⟩,hn,hxsz,hpos,vs,hrel,hcell⟩ := hI.blk b _ hb
     rw [hμ] at hm'
     simp only [Option.some.injEq,Prod.mk.injEq] at hm'
     obtain ⟨rfl,rfl,rfl,rfl⟩ := hm'
     have hlen : ss.length = len := by
      have := congrArg List.length hl
      rw [hls] at this
      simp at this
      omega
     cases ss with
     | nil =>
      simp at hlen
      subst hlen
      exact .inl ⟨rfl,_,_,rfl⟩
     | cons s0 sr =>
      rw [← hlen]
      refine .inr ⟨B,O + off * 1,cap,rfl,by omega,(Array.getElem?_eq_some_iff.1 hheap).1,fun j s hj => ?_⟩
      have hjl : j < (s0 :: sr).length := (List.getElem?_eq_some_iff.1 hj).1
      have hx : xs[off + j]? = some (.str s) := by
       have : ((xs.drop off).take len)[j]? = some (.str s) := by
        rw [hl,hls,List.getElem?_map,hj]
        rfl
       rw [List.getElem?_take] at this
       split at this
       ·rw [List.getElem?_drop] at this; exact this
       ·cases this
      obtain ⟨q1,q2⟩ := hcell (off + j) (by omega)
      rw [show O + off * 1 + j = O + (off + j) * 1 by omega]
      refine one (hrel _ _ hx) fun i v' hv => ?_
      simp only [World.cell?,hheap]
      exact (q2 i v' hv).2
    ·cases hl
   ·cases hl
  ·cases hl
 | _ => simp [listOf] at hl
structure Facts (w : World) : Prop where
 max : ∃ m,w.cell? ⟨5,0,none⟩ = some (.int .i64 m)
 pow : Lib.TabIs Tryz.prog w "internal/strconv.uint64pow10" .u64 Lib.pow10Tab
 spc : Lib.TabIs Tryz.prog w "strings.asciiSpace" .u8 Lib.asciiSpaceTab
theorem var_same {w w' : World} (h : ∀ k,k < 6 → w'.heap[k]? = w.heap[k]?) (nm : String) {g : Nat} (hg : Tryz.prog.globalNamed nm = some g) (hlt : g < 6) : w'.var? Tryz.prog nm = w.var? Tryz.prog nm := by
 unfold World.var?
 rw [hg]
 show (match w'.heap[g]? with | some (.cells cs _ _) => some cs | _ => none) = (match w.heap[g]? with | some (.cells cs _ _) => some cs | _ => none)
 rw [h g hlt]
theorem Facts.same {w w' : World} (h : ∀ k,k < 6 → w'.heap[k]? = w.heap[k]?) (f : Facts w) : Facts w' where
 max := by
  obtain ⟨m,hm⟩ := f.max
  exact ⟨m,by rw [cell_of_heap_eq (h 5 (by omega))]; exact hm⟩
 pow := by
  have := f.pow
  unfold Lib.TabIs at this ⊢
  rw [var_same h _ (g := 4) (by kernel_rfl) (by omega)]
  exact this
 spc := by
  have := f.spc
  unfold Lib.TabIs at this ⊢
  rw [var_same h _ (g := 2) (by kernel_rfl) (by omega)]
  exact this
theorem one_arg {G : Gh} {x : PV} {vs : Array Value} (hl : [x].length = vs.size) (hr : ∀ (i : Nat) (z : PV) (v : Value),[x][i]? = some z → vs[i]? = some v → RelV G z v) :
  ∃ v0,vs = #[v0] ∧ RelV G x v0 := by
 obtain ⟨l⟩ := vs
 match l,hl with
 | [v0],_ => exact ⟨v0,rfl,hr 0 x v0 rfl rfl⟩
theorem three_args {G : Gh} {x y z : PV} {vs : Array Value} (hl : [x,y,z].length = vs.size) (hr : ∀ (i : Nat) (u : PV) (v : Value),[x,y,z][i]? = some u → vs[i]? = some v → RelV G u v) :
  ∃ v0 v1 v2,vs = #[v0,v1,v2] ∧ RelV G x v0 ∧ RelV G y v1 ∧ RelV G z v2 := by
 obtain ⟨l⟩ := vs
 match l,hl with
 | [v0,v1,v2],_ => exact ⟨v0,v1,v2,rfl,hr 0 x v0 rfl rfl,hr 1 y v1 rfl rfl,hr 2 z v2 rfl rfl⟩
theorem below_drewN (w : World) (n : Nat) : Below w.heap.size w (w.drewN n) := ⟨rfl,rfl,rfl,Nat.le_refl _,fun _ _ => rfl⟩
theorem below_grow (w : World) (n : Nat) (os : Array Obj) : Below w.heap.size w (grow (w.drewN n) os) := by
 refine ⟨rfl,rfl,rfl,?_,fun k hk => ?_⟩
 ·show w.heap.size ≤ (w.heap ++ os).size
  simp
 ·show (w.heap ++ os)[k]? = w.heap[k]?
  rw [Array.getElem?_append_left hk]
theorem of_below {N : Base} {σ : St} {G : Gh} {w : World} {f : FuncId} {vs : Array Value} {x : PV} (hI : Inv G N σ w) (h : Calls Tryz.prog f vs w fun e w' => ∃ v,e = .returned v ∧ RelV G x v ∧ Below w.heap.size w w') :
  Calls Tryz.prog f vs w fun e w' => ∃ G' v,Inv G' N σ w' ∧ Ext G σ w G' σ w' ∧ RelV G' x v ∧ e = .returned v := by
 refine h.mono ?_
 rintro e w' ⟨v,rfl,rv,hb⟩
 obtain ⟨i1,i2⟩ := inv_below hI hb
 exact ⟨G,v,i1,i2,rv,rfl⟩
theorem ext_itoa {N : Base} {args : List PV} {σ : St} {r : PV × St} (hr : extItoa args σ = some r) {G : Gh} {w : World} {vs : Array Value} (hI : Inv G N σ w) (hl : args.length = vs.size)
  (ha : ∀ (i : Nat) (x : PV) (v : Value),args[i]? = some x → vs[i]? = some v → RelV G x v) (F : Facts w) :
  Calls Tryz.prog 79 vs w fun e w' => ∃ G' v,Inv G' N r.2 w' ∧ Ext G σ w G' r.2 w' ∧ RelV G' r.1 v ∧ e = .returned v := by
 unfold extItoa at hr
 split at hr
 ·rename_i n
  split at hr
  ·rename_i hn
   simp only [Option.some.injEq] at hr
   subst hr
   obtain ⟨v0,rfl,r0⟩ := one_arg hl ha
   rw [r0.int_inv]
   have hb := hn
   simp only [inI64,Bool.and_eq_true,decide_eq_true_eq] at hb
   refine of_below hI ((Tryz.strconv_Itoa n hb.1 hb.2 w F.pow).mono ?_)
   rintro e w' ⟨rfl,k,os,rfl⟩
   refine ⟨_,rfl,?_,below_grow _ _ _⟩
   show RelV G (.str (itoaB n)) _
   rw [itoaB_eq hn]
   exact RelV.str ⟨(Lib.itoa n).toArray⟩
  ·cases hr
 ·cases hr
theorem count_le (s sub : List UInt8) (h : 1 ≤ sub.length) : Lib.count s sub ≤ s.length + 1 := by
 have : ∀ (f : Nat) (s : List UInt8),Lib.countFrom sub f s ≤ f := by
  intro f
  induction f with
  | zero => intro s; exact Nat.le_refl _
  | succ f ih =>
   intro s
   rw [Lib.countFrom]
   split
   ·omega
   ·have := ih (s.drop ((Lib.index s sub).toNat + sub.length))
    omega
 exact this (s.length + 1) s
theorem ext_replace {N : Base} {args : List PV} {σ : St} {r : PV × St} (hr : extReplace args σ = some r) {G : Gh} {w : World} {vs : Array Value} (hI : Inv G N σ w) (hl : args.length = vs.size)
  (ha : ∀ (i : Nat) (x : PV) (v : Value),args[i]? = some x → vs[i]? = some v → RelV G x v) (F : Facts w) :
  Calls Tryz.prog 183 vs w fun e w' => ∃ G' v,Inv G' N r.2 w' ∧ Ext G σ w G' r.2 w' ∧ RelV G' r.1 v ∧ e = .returned v := by
 unfold extReplace at hr
 split at hr
 ·rename_i s t u
  split at hr
  ·rename_i hn
   obtain ⟨n1,n2,n3⟩ := hn
   simp only [Option.some.injEq] at hr
   subst hr
   obtain ⟨v0,v1,v2,rfl,r0,r1,r2⟩ := three_args hl ha
   rw [str_eq r0,str_eq r1,str_eq r2]
   obtain ⟨m,hm⟩ := F.max
   have hs1 : (⟨⟨s⟩⟩ : ByteArray).size = s.length := rfl
   have hs2 : (⟨⟨t⟩⟩ : ByteArray).size = t.length := rfl
   have hs3 : (⟨⟨u⟩⟩ : ByteArray).size = u.length := rfl
   have hc : Lib.countB ⟨⟨s⟩⟩ ⟨⟨t⟩⟩ ≤ s.length + 1 := count_le s t n2
   have hmul : Lib.countB ⟨⟨s⟩⟩ ⟨⟨t⟩⟩ * u.length ≤ 65536 * 65536 := Nat.mul_le_mul (by omega) (by omega)
   refine of_below hI ((Tryz.strings_ReplaceAll ⟨⟨s⟩⟩ ⟨⟨t⟩⟩ ⟨⟨u⟩⟩ m w (by omega) hm n2 (by rw [hs1,hs3]; omega)).mono ?_)
   rintro e w' ⟨rfl,hb⟩
   exact ⟨_,rfl,RelV.str ⟨(Lib.replaceAll s t u).toArray⟩,hb⟩
  ·cases hr
 ·cases hr
theorem ext_split {N : Base} {args : List PV} {σ : St} {r : PV × St} (hr : extSplit args σ = some r) {G : Gh} {w : World} {vs : Array Value} (hI : Inv G N σ w) (hl : args.length = vs.size)
  (ha : ∀ (i : Nat) (x : PV) (v : Value),args[i]? = some x → vs[i]? = some v → RelV G x v) (hN : N.g0.n0 = N.n) (F : Facts w) :
  Calls Tryz.prog 182 vs w fun e w' => ∃ G' v,Inv G' N r.2 w' ∧ Ext G σ w G' r.2 w' ∧ RelV G' r.1 v ∧ e = .returned v := by
 have key : ∀ (s t : List UInt8) (L : List (List UInt8)) (v0 v1 : Value),RelV G (.str s) v0 → RelV G (.str t) v1 → s.length < 4294967281 → 1 ≤ t.length → Lib.splitK t 0 (Lib.count s t) s = L →
   Calls Tryz.prog 182 #[v0,v1] w fun e w' => ∃ G' v,Inv G' N σ w' ∧ Ext G σ w G' σ w' ∧ RelV G' (.list .full (L.map .str)) v ∧ e = .returned v := by
  intro s t L v0 v1 r0 r1 hlen ht hL
  rw [str_eq r0,str_eq r1]
  obtain ⟨m,hm⟩ := F.max
  refine (Tryz.strings_Split ⟨⟨s⟩⟩ ⟨⟨t⟩⟩ m w hlen hm ht).mono ?_
  rintro e w' ⟨rfl,rfl⟩
  have hsp : (Go.Lib.splitB ⟨⟨t⟩⟩ 0 (Go.Lib.countB ⟨⟨s⟩⟩ ⟨⟨t⟩⟩) ⟨⟨s⟩⟩).map (·.data.toList) = L := (Go.Lib.splitB_data ⟨⟨t⟩⟩ 0 (Go.Lib.countB ⟨⟨s⟩⟩ ⟨⟨t⟩⟩) ⟨⟨s⟩⟩).trans hL
  have hsl : (Go.Lib.splitB ⟨⟨t⟩⟩ 0 (Go.Lib.countB ⟨⟨s⟩⟩ ⟨⟨t⟩⟩) ⟨⟨s⟩⟩).length = Go.Lib.countB ⟨⟨s⟩⟩ ⟨⟨t⟩⟩ + 1 := Go.Lib.splitB_all ⟨⟨t⟩⟩ ht 0 _ _ rfl
  generalize Go.Lib.splitB ⟨⟨t⟩⟩ 0 (Go.Lib.countB ⟨⟨s⟩⟩ ⟨⟨t⟩⟩) ⟨⟨s⟩⟩ = ps at hsp hsl
  obtain ⟨p1,p2,p3⟩ := imm_sound hI ((ps.map Value.string).toArray) 9
  have hlen' : (L.map PV.str).length = ps.length := by rw [← hsp]; simp
  have hn0 : (G.newImm w.heap.size ((ps.map Value.string).toArray)).n0 ≤ w.heap.size := by
   have h1 := hI.bas.n0
   have h2 := hI.big
   show G.n0 ≤ w.heap.size
   omega
  rw [← hsl,← hlen']
  refine ⟨_,_,p1,p2,?_,rfl⟩
  refine RelV.list .full (L.map PV.str) w.heap.size 0 1 _ (fun i => (ps.map Value.string).getD i .nilIface) (by simp) (fun _ => ⟨rfl,fun _ => hn0⟩) (Nat.le_refl _) (fun i x hx => ?_) (fun i hi => ?_)
  ·rw [← hsp,List.map_map,List.getElem?_map,Option.map_eq_some_iff] at hx
   obtain ⟨p,hp,rfl⟩ := hx
   simp only [List.getD_eq_getElem?_getD,List.getElem?_map,hp,Option.map_some,Option.getD_some]
   exact .str p
  ·rw [hlen'] at hi
   have hp : ps[i]? = some ps[i] := by simp [hi]
   simp only [List.getD_eq_getElem?_getD,List.getElem?_map,hp,Option.map_some,Option.getD_some]
   refine ⟨rfl,fun j v hj => ?_⟩
   cases j with
   | zero =>
    simp [Value.cells] at hj
    subst hj
    refine ⟨rfl,?_⟩
    simp [Gh.newImm,hp]
   | succ j => simp [Value.cells] at hj
 unfold extSplit at hr
 split at hr
 ·rename_i s c
  split at hr
  ·rename_i hlen
   simp only [Option.some.injEq] at hr
   subst hr
   obtain ⟨v0,v1,rfl,r0,r1⟩ := two_args hl ha
   exact key s [c] _ v0 v1 r0 r1 hlen (Nat.le_refl 1) (splitB_eq c s.length s (Nat.le_refl _))
  ·cases hr
 ·rename_i s t _
  split at hr
  ·rename_i hh
   simp only [Option.some.injEq] at hr
   subst hr
   obtain ⟨v0,v1,rfl,r0,r1⟩ := two_args hl ha
   exact key s t _ v0 v1 r0 r1 hh.1 hh.2 rfl
  ·cases hr
 ·cases hr
theorem ext_fields {N : Base} {args : List PV} {σ : St} {r : PV × St} (hr : extFields args σ = some r) {G : Gh} {w : World} {vs : Array Value} (hI : Inv G N σ w) (hl : args.length = vs.size)
  (ha : ∀ (i : Nat) (x : PV) (v : Value),args[i]? = some x → vs[i]? = some v → RelV G x v) (hN : N.g0.n0 = N.n) (F : Facts w) :
  Calls Tryz.prog 137 vs w fun e w' => ∃ G' v,Inv G' N r.2 w' ∧ Ext G σ w G' r.2 w' ∧ RelV G' r.1 v ∧ e = .returned v := by
 unfold extFields at hr
 split at hr
 ·rename_i s
  split at hr
  ·rename_i hh
   simp only [Option.some.injEq] at hr
   subst hr
   obtain ⟨v0,rfl,r0⟩ := one_arg hl ha
   rw [str_eq r0]
   refine (Tryz.strings_Fields ⟨⟨s⟩⟩ w hh.1 (fun j b hb => of_decide_eq_true (List.all_eq_true.1 hh.2 b (List.mem_of_getElem? hb))) F.spc).mono ?_
   rintro e w' ⟨rfl,rfl⟩
   show ∃ G' v,Inv G' N σ _ ∧ Ext G σ w G' σ _ ∧ RelV G' (.list .full ((Lib.fields s).map .str)) v ∧ _
   generalize Lib.fields s = ps
   obtain ⟨p1,p2,p3⟩ := imm_sound hI ((ps.map fun l => Value.string ⟨l.toArray⟩).toArray) 9
   have hlen' : (ps.map PV.str).length = ps.length := by simp
   have hn0 : (G.newImm w.heap.size ((ps.map fun l => Value.string ⟨l.toArray⟩).toArray)).n0 ≤ w.heap.size := by
    have h1 := hI.bas.n0
    have h2 := hI.big
    show G.n0 ≤ w.heap.size
    omega
   refine ⟨_,_,p1,p2,?_,rfl⟩
   have key := RelV.list (G := G.newImm w.heap.size ((ps.map fun l => Value.string ⟨l.toArray⟩).toArray)) .full (ps.map PV.str) w.heap.size 0 1 ps.length (fun i => (ps.map fun l => Value.string ⟨l.toArray⟩).getD i .nilIface) (by simp) (fun _ => ⟨hlen'.symm,fun _ => hn0⟩) (by rw [hlen']; exact Nat.le_refl _) (fun i x hx => ?_) (fun i hi => ?_)
   ·rw [hlen'] at key
    exact key
   ·rw [List.getElem?_map,Option.map_eq_some_iff] at hx
    obtain ⟨p,hp,rfl⟩ := hx
    simp only [List.getD_eq_getElem?_getD,List.getElem?_map,hp,Option.map_some,Option.getD_some]
    exact .str ⟨⟨p⟩⟩
   ·rw [hlen'] at hi
    have hp : ps[i]? = some ps[i] := by simp [hi]
    simp only [List.getD_eq_getElem?_getD,List.getElem?_map,hp,Option.map_some,Option.getD_some]
    refine ⟨rfl,fun j v hj => ?_⟩
    cases j with
    | zero =>
     simp [Value.cells] at hj
     subst hj
     refine ⟨rfl,?_⟩
     simp [Gh.newImm,hp]
    | succ j => simp [Value.cells] at hj
  ·cases hr
 ·cases hr
theorem ext_join {N : Base} {args : List PV} {σ : St} {r : PV × St} (hr : extJoin args σ = some r) {G : Gh} {w : World} {vs : Array Value} (hI : Inv G N σ w) (hl : args.length = vs.size)
  (ha : ∀ (i : Nat) (x : PV) (v : Value),args[i]? = some x → vs[i]? = some v → RelV G x v) :
  Calls Tryz.prog 263 vs w fun e w' => ∃ G' v,Inv G' N r.2 w' ∧ Ext G σ w G' r.2 w' ∧ RelV G' r.1 v ∧ e = .returned v := by
 unfold extJoin at hr
 split at hr
 ·rename_i l sep
  obtain ⟨v0,v1,rfl,r0,r1⟩ := two_args hl ha
  rw [(str_eq r1)]
  split at hr
  ·rename_i l' hl'
   split at hr
   ·rename_i ss hss
    split at hr
    ·rename_i hb
     simp only [Option.some.injEq] at hr
     subst hr
     rcases strs_cells hI r0 hl' hss with ⟨rfl,a,c,rfl⟩ | ⟨B,O,c,rfl,hc,hB,hcells⟩
     ·refine (Tryz.strings_Join_none a c _ w).mono ?_
      rintro e w' ⟨rfl,rfl⟩
      exact ⟨G,_,hI,.refl _ _ _,RelV.str ⟨#[]⟩,rfl⟩
     ·have hmap : (ss.map fun s => (⟨⟨s⟩⟩ : ByteArray)).map (·.data.toList) = ss := by
       rw [List.map_map]
       exact List.map_id _
      have hjoin : Go.Lib.join ((ss.map fun s => (⟨⟨s⟩⟩ : ByteArray)).map (·.data.toList)) (⟨⟨sep⟩⟩ : ByteArray).data.toList = joinB sep ss := by
       rw [hmap,joinB_eq]
      have := Tryz.strings_Join B O c (ss.map fun s => (⟨⟨s⟩⟩ : ByteArray)) ⟨⟨sep⟩⟩ w (fun j x hx => by
       rw [List.getElem?_map,Option.map_eq_some_iff] at hx
       obtain ⟨s,hs,rfl⟩ := hx
       exact hcells j s hs) hB (by simpa using hb.1) (by simpa using hc) (by rw [hjoin]; exact hb.2)
      rw [List.length_map] at this
      refine this.mono ?_
      rintro e w' ⟨rfl,hbel⟩
      obtain ⟨i1,i2⟩ := inv_below hI hbel
      refine ⟨G,_,i1,i2,?_,rfl⟩
      rw [hjoin]
      exact RelV.str ⟨(joinB sep ss).toArray⟩
    ·cases hr
   ·cases hr
  ·cases hr
 ·cases hr
theorem ext_bool {N : Base} {args : List PV} {σ : St} {r : PV × St} (hr : extBool args σ = some r) {G : Gh} {w : World} {vs : Array Value} (hI : Inv G N σ w) (hl : args.length = vs.size)
  (ha : ∀ (i : Nat) (x : PV) (v : Value),args[i]? = some x → vs[i]? = some v → RelV G x v) :
  Calls Tryz.prog 80 vs w fun e w' => ∃ G' v,Inv G' N r.2 w' ∧ Ext G σ w G' r.2 w' ∧ RelV G' r.1 v ∧ e = .returned v := by
 unfold extBool at hr
 split at hr
 ·simp only [Option.some.injEq] at hr
  subst hr
  obtain ⟨v0,rfl,r0⟩ := one_arg hl ha
  cases r0
  refine (Tryz.strconv_FormatBool true w).mono ?_
  rintro e w' ⟨rfl,rfl⟩
  exact ⟨G,_,hI,.refl _ _ _,RelV.str ⟨#[116,114,117,101]⟩,rfl⟩
 ·simp only [Option.some.injEq] at hr
  subst hr
  obtain ⟨v0,rfl,r0⟩ := one_arg hl ha
  cases r0
  refine (Tryz.strconv_FormatBool false w).mono ?_
  rintro e w' ⟨rfl,rfl⟩
  exact ⟨G,_,hI,.refl _ _ _,RelV.str ⟨#[102,97,108,115,101]⟩,rfl⟩
 ·cases hr
end Go.Proofs.YteikomnahelckaaGreatDoor
