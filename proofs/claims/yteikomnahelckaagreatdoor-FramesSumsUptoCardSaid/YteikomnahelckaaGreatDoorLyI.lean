import Derived.Test.YteikomnahelckaaGreatDoorLyH
import Derived.Test.YteikomnahelckaaGreatDoorPlJ
set_option linter.unusedVariables false
set_option linter.unusedSimpArgs false
namespace Go.Proofs.YteikomnahelckaaGreatDoor
open Go Go.Abs
section
variable {σ τ : St} {l : Tbl} {p : Nat} {D : GD} {c : Nat → Nat}
def keyRaw (l : Tbl) (c : Nat → Nat) (ms : List Nat) : List (SlotS × List Nat) := ms.map fun m => (slotOf (mAtM l m),(tgM l m).map c)
noncomputable def keyG (l : Tbl) (c : Nat → Nat) (x : Nat) : Str := keyB (keyRaw l c (nodeL l (ndG l x)))
theorem slot_in (ok : OkT l) {m : Nat} (hm : m < l.length) : SlotI (slotOf (mAtM l m)) := by
 have h := ok.plain _ (mAtM_mem hm)
 simp only [plainOk,Bool.and_eq_true] at h
 have hsh := h.1.1.1
 simp only [shapeOk,Bool.and_eq_true,decide_eq_true_eq] at hsh
 have hd := hsh.1.1.1.2
 have hz := hsh.1.1.2
 refine ⟨?_,?_,?_,rfl⟩
 ·show inI64 (kindS (mAtM l m).kind) = true
  have : 0 ≤ kindS (mAtM l m).kind ∧ kindS (mAtM l m).kind ≤ 11 := by
   unfold kindS
   split <;> omega
  exact inI64_of (by omega) (by omega)
 ·show inI64 (mAtM l m).size = true
  unfold sizeOk at hz
  split at hz
  ·simp only [Bool.and_eq_true,decide_eq_true_eq] at hz
   exact inI64_of (by omega) (by omega)
  ·have : (mAtM l m).size = 0 := by simpa using hz
   rw [this]; rfl
 ·show inI64 (mAtM l m).dims = true
  unfold dimsOk at hd
  split at hd
  ·simp only [Bool.and_eq_true,decide_eq_true_eq] at hd
   exact inI64_of (by omega) (by omega)
  ·have : (mAtM l m).dims = 0 := by simpa using hd
   rw [this]; rfl
theorem keyG_iff (ok : OkT l) (hsm : ∀ x,c x < 9223372036854775808) {x y : Nat} (hx : x < (gN l).length) (hy : y < (gN l).length) : keyG l c x = keyG l c y ↔ keyRaw l c (nodeL l (ndG l x)) = keyRaw l c (nodeL l (ndG l y)) := by
 have hw : ∀ z,z < (gN l).length → ∀ r ∈ keyRaw l c (nodeL l (ndG l z)),SlotI r.1 ∧ smallC r.2 := by
  intro z hz r hr
  obtain ⟨m,hm,rfl⟩ := List.mem_map.1 hr
  refine ⟨slot_in ok (node_mem_g ok (ndG_mem hz) m hm).1,fun t ht => ?_⟩
  obtain ⟨u,_,rfl⟩ := List.mem_map.1 ht
  exact hsm u
 exact ⟨fun h => keyB_inj (hw x hx) (hw y hy) h,fun h => by unfold keyG; rw [h]⟩
theorem keyG_cod (ok : OkT l) (hsm : ∀ x,c x < 9223372036854775808) {r : Nat} (hc : ∀ x y,x < (gN l).length → y < (gN l).length → (c x = c y ↔ cod (ndT l) r (ndG l x) = cod (ndT l) r (ndG l y))) {x y : Nat} (hx : x < (gN l).length) (hy : y < (gN l).length) :
  keyG l c x = keyG l c y ↔ cod (ndT l) (r + 1) (ndG l x) = cod (ndT l) (r + 1) (ndG l y) := by
 rw [keyG_iff ok hsm hx hy,cod_eq]
 let nd' : Nds := fun x => (nodeL l (ndG l x)).map fun m => (slotOf (mAtM l m),tgM l m)
 have e1 : ∀ z,keyRaw l c (nodeL l (ndG l z)) = kyF nd' c z := fun z => by
  unfold keyRaw kyF
  rw [List.map_map]
  rfl
 have e2 : ∀ z,z < (gN l).length → kyF (ndT l) (cod (ndT l) r) (ndG l z) = kyF nd' (fun g => cod (ndT l) r (ndG l g)) z := fun z hz => by
  unfold kyF ndT
  rw [List.map_map,List.map_map]
  refine List.map_congr_left fun m hm => ?_
  have := tgM_nd ok (node_mem_g ok (ndG_mem hz) m hm).1
  simp only [Function.comp]
  rw [← this,List.map_map]
  rfl
 rw [e1,e1,e2 x hx,e2 y hy]
 have hD : ∀ z,z < (gN l).length → ∀ r ∈ nd' z,∀ t ∈ r.2,t < (gN l).length := by
  intro z hz r hr t ht
  obtain ⟨m,hm,rfl⟩ := List.mem_map.1 hr
  exact tgM_lt ok (node_mem_g ok (ndG_mem hz) m hm).1 t ht
 constructor
 ·exact kyF_mono_on (D := fun t => t < (gN l).length) (fun a b ha hb h => (hc a b ha hb).1 h) (hD x hx) (hD y hy)
 ·exact kyF_mono_on (D := fun t => t < (gN l).length) (fun a b ha hb h => (hc a b ha hb).2 h) (hD x hx) (hD y hy)
theorem slotB_len (s : SlotS) (cs : List Nat) (h : cs.length ≤ 64) : (slotB s cs).length ≤ 2000 := by
 have h1 := itoa_len s.kind
 have h2 := itoa_len s.size
 have h3 := itoa_len s.dims
 have h4 : (boolB s.flex).length ≤ 5 := by cases s.flex <;> decide
 have h5 : (cs.flatMap (fun c : Nat => 58 :: itoaB (c : Int))).length ≤ 22 * cs.length := by
  clear h
  induction cs with
  | nil => simp
  | cons a cs ih =>
   rw [List.flatMap_cons,List.length_append,List.length_cons,List.length_cons]
   have := itoa_len (a : Int)
   omega
 unfold slotB
 simp only [List.length_append,List.length_cons,List.length_nil]
 omega
theorem _root_.Go.Abs.IsG.index {σ : St} {s : Sl5} (h : IsG σ s) {i : Nat} (hi : i < s.xs.length) : ∃ b g,s.o = some b ∧ σ[b]? = some (.arr g s.sz s.xs) ∧ ∀ k,vIndex s.sz s.v (.int k i) = some (.ptr b g i 0) := by
 rcases h with ⟨_,_,h3⟩ | ⟨b,g,h1,h2,h3,h4⟩
 ·rw [h3] at hi; simp at hi
 ·refine ⟨b,g,h1,h3,fun k => ?_⟩
  rw [h2]
  simp only [vIndex]
  rw [if_pos ⟨by omega,by omega,trivial⟩]
  simp
def GrpV (l : Tbl) (c : Nat → Nat) (gs : List PV) : Prop := gs.length = (gN l).length ∧ ∀ x,x < (gN l).length → ∃ k,gs[x]? = some (.agg [.list k ((nodeL l (ndG l x)).map (pvSlG l)),pvN (c x)]) ∧ (nodeL l (ndG l x)).length ≤ 1000
theorem GrpV.flat {gs : List PV} (h : GrpV l c gs) : ∀ v ∈ gs,Flat v := by
 intro v hv
 obtain ⟨i,hi⟩ := List.getElem?_of_mem hv
 have hil := (List.getElem?_eq_some_iff.1 hi).1
 obtain ⟨k,hk,_⟩ := h.2 i (by have := h.1; omega)
 rw [hi] at hk
 cases hk
 refine .agg _ fun y hy => ?_
 simp only [List.mem_cons,List.not_mem_nil,or_false] at hy
 rcases hy with rfl | rfl
 ·refine .list _ _ fun z hz => ?_
  obtain ⟨m,_,rfl⟩ := List.mem_map.1 hz
  exact flat_slG l m
 ·exact .int _ _
theorem slot_text (s : SlotS) (cs : List Nat) (bs : Str) : bs ++ (itoaB s.kind ++ [44] ++ itoaB s.size ++ [44] ++ itoaB s.dims ++ [44] ++ boolB s.flex) ++ (cs.flatMap fun c : Nat => 58 :: itoaB (c : Int)) ++ [59] = bs ++ slotB s cs := by
 unfold slotB
 simp only [List.append_assoc,List.cons_append,List.nil_append]
structure GF (σ : St) (og : Option Nat) (σ' : St) (p : Nat) : Prop where
 len : σ.length + 1 ≤ σ'.length
 frm : ∀ b,b < σ.length → og ≠ some b → σ'[b]? = σ[b]?
 box : σ'[σ.length]? = some (.arr 0 1 [.ptr p 0 0 0])
theorem GF.pre {og : Option Nat} {σ' σ'' : St} (h : GF σ og σ' p) (hp : σ' <+: σ'') : GF σ og σ'' p := by
 refine ⟨Nat.le_trans h.len hp.length_le,fun b hb ho => ?_,get_pre hp h.box⟩
 rw [← h.frm b hb ho]
 obtain ⟨t,rfl⟩ := hp
 exact List.getElem?_append_left (by have := h.len; omega)
theorem GF.set {og : Option Nat} {σ' : St} (h : GF σ og σ' p) {b : Nat} (hb : σ.length < b) (k : Blk) : GF σ og (σ'.set b k) p := by
 refine ⟨by simpa using h.len,fun a ha ho => ?_,?_⟩
 ·rw [List.getElem?_set_ne (by omega)]; exact h.frm a ha ho
 ·rw [List.getElem?_set_ne (by omega)]; exact h.box
set_option maxRecDepth 100000 in
theorem c31 {og : Option Nat} (G : GS σ l p D fun _ => 0) (ok : OkT l) (hl512 : l.length ≤ 512) (hg : IsG σ ⟨og,2,D.gv,D.gs⟩) (hop : og ≠ some p ∧ og ≠ some D.pm ∧ og ≠ some D.qm) {R : Res → St → Prop}
  (hR : ∀ c gs σ',σ'.length = σ.length → (∀ b,b < σ.length → og ≠ some b → σ'[b]? = σ[b]?) → IsG σ' ⟨og,2,D.gv,gs⟩ → GrpV l c gs → (∀ x,c x ≤ 1024) → (∀ x y,x < (gN l).length → y < (gN l).length → (c x = c y ↔ repT l (ndG l x) = repT l (ndG l y))) → R (.ret (.tuple [])) σ') :
  W 31 [.ptr p 0 0 0] σ R := by
 refine callW_fold ?_
 rw [fn31_eq]
 delta fn31 bF pF lF kF nI nL
 simp only [ptr_box,Nat.zero_lt_one,newW_eq,if_true,zz,Nat.reduceEqDiff]
 have hpl : p < σ.length := blk_lt G.lay
 have hGl : (gN l).length ≤ 1024 := by rw [gN_len]; have := procs_len l; omega
 have hogl : ∀ b,og = some b → b < σ.length := fun b hb => hg.id hb
 have hnl : vNil (.ptr p 0 0 0) = some (.ptr p 0 0 0) := rfl
 refine Lfp_down (fun μ x σ' => ∃ (r : Nat) (c : Nat → Nat) (n : Nat) (gs : List PV),x = lookP [(1,.ptr σ.length 0 0 0),(2,pvN n)] ∧ GF σ og σ' p ∧ IsG σ' ⟨og,2,D.gv,gs⟩ ∧ GrpV l c gs ∧ (∀ x,c x ≤ 1024) ∧
   (∀ x y,x < (gN l).length → y < (gN l).length → (c x = c y ↔ cod (ndT l) r (ndG l x) = cod (ndT l) r (ndG l y))) ∧ (r = 0 ∧ n = 0 ∨ 1 ≤ r ∧ n = cntCl (cod (ndT l) r) (ndG l) (gN l).length) ∧ μ = (gN l).length - n) ?_ ((gN l).length)
  ⟨0,fun _ => 0,0,D.gs,rfl,⟨by simp,fun b hb _ => List.getElem?_append_left hb,by simp⟩,hg.to (fun b hb => List.getElem?_append_left (hogl b hb)),⟨G.len,G.grp⟩,fun _ => Nat.zero_le _,fun _ _ _ _ => ⟨fun _ => rfl,fun _ => rfl⟩,.inl ⟨rfl,rfl⟩,rfl⟩
 rintro Φ μ x σ5 ⟨r,c,n,gs,rfl,hF,hI,hV,hcs,hcc,hrn,rfl⟩ next hw
 have hsm : ∀ x,c x < 9223372036854775808 := fun x => by have := hcs x; omega
 
 have mkG : ∀ {σ' : St} {gs' : List PV} {c' : Nat → Nat},GF σ og σ' p → IsG σ' ⟨og,2,D.gv,gs'⟩ → GrpV l c' gs' → GS σ' l p { D with gs := gs' } c' := fun hF hI hV =>
  ⟨by rw [hF.frm p hpl hop.1]; exact G.lay,G.tab,hI.elems,hV.1,hV.2,by rw [hF.frm _ (blk_lt G.pm) hop.2.1]; exact G.pm,by rw [hF.frm _ (blk_lt G.qm) hop.2.2]; exact G.qm⟩
 have l1 : ∀ {σ' : St},GF σ og σ' p → vLoad false 1 (.ptr σ.length 0 0 0) σ' = some (.ptr p 0 0 0) := fun hF => load_cell hF.box rfl rfl
 have h1 : ∀ {σ' : St},GF σ og σ' p → vLoad false 1 (.ptr p 0 0 1) σ' = some D.gv := fun hF => by
  have : _ = _ := hF.frm p hpl hop.1
  simp only [vLoad,this,G.lay,if_true]
  rfl
 have hln := hI.len
 simp only [hV.1] at hln
 have F6 : GF σ og (σ5 ++ [Blk.map 0 []]) p := hF.pre (List.prefix_append _ _)
 have mk : vMakeSl 1 8 (.int .i64 0) (.int .i64 ((gN l).length : Int)) (.int .i64 ((gN l).length : Int)) (σ5 ++ [Blk.map 0 []]) = some (.sref (σ5.length + 1) 0 1 0 (gN l).length,σ5 ++ [Blk.map 0 [],.arr 0 1 (List.replicate (gN l).length (.int .i64 0))]) := by
  simp only [vMakeSl]
  have hr : roomy (((gN l).length : Int).toNat) 8 = true := by simp [roomy]; omega
  rw [if_pos ⟨by omega,trivial,hr⟩]
  have hvb : vBox 1 (.int .i64 0) = some (.int .i64 0) := rfl
  simp only [hvb]
  simp
 have F7 : GF σ og (σ5 ++ [Blk.map 0 [],.arr 0 1 (List.replicate (gN l).length (.int .i64 0))]) p := hF.pre (List.prefix_append _ _)
 simp only [newMapW,zz,Nat.reduceEqDiff]
 simp only [l1 F6,hnl,h1 F6,hln,mk,l1 F7,h1 F7,zz,Nat.reduceEqDiff]
 generalize hkey : keyG l c = key
 have hkeyx : ∀ x,key x = keyB (keyRaw l c (nodeL l (ndG l x))) := fun x => by rw [← hkey]; rfl
 have hmN : σ.length < σ5.length := by have := hF.len; omega
 generalize hGn : (gN l).length = Gn at *
 refine Lfp_upW Gn (fun i x σ' => ∃ (ver : Nat) (nv : List PV),x = lookP [(1,.ptr σ.length 0 0 0),(2,pvN n),(3,.mref σ5.length),(4,.sref (σ5.length + 1) 0 1 0 Gn),(24,D.gv),(25,.int .i64 (Gn : Int)),(26,.int .i64 (i : Int))] ∧ GF σ og σ' p ∧ IsG σ' ⟨og,2,D.gv,gs⟩ ∧
   σ'[σ5.length]? = some (.map ver (namE (nubR key i))) ∧ σ'[σ5.length + 1]? = some (.arr 0 1 nv) ∧ nv.length = Gn ∧ (∀ v ∈ nv,∃ q,v = .int .i64 q) ∧ ∀ j,j < i → nv[j]? = some (pvN ((nubR key i).idxOf (key j)))) ?_
  ⟨0,List.replicate Gn (.int .i64 0),rfl,F7,hI.to (fun b hb => List.getElem?_append_left (by have := hogl b hb; have := hF.len; omega)),by simp [nubR,namE],by simp,by simp,fun v hv => ⟨0,List.eq_of_mem_replicate hv⟩,fun j hj => absurd hj (by omega)⟩
 rintro Φ1 i x σ' hi ⟨ver,nv,rfl,hF1,hI1,hmap,hnx,hnvl,hnvi,hnv⟩ next1 hw1
 simp only [zz,Nat.reduceEqDiff]
 by_cases hlt : i < Gn
 ·obtain ⟨k,hk,hk1000⟩ := hV.2 i (by omega)
  obtain ⟨a,ha1,ha2,_⟩ := hI1.elems.at_ (i := i) (k := .i64) hk rfl rfl
  simp only at ha1
  have hputg : ∀ a b : PV,vPut 2 (.agg [(.list .nil []),(.int .i64 0)]) 0 (.agg [a,b]) = some (.agg [a,b]) := fun a b => rfl
  have hp0 : ∀ a b : PV,vPart false 1 (.agg [a,b]) 0 = some a := fun a b => rfl
  simp only [hlt,ha1,ha2,hputg,hp0,newT_eq,List.length_map,zz,Nat.reduceEqDiff]
  have hlm := node_mem_g ok (ndG_mem (by omega : i < (gN l).length))
  have hki := hkeyx i
  generalize hnd : nodeL l (ndG l i) = nd at hk hk1000 hlm hki ⊢
  refine Lfp_up nd.length (fun j x σ2 => ∃ bs,x = lookP [(1,.ptr σ.length 0 0 0),(2,pvN n),(3,.mref σ5.length),(4,.sref (σ5.length + 1) 0 1 0 Gn),(5,.int .i64 (i : Int)),(7,.ptr σ'.length 533 0 0),(24,D.gv),(25,.int .i64 (Gn : Int)),(26,.int .i64 (i : Int)),(32,.list k (nd.map (pvSlG l))),(33,.int .i64 nd.length),(34,.int .i64 (j : Int))] ∧
    Bld σ' σ2 σ'.length bs ∧ bs = keyB (keyRaw l c (nd.take j)) ∧ bs.length ≤ 2000 * j) ?_ ⟨[],rfl,Bld.mk σ',rfl,by simp⟩
  rintro Φ2 j x σ2 hj ⟨bs,rfl,hB,hbs,hbl⟩ next2
  have hpre2 : σ' <+: σ2 := by
   obtain ⟨a,buf,_,h⟩ := hB
   exact h.pre
  simp only [zz,Nat.reduceEqDiff]
  by_cases hltj : j < nd.length
  ·have hc : nd[j]? = some nd[j] := by simp [hltj]
   have hqm : nd[j] ∈ nd := by simp
   generalize nd[j] = m at hc hqm
   have hm := (hlm m hqm).1
   have hix : vIndex 6 (.list k (nd.map (pvSlG l))) (.int .i64 (j : Int)) = some (.eptr (pvSlG l m) 0) := vIndex_list .i64 (by rw [List.getElem?_map,hc]; rfl) rfl rfl
   have hpt : vPart true 6 (pvSlG l m) 0 = some (pvSlG l m) := rfl
   have hput : vPut 6 (.agg [(.int .i64 0),(.int .i64 0),(.int .i64 0),(.int .i64 0),(.bool false),(.int .i64 0)]) 0 (pvSlG l m) = some (pvSlG l m) := rfl
   have s0 : vPart false 1 (pvSlG l m) 0 = some (.int .i64 (slotOf (mAtM l m)).kind) := rfl
   have s1 : vPart false 1 (pvSlG l m) 1 = some (.int .i64 (slotOf (mAtM l m)).size) := rfl
   have s3 : vPart false 1 (pvSlG l m) 3 = some (.int .i64 (slotOf (mAtM l m)).dims) := rfl
   have s4 : vPart false 1 (pvSlG l m) 4 = some (.bool (slotOf (mAtM l m)).flex) := rfl
   have hSI := slot_in ok hm
   have k1 := itoa_len (slotOf (mAtM l m)).kind
   have k2 := itoa_len (slotOf (mAtM l m)).size
   have k3 := itoa_len (slotOf (mAtM l m)).dims
   have k4 : (boolB (slotOf (mAtM l m)).flex).length ≤ 5 := by cases (slotOf (mAtM l m)).flex <;> decide
   have ad : ∀ a b : Str,a.length ≤ 1000 → b.length ≤ 1000 → vBin none .add (.str a) (.str b) = some (.str (a ++ b)) := fun a b h1 h2 => vBin_add_str none (by omega)
   simp only [hltj,hix,hpt,hput,s0,s1,s3,s4,zz,Nat.reduceEqDiff]
   refine (c79 hSI.k _).callB ?_
   rw [ad _ _ (by omega) (by simp)]
   simp only [zz]
   refine (c79 hSI.z _).callB ?_
   rw [ad _ _ (by simp only [List.length_append,List.length_cons,List.length_nil]; omega) (by omega)]
   simp only [zz]
   rw [ad _ _ (by simp only [List.length_append,List.length_cons,List.length_nil]; omega) (by simp)]
   simp only [zz]
   refine (c79 hSI.d _).callB ?_
   rw [ad _ _ (by simp only [List.length_append,List.length_cons,List.length_nil]; omega) (by omega)]
   simp only [zz]
   rw [ad _ _ (by simp only [List.length_append,List.length_cons,List.length_nil]; omega) (by simp)]
   simp only [zz]
   refine (c80 _ _).callB ?_
   rw [ad _ _ (by simp only [List.length_append,List.length_cons,List.length_nil]; omega) (by omega)]
   simp only [zz]
   refine c78 hB (by simp only [List.length_append,List.length_cons,List.length_nil]; omega) fun σ3 hB3 => ?_
   have hpre3 : σ' <+: σ3 := by
    obtain ⟨a,buf,_,h⟩ := hB3
    exact h.pre
   show bindO False _ _
   simp only [l1 (hF1.pre hpre3),hpt,zz,Nat.reduceEqDiff]
   have htl := tgM_len ok hm
   refine c81 (mkG hF1 hI1 hV) ok hsm hB3 hF1.box hm (by simp only [List.length_append,List.length_cons,List.length_nil]; omega) fun v σ4 hB4 => ?_
   show callB W 78 _ _ _ _
   have e5 : ((tgM l m).flatMap fun g => 58 :: itoaB (c g : Int)) = ((tgM l m).map c).flatMap fun t : Nat => 58 :: itoaB (t : Int) := by rw [List.flatMap_map]
   have hb5 : (((tgM l m).map c).flatMap fun t : Nat => 58 :: itoaB (t : Int)).length ≤ 2000 := by
    have := slotB_len (slotOf (mAtM l m)) ((tgM l m).map c) (by simpa using htl)
    unfold slotB at this
    simp only [List.length_append,List.length_cons,List.length_nil] at this
    omega
   rw [e5] at hB4
   refine c78 hB4 (by simp only [List.length_append,List.length_cons,List.length_nil]; omega) fun σ6 hB6 => ?_
   show bindO False _ _
   rw [vBin_add _ (by omega) (by omega)]
   simp only [zz,Nat.reduceEqDiff]
   rw [slot_text] at hB6
   refine next2 _ _ hltj ⟨_,rfl,hB6,?_,?_⟩
   ·rw [List.take_add_one,hc,hbs]
    simp [keyRaw,keyB]
   ·have := slotB_len (slotOf (mAtM l m)) ((tgM l m).map c) (by simpa using htl)
    simp only [List.length_append]
    omega
  ·obtain rfl : j = nd.length := by omega
   rw [List.take_length,← hki] at hbs
   simp only [hltj,zz,Nat.reduceEqDiff]
   refine c83 hB (by omega) fun σ3 hpre3 => ?_
   rw [hbs]
   show bindO False _ _
   have hF3 := hF1.pre hpre3
   have hI3 : IsG σ3 ⟨og,2,D.gv,gs⟩ := hI1.to fun b hb => by
    obtain ⟨t,rfl⟩ := hpre3
    exact List.getElem?_append_left (by have := hogl b hb; have := hF1.len; omega)
   have hmap3 := get_pre hpre3 hmap
   have hnx3 := get_pre hpre3 hnx
   have hkk : ∀ s : Str,isKey .str (.str s) = true := fun _ => rfl
   have hnix : vIndex 1 (.sref (σ5.length + 1) 0 1 0 Gn) (.int .i64 (i : Int)) = some (.ptr (σ5.length + 1) 0 i 0) := by
    simp only [vIndex]
    rw [if_pos ⟨by omega,by omega,trivial⟩]
    simp
   have hni : nv[i]? = some (nv[i]'(by omega)) := by simp
   have hnim : (nv[i]'(by omega)) ∈ nv := by simp
   generalize (nv[i]'(by omega)) = v0 at hni hnim
   obtain ⟨q0,rfl⟩ := hnvi v0 hnim
   have hst : ∀ (S : St) (q : Nat),S[σ5.length + 1]? = some (.arr 0 1 nv) → vStore 1 (.ptr (σ5.length + 1) 0 i 0) (.int .i64 (q : Nat)) S = some (S.set (σ5.length + 1) (.arr 0 1 (nv.set i (.int .i64 (q : Nat))))) := by
    intro S q hS
    have hw1 : vPut 1 (.int .i64 q0) 0 (.int .i64 (q : Nat)) = some (.int .i64 (q : Nat)) := rfl
    simp only [vStore,hS,if_true,hni,hw1]
   have hnvi' : ∀ q : Nat,∀ v ∈ nv.set i (.int .i64 (q : Nat)),∃ q,v = .int .i64 q := fun q v hv => by
    rcases List.mem_or_eq_of_mem_set hv with hv | rfl
    ·exact hnvi v hv
    ·exact ⟨_,rfl⟩
   have hnv' : ∀ j,j < i + 1 → (nv.set i (.int .i64 ((nubR key (i + 1)).idxOf (key i) : Nat)))[j]? = some (pvN ((nubR key (i + 1)).idxOf (key j))) := fun j hj => by
    by_cases hji : j = i
    ·subst hji
     rw [List.getElem?_set_self (by omega)]
     rfl
    ·rw [List.getElem?_set_ne (Ne.symm hji),hnv j (by omega),nubR_idx (by omega)]
   have hs2 := nubR_succ key i
   unfold addK at hs2
   have hf := nam_find (nubR key i) (key i)
   by_cases hm : key i ∈ nubR key i
   ·rw [if_pos hm] at hs2 hf
    have hlk : ∀ ok : Bool,vLookup .str (.int .i64 0) ok (.mref σ5.length) (.str (key i)) σ3 = some (if ok then .tuple [.int .i64 ((nubR key i).idxOf (key i) : Nat),.bool true] else .int .i64 ((nubR key i).idxOf (key i) : Nat)) := fun ok => by
     simp only [vLookup,hmap3,hkk,if_true,hf]
    rw [hs2] at hnv'
    simp only [hlk,if_true,Bool.false_eq_true,if_false,hnix,hst σ3 _ hnx3,zz,Nat.reduceEqDiff]
    rw [vBin_add _ (by omega) (by omega)]
    simp only [zz,Nat.reduceEqDiff]
    refine next1 _ _ hlt ⟨ver,_,rfl,hF3.set (by omega) _,hI3.to (fun b hb => List.getElem?_set_ne (by have := hogl b hb; omega)),?_,List.getElem?_set_self (blk_lt hnx3),by simpa using hnvl,hnvi' _,fun j hj => ?_⟩
    ·rw [List.getElem?_set_ne (by omega),hs2]
     exact hmap3
    ·rw [hs2]
     exact hnv' j hj
   ·rw [if_neg hm] at hs2 hf
    have hlk : vLookup .str (.int .i64 0) true (.mref σ5.length) (.str (key i)) σ3 = some (.tuple [.int .i64 0,.bool false]) := by
     simp only [vLookup,hmap3,hkk,if_true,hf]
    have hlen : vLen .map (.mref σ5.length) σ3 = some (.int .i64 ((nubR key i).length : Nat)) := by
     simp only [vLen,hmap3]
     unfold namE
     simp
    have hms : vMapSet .str (.mref σ5.length) (.str (key i)) (.int .i64 ((nubR key i).length : Nat)) σ3 = some (σ3.set σ5.length (.map (ver + 1) (namE (nubR key (i + 1))))) := by
     simp only [vMapSet,hmap3,hkk,if_true,hf]
     rw [hs2,namE_add]
    have hmapn : (σ3.set σ5.length (.map (ver + 1) (namE (nubR key (i + 1)))))[σ5.length]? = some (.map (ver + 1) (namE (nubR key (i + 1)))) := List.getElem?_set_self (blk_lt hmap3)
    have hf2 := nam_find (nubR key (i + 1)) (key i)
    rw [if_pos (mem_nubR.2 ⟨i,by omega,rfl⟩)] at hf2
    have hlk2 : vLookup .str (.int .i64 0) false (.mref σ5.length) (.str (key i)) (σ3.set σ5.length (.map (ver + 1) (namE (nubR key (i + 1))))) = some (.int .i64 ((nubR key (i + 1)).idxOf (key i) : Nat)) := by
     simp only [vLookup,hmapn,hkk,if_true,hf2]
     rfl
    have hnx4 : (σ3.set σ5.length (.map (ver + 1) (namE (nubR key (i + 1)))))[σ5.length + 1]? = some (.arr 0 1 nv) := by rw [List.getElem?_set_ne (by omega)]; exact hnx3
    simp only [hlk,hlen,hms,hlk2,hnix,hst _ _ hnx4,zz,Nat.reduceEqDiff]
    rw [vBin_add _ (by omega) (by omega)]
    simp only [zz,Nat.reduceEqDiff]
    refine next1 _ _ hlt ⟨ver + 1,_,rfl,(hF3.set (by omega) _).set (by omega) _,?_,?_,List.getElem?_set_self (blk_lt hnx4),by simpa using hnvl,hnvi' _,hnv'⟩
    ·refine hI3.to fun b hb => ?_
     have := hogl b hb
     rw [List.getElem?_set_ne (by omega),List.getElem?_set_ne (by omega)]
    ·rw [List.getElem?_set_ne (by omega)]
     exact hmapn
 ·obtain rfl : i = Gn := by omega
  simp only [hlt,l1 hF1,hnl,h1 hF1,hln,zz,Nat.reduceEqDiff]
  generalize hcl : (fun x => (nubR key i).idxOf (key x)) = c'
  have hclx : ∀ x,c' x = (nubR key i).idxOf (key x) := fun x => by rw [← hcl]
  have hc's : ∀ x,c' x ≤ 1024 := fun x => by
   rw [hclx]
   have h1 := List.idxOf_le_length (l := nubR key i) (a := key x)
   have h2 := nubR_le key i
   omega
  have hkc : ∀ x y,x < i → y < i → (key x = key y ↔ cod (ndT l) (r + 1) (ndG l x) = cod (ndT l) (r + 1) (ndG l y)) := fun x y hx hy => by
   rw [← hkey]
   exact keyG_cod ok hsm (fun x y hx hy => hcc x y (by omega) (by omega)) (by omega) (by omega)
  have hc'c : ∀ x y,x < i → y < i → (c' x = c' y ↔ cod (ndT l) (r + 1) (ndG l x) = cod (ndT l) (r + 1) (ndG l y)) := fun x y hx hy => by
   rw [hclx,hclx,idx_eq_iff hx hy,hkc x y hx hy]
  have hcnt : (nubR key i).length = cntCl (cod (ndT l) (r + 1)) (ndG l) i := nubR_cnt fun x y hx hy => hkc x y hx hy
  have hcl' : cntCl (cod (ndT l) (r + 1)) (ndG l) i ≤ i := by rw [← hcnt]; exact nubR_le key i
  refine Lfp_upW i (fun j x σ3 => ∃ gs3,x = lookP [(1,.ptr σ.length 0 0 0),(2,pvN n),(3,.mref σ5.length),(4,.sref (σ5.length + 1) 0 1 0 i),(91,.int .i64 (i : Int)),(92,.int .i64 (j : Int))] ∧ GF σ og σ3 p ∧ IsG σ3 ⟨og,2,D.gv,gs3⟩ ∧ GrpV l (fun x => if x < j then c' x else c x) gs3 ∧
    σ3[σ5.length]? = some (.map ver (namE (nubR key i))) ∧ σ3[σ5.length + 1]? = some (.arr 0 1 nv)) ?_
   ⟨gs,rfl,hF1,hI1,by simpa using hV,hmap,hnx⟩
  rintro Φ2 j x σ3 hj ⟨gs3,rfl,hF3,hI3,hV3,hmap3,hnx3⟩ next2 hw2
  simp only [zz,Nat.reduceEqDiff]
  by_cases hltj : j < i
  ·have hnix : vIndex 1 (.sref (σ5.length + 1) 0 1 0 i) (.int .i64 (j : Int)) = some (.ptr (σ5.length + 1) 0 j 0) := by
    simp only [vIndex]
    rw [if_pos ⟨by omega,by omega,trivial⟩]
    simp
   have hnl2 : vLoad false 1 (.ptr (σ5.length + 1) 0 j 0) σ3 = some (pvN (c' j)) := by
    simp only [vLoad,hnx3,if_true,hnv j hltj]
    rw [hclx]
    rfl
   have hl3 : gs3.length = i := by have := hV3.1; omega
   obtain ⟨b,g,hb1,hb2,hb3⟩ := hI3.index (i := j) (by simp only; omega)
   simp only at hb1 hb2 hb3
   obtain ⟨k,hk,hk1000⟩ := hV3.2 j (by omega)
   have hst : vStore 1 (.ptr b g j 1) (pvN (c' j)) σ3 = some (σ3.set b (.arr g 2 (gs3.set j (.agg [.list k ((nodeL l (ndG l j)).map (pvSlG l)),pvN (c' j)])))) := by
    have hpu : vPut 1 (.agg [.list k ((nodeL l (ndG l j)).map (pvSlG l)),pvN (if j < j then c' j else c j)]) 1 (pvN (c' j)) = some (.agg [.list k ((nodeL l (ndG l j)).map (pvSlG l)),pvN (c' j)]) := vPut_snd rfl
    simp only [vStore,hb2,if_true,hk,hpu]
   simp only [hltj,l1 hF3,hnl,h1 hF3,hnix,hnl2,hb3,hst,zz,Nat.reduceEqDiff]
   rw [vBin_add _ (by omega) (by omega)]
   simp only [zz,Nat.reduceEqDiff]
   have hbl := hogl b hb1
   refine next2 _ _ hltj ⟨gs3.set j (.agg [.list k ((nodeL l (ndG l j)).map (pvSlG l)),pvN (c' j)]),rfl,⟨by simpa using hF3.len,fun a ha hoa => ?_,?_⟩,?_,⟨by simpa using hV3.1,fun x hx => ?_⟩,?_,?_⟩
   ·rw [List.getElem?_set_ne (fun e : b = a => hoa (e ▸ hb1))]
    exact hF3.frm a ha hoa
   ·rw [List.getElem?_set_ne (by omega)]
    exact hF3.box
   ·rcases hI3 with ⟨h1,_,_⟩ | ⟨b',g',h1,h2,h3,h4⟩
    ·simp only at h1
     rw [h1] at hb1
     cases hb1
    ·simp only at h1 h2 h3 h4
     rw [hb1] at h1
     cases h1
     rw [hb2] at h3
     cases h3
     refine .inr ⟨b,_,hb1,by simp only [List.length_set]; exact h2,List.getElem?_set_self (blk_lt hb2),?_⟩
     intro hn
     have := congrArg List.length hn
     simp at this
     exact h4 this
   ·by_cases hxj : x = j
    ·subst hxj
     refine ⟨k,?_,hk1000⟩
     rw [List.getElem?_set_self (by omega)]
     have : x < x + 1 := by omega
     simp only [this,if_true]
    ·obtain ⟨k2,hk2,hl2⟩ := hV3.2 x hx
     refine ⟨k2,?_,hl2⟩
     rw [List.getElem?_set_ne (Ne.symm hxj),hk2]
     have : (x < j + 1) = (x < j) := by
      apply propext
      omega
     simp only [this]
   ·rw [List.getElem?_set_ne (by omega)]
    exact hmap3
   ·rw [List.getElem?_set_ne (by omega)]
    exact hnx3
  ·obtain rfl : j = i := by omega
   have hlen : vLen .map (.mref σ5.length) σ3 = some (.int .i64 ((nubR key j).length : Nat)) := by
    simp only [vLen,hmap3]
    unfold namE
    simp
   have hV4 : GrpV l c' gs3 := ⟨hV3.1,fun x hx => by
    obtain ⟨k2,hk2,hl2⟩ := hV3.2 x hx
    refine ⟨k2,?_,hl2⟩
    rw [hk2]
    have : x < j := by omega
    simp only [this,if_true]⟩
   have heq : vBin none .eql (.int .i64 ((nubR key j).length : Nat)) (pvN n) = some (.bool (decide ((nubR key j).length = n))) := by
    unfold pvN pvI
    simp only [zz]
    congr 2
    by_cases h : (nubR key j).length = n
    ·rw [h]; simp
    ·rw [decide_eq_false h]
     exact beq_eq_false_iff_ne.2 (by omega)
   simp only [hltj,hlen,heq,zz,Nat.reduceEqDiff]
   refine condB (fun h => ?_) (fun h => ?_)
   ·have hn : (nubR key j).length = n := of_decide_eq_true h
    
    have halk : ∀ x y,x < j → y < j → (c' x = c' y ↔ repT l (ndG l x) = repT l (ndG l y)) := by
     intro x y hx hy
     rw [hc'c x y hx hy]
     have hst : ∀ a b,(∃ i,i < j ∧ a = ndG l i) → (∃ i,i < j ∧ b = ndG l i) → cod (ndT l) r a = cod (ndT l) r b → cod (ndT l) (r + 1) a = cod (ndT l) (r + 1) b := by
      rintro a b ⟨u,hu,rfl⟩ ⟨v,hv,rfl⟩ hab
      rcases hrn with ⟨rfl,rfl⟩ | ⟨_,rfl⟩
      ·exfalso
       have hz : (nubR key j).length = 0 := hn
       have hm : key u ∈ nubR key j := mem_nubR.2 ⟨u,hu,rfl⟩
       rw [List.eq_nil_of_length_eq_zero hz] at hm
       cases hm
      ·exact cnt_same (fun a b => cod_fine r a b) (by rw [← hcnt]; exact hn.symm) hu hv hab
     have hD : ∀ a,(∃ i,i < j ∧ a = ndG l i) → ∀ r ∈ ndT l a,∀ t ∈ r.2,∃ i,i < j ∧ t = ndG l i := by
      rintro a ⟨u,hu,rfl⟩ q hq t ht
      obtain ⟨m,hm,rfl⟩ := List.mem_map.1 hq
      have hml := (node_mem_g ok (ndG_mem (by omega : u < (gN l).length)) m hm).1
      simp only at ht
      rw [← tgM_nd ok hml] at ht
      obtain ⟨g,hg,rfl⟩ := List.mem_map.1 ht
      exact ⟨g,by have := tgM_lt ok hml g hg; omega,rfl⟩
     rw [repN_eq]
     constructor
     ·intro he
      exact (stable_alk hD hst ⟨x,hx,rfl⟩ ⟨y,hy,rfl⟩).1 (cod_fine _ _ _ he)
     ·exact fun he => he (r + 1)
    have hlt3 : σ.length ≤ σ3.length := by have := hF3.len; omega
    have hget : ∀ b,b < σ.length → (σ3.take σ.length)[b]? = σ3[b]? := fun b hb => by rw [List.getElem?_take,if_pos hb]
    have hK : Kill σ (fun b => σ.length ≤ b) σ3 (σ3.take σ.length) := by
     refine ⟨fun b hb => hb,by simp; omega,fun b hb _ => by simp at hb; omega,fun b k' hb => .inr ?_⟩
     have hbl : b < σ.length := by
      have := blk_lt hb
      simp at this
      omega
     rw [hget b hbl] at hb
     refine ⟨by omega,k',hb,?_⟩
     by_cases hob : og = some b
     ·left
      rcases hI3 with ⟨h1,_,_⟩ | ⟨b',g',h1,h2,h3,h4⟩
      ·simp only at h1
       rw [h1] at hob
       cases hob
      ·simp only at h1 h3
       rw [hob] at h1
       cases h1
       rw [hb] at h3
       cases h3
       refine .inr ⟨_,rfl,rfl,fun i x y hx hy => ?_⟩
       rw [hx] at hy
       cases hy
       exact (hV4.flat x (List.mem_of_getElem? hx)).frz _ _
     ·right
      refine ⟨rfl,?_⟩
      rw [← hF3.frm b hbl hob]
      exact hb
    refine weakW_kill (v' := .tuple []) _ hK (.base _ (.tuple _ (by simp))) ?_
    refine hR c' gs3 _ (by simp; omega) (fun b hb hob => ?_) (hI3.to fun b hb => hget b (hogl b hb)) hV4 hc's halk
    rw [hget b hb]
    exact hF3.frm b hb hob
   ·have hn : (nubR key j).length ≠ n := of_decide_eq_false h
    have hlen2 : vLen .map (.mref σ5.length) σ3 = some (pvN (nubR key j).length) := hlen
    have hge : n ≤ (nubR key j).length := by
     rcases hrn with ⟨_,rfl⟩ | ⟨_,rfl⟩
     ·exact Nat.zero_le _
     ·rw [hcnt]
      exact cnt_mono (fun a b => cod_fine r a b) j
    have hle := nubR_le key j
    exact next _ _ (j - (nubR key j).length) (by omega) ⟨r + 1,c',_,gs3,rfl,hF3,hI3,hV4,hc's,hc'c,.inr ⟨by omega,hcnt⟩,rfl⟩
end
end Go.Proofs.YteikomnahelckaaGreatDoor
