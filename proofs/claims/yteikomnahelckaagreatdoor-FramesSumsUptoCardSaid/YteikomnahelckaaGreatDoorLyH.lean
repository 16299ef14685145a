import Derived.Test.YteikomnahelckaaGreatDoorLyG
import Derived.Test.YteikomnahelckaaGreatDoorPlH
set_option linter.unusedVariables false
set_option linter.unusedSimpArgs false
namespace Go.Proofs.YteikomnahelckaaGreatDoor
open Go Go.Abs
theorem vPut_snd {a b x : PV} (hx : x.cells? = some [x]) : vPut 1 (.agg [a,b]) 1 x = some (.agg [a,x]) := by
 unfold vPut
 rw [hx]
 rfl
def byteP (b : UInt8) : PV := .int .u8 b.toNat
def Buf (n0 : Nat) (σ : St) (buf : PV) (bs : Str) : Prop :=
 (buf = .list .nil [] ∧ bs = []) ∨ ∃ c g,n0 ≤ c ∧ buf = .sref c g 1 0 bs.length ∧ σ[c]? = some (.arr g 1 (bs.map byteP)) ∧ g % 4194304 = 23 ∧ bs ≠ []
structure BldAt (τ σ : St) (P : Nat) (a buf : PV) (bs : Str) : Prop where
 pre : τ <+: σ
 lo : τ.length ≤ P
 cell : σ[P]? = some (.arr 533 2 [.agg [a,buf]])
 buf : Buf τ.length σ buf bs
def Bld (τ σ : St) (P : Nat) (bs : Str) : Prop := ∃ a buf,(a = .nilptr ∨ a = .ptr P 533 0 0) ∧ BldAt τ σ P a buf bs
theorem Bld.mk (τ : St) : Bld τ (τ ++ [.arr 533 2 [.agg [.nilptr,.list .nil []]]]) τ.length [] :=
 ⟨_,_,.inl rfl,⟨⟨_,rfl⟩,Nat.le_refl _,by simp,.inl ⟨rfl,rfl⟩⟩⟩
theorem c125 {τ σ : St} {P : Nat} {bs : Str} (h : Bld τ σ P bs) {R : Res → St → Prop} (hR : ∀ σ1 buf,BldAt τ σ1 P (.ptr P 533 0 0) buf bs → R (.ret (.tuple [])) σ1) : W 125 [.ptr P 533 0 0] σ R := by
 refine callW_fold ?_
 show bindO False (extCopy 133 [.ptr P 533 0 0] σ) (fun r => R (.ret r.1) r.2)
 obtain ⟨a,buf,ha,h1,h2,h3,h4⟩ := h
 have hb : bldAt 133 P 533 σ = some (2,a,buf) := by simp [bldAt,h3,tyG]
 rcases ha with rfl | rfl
 ·simp only [extCopy,hb,zz,Nat.reduceEqDiff]
  have hPl : P < σ.length := (List.getElem?_eq_some_iff.1 h3).1
  refine hR _ buf ⟨pre_set h1 h2 _,h2,by simp [hPl],?_⟩
  rcases h4 with h4 | ⟨c,g,q1,q2,q3,q4,q5⟩
  ·exact .inl h4
  ·refine .inr ⟨c,g,q1,q2,?_,q4,q5⟩
   rw [List.getElem?_set,if_neg (fun e => ?_)]
   ·exact q3
   ·subst e
    rw [h3] at q3
    simp at q3
 ·simp only [extCopy,hb,zz,Nat.reduceEqDiff]
  simp only [and_self,if_true,zz,Nat.reduceEqDiff]
  exact hR _ buf ⟨h1,h2,h3,h4⟩
theorem buf_app {n0 : Nat} {σ : St} {buf : PV} {bs : Str} (h : Buf n0 σ buf bs) (hn : n0 ≤ σ.length) (s : Str) (hl : bs.length + s.length ≤ 140737488355328) :
  ∃ buf' σ2,vAppendT 23 1 1 buf (.str s) σ = some (buf',σ2) ∧ Buf n0 σ2 buf' (bs ++ s) ∧ (∀ τ : St,τ.length ≤ n0 → τ <+: σ → τ <+: σ2) ∧ ∀ (P g : Nat) x,σ[P]? = some (.arr g 2 x) → σ2[P]? = some (.arr g 2 x) := by
 have hy : vElems (.str s) σ = some (s.map byteP) := rfl
 cases s with
 | nil =>
  have he : vAppendT 23 1 1 buf (.str []) σ = some (buf,σ) := by
   rcases h with ⟨rfl,rfl⟩ | ⟨c,g,_,rfl,_⟩ <;> rfl
  exact ⟨buf,σ,he,by simpa using h,fun _ _ h => h,fun _ _ _ h => h⟩
 | cons b s =>
  have hsz : ∀ l : Str,headSized 1 (l.map byteP) = true := fun l => by cases l <;> rfl
  rcases h with ⟨rfl,rfl⟩ | ⟨c,g,hc0,rfl,hb,hg,hne⟩
  ·refine ⟨.sref σ.length 23 1 0 (b :: s).length,σ ++ [.arr 23 1 ((b :: s).map byteP)],?_,.inr ⟨σ.length,23,hn,by simp,by simp,rfl,by simp⟩,fun τ _ hp => pre_app hp _,fun P g x hx => by rw [List.getElem?_append_left (List.getElem?_eq_some_iff.1 hx).1]; exact hx⟩
   simp only [vAppendT,hy]
   have hr : roomy (([] : List PV).length + ((b :: s).map byteP).length) 1 = true := by
    simp only [roomy,List.length_map,List.length_nil,Nat.mul_one,decide_eq_true_eq]
    simpa using hl
   rw [if_neg (by simp),if_pos ⟨by simp,hr,rfl,hsz _⟩]
   simp
  ·have hcl : c < σ.length := (List.getElem?_eq_some_iff.1 hb).1
   refine ⟨.sref c (g + 4194304) 1 0 (bs ++ b :: s).length,σ.set c (.arr (g + 4194304) 1 ((bs ++ b :: s).map byteP)),?_,.inr ⟨c,g + 4194304,hc0,rfl,by simp [hcl],by omega,by simp⟩,fun τ hτ hp => pre_set hp (by omega) _,fun P g' x hx => ?_⟩
   ·simp only [vAppendT,hy,hb]
    have hr : roomy (bs.length + ((b :: s).map byteP).length) 1 = true := by
     simp only [roomy,List.length_map,Nat.mul_one,decide_eq_true_eq]
     exact hl
    have hnt : nextT 23 g 0 = g + 4194304 := by
     unfold nextT
     rw [if_pos ⟨by decide,hg,rfl⟩]
    rw [if_neg (by simp),if_pos ⟨trivial,trivial,by simp,hr,hsz _⟩,hnt]
    have htk : (bs.map byteP).take bs.length = bs.map byteP := List.take_of_length_le (by simp)
    simp [htk]
   ·rw [List.getElem?_set,if_neg (fun e => ?_)]
    ·exact hx
    ·subst e
     rw [hb] at hx
     simp at hx
theorem c78 {τ σ : St} {P : Nat} {bs s : Str} (h : Bld τ σ P bs) (hl : bs.length + s.length ≤ 140737488355328) {R : Res → St → Prop}
  (hR : ∀ σ1,Bld τ σ1 P (bs ++ s) → R (.ret (.tuple [.int .i64 s.length,.nilIface])) σ1) : W 78 [.ptr P 533 0 0,.str s] σ R := by
 refine callW_fold ?_
 rw [fn78_eq]
 delta fn78 lF sF
 refine c125 h fun σ1 buf h1 => ?_
 obtain ⟨buf',σ2,e1,e2,e3,e4⟩ := buf_app h1.buf (Nat.le_trans h1.lo (Nat.le_of_lt (List.getElem?_eq_some_iff.1 h1.cell).1)) s hl
 have hn : ∀ (b g i o : Nat),vNil (.ptr b g i o) = some (.ptr b g i o) := fun _ _ _ _ => rfl
 have hld : vLoad false 1 (.ptr P 533 0 (0 + 1)) σ1 = some buf := by
  simp [vLoad,h1.cell,vPart]
  rfl
 have hc2 := e4 P 533 _ h1.cell
 have hcell : buf'.cells? = some [buf'] := by rcases e2 with ⟨rfl,_⟩ | ⟨c,g,_,rfl,_⟩ <;> rfl
 have hst : vStore 1 (.ptr P 533 0 (0 + 1)) buf' σ2 = some (σ2.set P (.arr 533 2 [.agg [.ptr P 533 0 0,buf']])) := by
  simp only [vStore,hc2]
  simp [vPut_snd hcell]
 have hld' : vLoad false 1 (.ptr P 533 0 1) σ1 = some buf := hld
 have hst' : vStore 1 (.ptr P 533 0 1) buf' σ2 = some (σ2.set P (.arr 533 2 [.agg [.ptr P 533 0 0,buf']])) := hst
 simp only [hn,hld',e1,hst',zz,Nat.reduceEqDiff]
 refine weakW_keep (hR _ ⟨.ptr P 533 0 0,buf',.inr rfl,pre_set (e3 τ (Nat.le_refl _) h1.pre) h1.lo _,h1.lo,by simp [(List.getElem?_eq_some_iff.1 hc2).1],?_⟩)
 rcases e2 with h4 | ⟨c,g,q1,q2,q3,q4,q5⟩
 ·exact .inl h4
 ·refine .inr ⟨c,g,q1,q2,?_,q4,q5⟩
  rw [List.getElem?_set,if_neg (fun e => ?_)]
  ·exact q3
  ·subst e
   rw [hc2] at q3
   simp at q3
theorem bytes_map : ∀ bs : Str,bytes? (bs.map byteP) = some bs
 | [] => rfl
 | b :: bs => by
  have hb := b.toNat_lt
  have := bytes_map bs
  show (if 0 ≤ (b.toNat : Int) ∧ (b.toNat : Int) < 256 then (match bytes? (bs.map byteP) with
   | some r => some ((b.toNat : Int).toNat.toUInt8 :: r)
   | none => none) else none) = some (b :: bs)
  rw [if_pos (by omega),this]
  simp
theorem c83 {τ σ : St} {P : Nat} {bs : Str} (h : Bld τ σ P bs) (hl : bs.length ≤ 140737488355328) {R : Res → St → Prop} (hR : ∀ σ1,τ <+: σ1 → R (.ret (.str bs)) σ1) : W 83 [.ptr P 533 0 0] σ R := by
 refine callW_fold ?_
 show bindO False (extStr 133 5 [.ptr P 533 0 0] σ) (fun r => R (.ret r.1) r.2)
 obtain ⟨a,buf,ha,h1,h2,h3,h4⟩ := h
 have hb : bldAt 133 P 533 σ = some (2,a,buf) := by simp [bldAt,h3,tyG]
 rcases h4 with ⟨rfl,rfl⟩ | ⟨c,g,q1,rfl,q3,q4,q5⟩
 ·simp only [extStr,hb,zz,Nat.reduceEqDiff]
  exact hR _ h1
 ·simp only [extStr,hb,q3]
  have hpos : 0 < bs.length := List.length_pos_iff.2 q5
  have ht : tyG g = 5 := by unfold tyG; omega
  rw [if_pos ⟨trivial,by omega,ht,hpos,by simp,hl⟩]
  have : (bs.map byteP).take bs.length = bs.map byteP := by rw [List.take_of_length_le (by simp)]
  rw [this,bytes_map]
  simp only [zz,Nat.reduceEqDiff]
  exact hR _ (pre_set h1 q1 _)
theorem digF_len : ∀ (n u : Nat) (acc : Str),(digF n u acc).length ≤ n + acc.length
 | 0,u,acc => by simp [digF]
 | n + 1,u,acc => by
  simp only [digF]
  split
  ·simp; omega
  ·have := digF_len n (u / 10) (UInt8.ofNat (48 + u % 10) :: acc)
   rw [List.length_cons] at this
   omega
theorem itoa_len (n : Int) : (itoaB n).length ≤ 21 := by
 unfold itoaB
 split
 ·have := digF_len 20 n.natAbs []
  simp at this ⊢
  omega
 ·have := digF_len 20 n.toNat []
  simp at this
  omega
theorem c79 {n : Int} (h : inI64 n = true) (σ : St) : Ret W 79 [.int .i64 n] σ (.str (itoaB n)) := by
 refine ret_of fun R hR => ?_
 show bindO False (extItoa [.int .i64 n] σ) (fun r => R (.ret r.1) r.2)
 simp only [extItoa,h,if_true,zz]
 exact hR
theorem c80 (b : Bool) (σ : St) : Ret W 80 [.bool b] σ (.str (boolB b)) := by
 refine ret_of fun R hR => ?_
 show bindO False (extBool [.bool b] σ) (fun r => R (.ret r.1) r.2)
 cases b <;> exact hR
def unionsL (l : Tbl) : List Nat := (List.range l.length).filter fun m => unionK (mAtM l m)
theorem mem_unions {l : Tbl} {m : Nat} : m ∈ unionsL l ↔ m < l.length ∧ unionK (mAtM l m) = true := by simp [unionsL]
structure GD where
 z : Nat
 kt : LK
 tvs : List PV
 gv : PV
 gs : List PV
 pm : Nat
 pv : Nat
 qm : Nat
 qv : Nat
 kk : Nat → LK
 rest : List PV
def prtV (l : Tbl) (kk : Nat → LK) (m : Nat) : PV := .list (kk m) ((mAtM l m).elems.2.map pvI)
def parV (l : Tbl) (m : Nat) : PV := pvN (gix l m)
structure GS (σ : St) (l : Tbl) (p : Nat) (D : GD) (c : Nat → Nat) : Prop where
 lay : σ[p]? = some (.arr 0 D.z [.agg (.list D.kt D.tvs :: D.gv :: .mref D.pm :: .mref D.qm :: D.rest)])
 tab : TabV l D.tvs
 el : Elems σ 2 D.gv D.gs
 len : D.gs.length = (gN l).length
 grp : ∀ x,x < (gN l).length → ∃ k,D.gs[x]? = some (.agg [.list k ((nodeL l (ndG l x)).map (pvSlG l)),pvN (c x)]) ∧ (nodeL l (ndG l x)).length ≤ 1000
 pm : σ[D.pm]? = some (.map D.pv (mapN (parV l) (procs l)))
 qm : σ[D.qm]? = some (.map D.qv (mapN (prtV l D.kk) (unionsL l)))
section
variable {σ τ : St} {l : Tbl} {p : Nat} {D : GD} {c : Nat → Nat}
theorem GS.pre (h : GS τ l p D c) (hp : τ <+: σ) : GS σ l p D c := ⟨get_pre hp h.lay,h.tab,h.el.pre hp,h.len,h.grp,get_pre hp h.pm,get_pre hp h.qm⟩
theorem GS.cell (h : GS τ l p D c) {j : Nat} {v : PV} (hj : (PV.list D.kt D.tvs :: D.gv :: .mref D.pm :: .mref D.qm :: D.rest)[j]? = some v) : vLoad false 1 (.ptr p 0 0 j) τ = some v := by
 simp only [vLoad,h.lay,if_true,List.getElem?_cons_zero]
 exact hj
def tgM (l : Tbl) (m : Nat) : List Nat :=
 if refK (mAtM l m) || rowK (mAtM l m) then [(elemsN (mAtM l m)).headD 0]
 else if unionK (mAtM l m) then elemsN (mAtM l m)
 else if procK (mAtM l m) then [gix l m,lastE (mAtM l m)] else []
theorem tgM_lt (ok : OkT l) {m : Nat} (hm : m < l.length) : ∀ t ∈ tgM l m,t < (gN l).length := by
 intro t ht
 unfold tgM at ht
 split at ht
 ·rename_i h
  simp only [List.mem_singleton] at ht
  subst ht
  exact mode_lt_gN (ref_head ok hm h)
 ·split at ht
  ·exact mode_lt_gN (elem_lt ok ht)
  ·split at ht
   ·rename_i h
    simp only [List.mem_cons,List.not_mem_nil,or_false] at ht
    rcases ht with rfl | rfl
    ·exact gix_lt (mem_procs.2 ⟨hm,h⟩)
    ·exact mode_lt_gN (proc_last ok hm h)
   ·cases ht
theorem tgM_nd (ok : OkT l) {m : Nat} (hm : m < l.length) : (tgM l m).map (ndG l) = toN l m := by
 unfold tgM toN
 split
 ·rename_i h
  simp only [List.map_cons,List.map_nil]
  rw [ndG_mode (ref_head ok hm h)]
 ·split
  ·refine (List.map_congr_left fun e he => ?_).trans (List.map_id _)
   exact ndG_mode (elem_lt ok he)
  ·split
   ·rename_i h
    simp only [List.map_cons,List.map_nil]
    rw [ndG_par (mem_procs.2 ⟨hm,h⟩),ndG_mode (proc_last ok hm h)]
   ·rfl
theorem elems_len_N (m : ModeS) : (elemsN m).length = m.elems.2.length := by simp [elemsN]
theorem tgM_len (ok : OkT l) {m : Nat} (hm : m < l.length) : (tgM l m).length ≤ 64 := by
 unfold tgM
 split
 ·simp
 ·split
  ·rw [elems_len_N]; exact bd_elems ok hm
  ·split <;> simp
theorem c82 (G : GS τ l p D c) (hsm : ∀ x,c x < 9223372036854775808) {q P : Nat} {bs : Str} (hB : Bld τ σ P bs) (hq : τ[q]? = some (.arr 0 1 [.ptr p 0 0 0])) {g : Nat} (hg : g < (gN l).length) (hl : bs.length + 22 ≤ 140737488355328) {R : Res → St → Prop}
  (hR : ∀ v σ1,Bld τ σ1 P (bs ++ 58 :: itoaB (c g : Int)) → R (.ret v) σ1) : W 82 [pvN g,.ptr P 533 0 0,.ptr q 0 0 0] σ R := by
 refine callW_fold ?_
 rw [fn82_eq]
 delta fn82 bF lF
 have hpre : τ <+: σ := by
  obtain ⟨a,buf,_,h⟩ := hB
  exact h.pre
 have G' := G.pre hpre
 have hlq : vLoad false 1 (.ptr q 0 0 0) σ = some (.ptr p 0 0 0) := load_cell (get_pre hpre hq) rfl rfl
 have hnl : vNil (.ptr p 0 0 0) = some (.ptr p 0 0 0) := rfl
 have h1 : vLoad false 1 (.ptr p 0 0 1) σ = some D.gv := G'.cell rfl
 obtain ⟨k,hk,_⟩ := G.grp g hg
 obtain ⟨a,ha1,_,ha2⟩ := G'.el.at_ (i := g) (k := .i64) hk rfl rfl
 obtain ⟨b,hb1,hb2⟩ := ha2 1
 have hv : vIndex 2 D.gv (pvN g) = some a := ha1
 have hp1 : vPart false 1 (.agg [.list k ((nodeL l (ndG l g)).map (pvSlG l)),pvN (c g)]) 1 = some (.int .i64 (c g : Int)) := rfl
 simp only [hlq,hnl,h1,hv,hb1,hb2,hp1,zz,Nat.reduceEqDiff]
 refine (c79 (smallI (hsm g)) _).callB ?_
 have hadd : vBin none .add (.str [58]) (.str (itoaB (c g : Int))) = some (.str (58 :: itoaB (c g : Int))) := vBin_add_str none (a := [58]) (b := itoaB (c g : Int)) (by have := itoa_len (c g : Int); simp only [List.length_cons,List.length_nil]; omega)
 simp only [hadd,zz,Nat.reduceEqDiff]
 refine c78 hB (by have := itoa_len (c g : Int); simp; omega) fun σ1 h1 => ?_
 exact weakW_keep (hR _ _ h1)
theorem c81 (G : GS τ l p D c) (ok : OkT l) (hsm : ∀ x,c x < 9223372036854775808) {q P : Nat} {bs : Str} (hB : Bld τ σ P bs) (hq : τ[q]? = some (.arr 0 1 [.ptr p 0 0 0])) {m : Nat} (hm : m < l.length) (hl : bs.length + 22 * 64 ≤ 140737488355328) {R : Res → St → Prop}
  (hR : ∀ v σ1,Bld τ σ1 P (bs ++ (tgM l m).flatMap fun g => 58 :: itoaB (c g : Int)) → R (.ret v) σ1) : W 81 [.ptr p 0 0 0,pvSlG l m,.func 82 0 [.ptr P 533 0 0,.ptr q 0 0 0]] σ R := by
 refine callW_fold ?_
 rw [fn81_eq]
 delta fn81 bF pF lF kF nI nL
 have pre : ∀ {σ : St} {bs : Str},Bld τ σ P bs → τ <+: σ := fun hB => by
  obtain ⟨a,buf,_,h⟩ := hB
  exact h.pre
 have G' := G.pre (pre hB)
 obtain ⟨k1,k2,hix⟩ := G.tab.index hm D.kt
 have hbox : opC.vBoxAny (pvSlG l m) = some (6,pvSlG l m) := rfl
 have h0 : vLoad false 1 (.ptr p 0 0 0) σ = some (.list D.kt D.tvs) := G'.cell rfl
 have h2 : vLoad false 1 (.ptr p 0 0 2) σ = some (.mref D.pm) := G'.cell rfl
 have h3 : vLoad false 1 (.ptr p 0 0 3) σ = some (.mref D.qm) := G'.cell rfl
 have hnl : vNil (.ptr p 0 0 0) = some (.ptr p 0 0 0) := rfl
 have q5 : vPart false 1 (pvSlG l m) 5 = some (pvN m) := rfl
 have hpt : vPart true 6 (pvModeK k1 k2 (mAtM l m)) 0 = some (pvModeK k1 k2 (mAtM l m)) := rfl
 have hput : vPut 6 (.agg [(.int .i64 0),(.int .i64 0),(.list .nil []),(.list .nil []),(.int .i64 0),(.bool false)]) 0 (pvModeK k1 k2 (mAtM l m)) = some (pvModeK k1 k2 (mAtM l m)) := rfl
 have q0 : vPart false 1 (pvSlG l m) 0 = some (.int .i64 (slotOf (mAtM l m)).kind) := rfl
 have p2 : vPart false 1 (pvModeK k1 k2 (mAtM l m)) 2 = some (.list k1 ((mAtM l m).elems.2.map pvI)) := rfl
 have hb82 : hasBody 82 = true := by kernel_rfl
 simp only [hbox,hnl,h0,q5,hix,hpt,hput,q0,zz,Nat.reduceEqDiff]
 have hwalk : ∀ e : Int,e ∈ (mAtM l m).elems.2 → (e.toNat : Int) = e ∧ e.toNat < l.length := fun e he => by
  obtain ⟨h1,h2,h3⟩ := plain_elem ok.plain (mAtM_mem hm) he
  exact ⟨h3,h2⟩
 have one : (refK (mAtM l m) || rowK (mAtM l m)) = true → bindO False (vIndex 1 (.list k1 ((mAtM l m).elems.2.map pvI)) (.int .i64 0)) fun v11 => bindO False (vLoad false 1 v11 σ) fun v12 =>
   callG (algP W) Tryz.prog false (.func 82 0 [.ptr P 533 0 0,.ptr q 0 0 0]) [v12] σ (fun v13 σ14 => weakW σ (.tuple []) σ14 fun v σ => R (.ret v) σ) (fun e15 σ16 => R (.pan e15) σ16) := by
  intro h
  have hne := parts_pos ok hm (.inl h)
  have hhead : (mAtM l m).elems.2[0]? = some (((elemsN (mAtM l m)).headD 0 : Nat) : Int) := by
   unfold elemsN at hne ⊢
   cases he : (mAtM l m).elems.2 with
   | nil => rw [he] at hne; exact absurd rfl hne
   | cons e es =>
    simp only [List.map_cons,List.headD_cons,List.getElem?_cons_zero]
    rw [(hwalk e (by rw [he]; simp)).1]
  have hi : vIndex 1 (.list k1 ((mAtM l m).elems.2.map pvI)) (.int .i64 0) = some (.eptr (pvI (((elemsN (mAtM l m)).headD 0 : Nat) : Int)) 0) := encInt.index (i := 0) hhead
  have hlt := ref_head ok hm h
  simp only [hi,encInt.part,callG_func hb82,zz]
  refine c82 G hsm hB hq (mode_lt_gN hlt) (by omega) fun v σ1 h1 => ?_
  refine weakW_keep (hR _ _ ?_)
  unfold tgM
  rw [if_pos h]
  simpa using h1
 have eqf : ∀ a b : Int,a ≠ b → (a == b) = false := fun a b h => beq_eq_false_iff_ne.2 h
 by_cases c1 : refK (mAtM l m) = true
 ·have hk : (slotOf (mAtM l m)).kind = 8 := kindS_ref c1
  have e8 : ((8 : Int) == 8) = true := rfl
  simp only [hk,e8,p2,zz,Nat.reduceEqDiff]
  exact one (by simp [c1])
 by_cases c2 : rowK (mAtM l m) = true
 ·have hk : (slotOf (mAtM l m)).kind = 9 := kindS_row c2
  have e8 : ((9 : Int) == 8) = false := rfl
  have e9 : ((9 : Int) == 9) = true := rfl
  simp only [hk,e8,e9,p2,zz,Nat.reduceEqDiff]
  exact one (by simp [c2])
 by_cases c3 : unionK (mAtM l m) = true
 ·have hk : (slotOf (mAtM l m)).kind = 10 := kindS_union c3
  have e8 : ((10 : Int) == 8) = false := rfl
  have e9 : ((10 : Int) == 9) = false := rfl
  have e10 : ((10 : Int) == 10) = true := rfl
  have hlk : vLookup .int (.list .nil []) false (.mref D.qm) (pvN m) σ = some (.list (D.kk m) ((mAtM l m).elems.2.map pvI)) := by
   rw [mapN_look G'.qm,if_pos (mem_unions.2 ⟨hm,c3⟩)]
   rfl
  have htg : tgM l m = (mAtM l m).elems.2.map Int.toNat := by
   unfold tgM
   rw [if_neg (by simp [c1,c2]),if_pos c3]
   rfl
  rw [htg] at hR
  have hbd := bd_elems ok hm
  simp only [hk,e8,e9,e10,q5,h3,hlk,List.length_map,zz,Nat.reduceEqDiff]
  generalize hes : (mAtM l m).elems.2 = es at hwalk hbd hR
  refine Lfp_up es.length (fun i x σ' => x = lookP [(2,.func 82 0 [.ptr P 533 0 0,.ptr q 0 0 0]),(37,.list (D.kk m) (es.map pvI)),(38,.int .i64 es.length),(39,.int .i64 i)] ∧ Bld τ σ' P (bs ++ ((es.take i).map Int.toNat).flatMap fun g => 58 :: itoaB (c g : Int)) ∧ (((es.take i).map Int.toNat).flatMap fun g => 58 :: itoaB (c g : Int)).length ≤ 22 * i) ?_
   ⟨rfl,by simpa using hB,by simp⟩
  rintro Φ i x σ' hi ⟨rfl,hBi,hli⟩ next
  simp only [zz,Nat.reduceEqDiff]
  by_cases hlt : i < es.length
  ·have hce : es[i]? = some es[i] := by simp [hlt]
   have hemem : es[i] ∈ es := by simp
   generalize es[i] = e at hce hemem
   obtain ⟨eI,eL⟩ := hwalk e hemem
   have hpe : pvI e = pvN e.toNat := by unfold pvN; rw [eI]
   simp only [hlt,encInt.index hce,encInt.part,hpe,callG_func hb82,zz,Nat.reduceEqDiff]
   refine c82 G hsm hBi hq (mode_lt_gN eL) (by simp only [List.length_append]; omega) fun v σ1 h1 => ?_
   show bindO False _ _
   rw [vBin_add _ (by omega) (by omega)]
   simp only [zz,Nat.reduceEqDiff]
   refine next _ _ hlt ⟨rfl,?_,?_⟩
   ·rw [List.take_add_one,hce,List.map_append,List.flatMap_append,← List.append_assoc]
    simpa using h1
   ·have := itoa_len (c e.toNat : Int)
    have h2 : ((some e).toList.map Int.toNat).flatMap (fun g => 58 :: itoaB (c g : Int)) = 58 :: itoaB (c e.toNat : Int) := by simp
    rw [List.take_add_one,hce,List.map_append,List.flatMap_append,List.length_append,h2,List.length_cons]
    omega
  ·obtain rfl : i = es.length := by omega
   rw [List.take_length] at hBi
   simp only [hlt,zz,Nat.reduceEqDiff]
   exact weakW_keep (hR _ _ hBi)
 by_cases c4 : procK (mAtM l m) = true
 ·have hk : (slotOf (mAtM l m)).kind = 11 := kindS_proc c4
  have e8 : ((11 : Int) == 8) = false := rfl
  have e9 : ((11 : Int) == 9) = false := rfl
  have e10 : ((11 : Int) == 10) = false := rfl
  have e11 : ((11 : Int) == 11) = true := rfl
  have hpm := mem_procs.2 ⟨hm,c4⟩
  have hlk : vLookup .int (.int .i64 0) false (.mref D.pm) (pvN m) σ = some (pvN (gix l m)) := by
   rw [mapN_look G'.pm,if_pos hpm]
   rfl
  have htg : tgM l m = [gix l m,lastE (mAtM l m)] := by
   unfold tgM
   rw [if_neg (by simp [c1,c2]),if_neg (by simp [c3]),if_pos c4]
  rw [htg] at hR
  have hlast := proc_last ok hm c4
  simp only [hk,e8,e9,e10,e11,q5,h2,hlk,p2,callG_func hb82,List.length_map,zz,Nat.reduceEqDiff]
  refine c82 G hsm hB hq (gix_lt hpm) (by omega) fun v σ1 h1 => ?_
  show bindO False _ _
  have hbd := bd_elems ok hm
  have hne := parts_pos ok hm (.inr c4)
  have hpos : 0 < (mAtM l m).elems.2.length := by
   rcases Nat.eq_zero_or_pos (mAtM l m).elems.2.length with h | h
   ·exact absurd (by unfold elemsN; rw [List.eq_nil_of_length_eq_zero h]; rfl) hne
   ·exact h
  rw [vBin_sub _ (by omega) (by omega)]
  have hlast2 : (mAtM l m).elems.2[(mAtM l m).elems.2.length - 1]? = some ((lastE (mAtM l m) : Nat) : Int) := by
   have hg : (elemsN (mAtM l m))[(mAtM l m).elems.2.length - 1]? = some (lastE (mAtM l m)) := by
    unfold lastE
    rw [List.getLastD_eq_getLast?,List.getLast?_eq_getElem?]
    have : (elemsN (mAtM l m)).length = (mAtM l m).elems.2.length := by simp [elemsN]
    rw [this]
    have : (elemsN (mAtM l m))[(mAtM l m).elems.2.length - 1]? = some ((elemsN (mAtM l m))[(mAtM l m).elems.2.length - 1]'(by omega)) := by simp
    rw [this]
    rfl
   unfold elemsN at hg
   rw [List.getElem?_map] at hg
   cases he : (mAtM l m).elems.2[(mAtM l m).elems.2.length - 1]? with
   | none => rw [he] at hg; cases hg
   | some e =>
    rw [he] at hg
    simp only [Option.map_some,Option.some.injEq] at hg
    rw [← hg,(hwalk e (List.mem_of_getElem? he)).1]
  have hcast : (((mAtM l m).elems.2.length : Int) - 1) = (((mAtM l m).elems.2.length - 1 : Nat) : Int) := by omega
  rw [hcast]
  simp only [encInt.index hlast2,encInt.part,callG_func hb82,zz,Nat.reduceEqDiff]
  refine c82 G hsm h1 hq (mode_lt_gN hlast) (by have := itoa_len (c (gix l m) : Int); simp; omega) fun v σ2 h2 => ?_
  refine weakW_keep (hR _ _ ?_)
  simpa using h2
 ·obtain ⟨a,b,d,e⟩ := kindS_other (by simpa using c1) (by simpa using c2) (by simpa using c3) (by simpa using c4)
  have hk : ∀ q : Int,kindS (mAtM l m).kind ≠ q → ((slotOf (mAtM l m)).kind == q) = false := fun q h => eqf _ _ h
  simp only [hk 8 a,hk 9 b,hk 10 d,hk 11 e,zz,Nat.reduceEqDiff]
  refine weakW_keep (hR _ _ ?_)
  unfold tgM
  rw [if_neg (by simp [c1,c2]),if_neg (by simp [c3]),if_neg (by simp [c4])]
  simpa using hB
end
end Go.Proofs.YteikomnahelckaaGreatDoor
