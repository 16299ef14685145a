import Derived.Test.YteikomnahelckaaGreatDoorLyA
import Derived.Test.YteikomnahelckaaGreatDoorSpA
import Derived.Test.YteikomnahelckaaGreatDoorSpM
import Derived.Test.YteikomnahelckaaGreatDoorFnF
set_option linter.unusedVariables false
set_option linter.unusedSimpArgs false
namespace Go.Proofs.YteikomnahelckaaGreatDoor
open Go Go.Abs
def pvN (n : Nat) : PV := pvI (n : Int)
def pvSlG (l : Tbl) (m : Nat) : PV := .agg [pvI (slotOf (mAtM l m)).kind,pvI (slotOf (mAtM l m)).size,pvI 0,pvI (slotOf (mAtM l m)).dims,.bool (slotOf (mAtM l m)).flex,pvN m]
def pvModeK (k1 k2 : LK) (m : ModeS) : PV := .agg [.int .i64 m.kind,.int .i64 m.size,.list k1 (m.elems.2.map pvI),.list k2 (m.names.2.map PV.str),.int .i64 m.dims,.bool m.flex]
def TabV (l : Tbl) (tvs : List PV) : Prop := tvs.length = l.length ∧ ∀ i,i < l.length → ∃ k1 k2,tvs[i]? = some (pvModeK k1 k2 (mAtM l i))
theorem flat_ints (k : LK) (l : List Int) : Flat (.list k (l.map pvI)) := .list _ _ fun x hx => by
 obtain ⟨a,_,rfl⟩ := List.mem_map.1 hx
 exact .int _ _
theorem flat_modeK (k1 k2 : LK) (m : ModeS) : Flat (pvModeK k1 k2 m) := .agg _ fun x hx => by
 simp only [List.mem_cons,List.not_mem_nil,or_false] at hx
 rcases hx with rfl | rfl | rfl | rfl | rfl | rfl
 ·exact .int _ _
 ·exact .int _ _
 ·exact flat_ints _ _
 ·refine .list _ _ fun x hx => ?_
  obtain ⟨a,_,rfl⟩ := List.mem_map.1 hx
  exact .str _
 ·exact .int _ _
 ·exact .bool _
theorem flat_slG (l : Tbl) (m : Nat) : Flat (pvSlG l m) := .agg _ fun x hx => by
 simp only [List.mem_cons,List.not_mem_nil,or_false] at hx
 rcases hx with rfl | rfl | rfl | rfl | rfl | rfl
 ·exact .int _ _
 ·exact .int _ _
 ·exact .int _ _
 ·exact .int _ _
 ·exact .bool _
 ·exact .int _ _
theorem flat_slot (s : SlotS) : Flat (pvSlot s) := .agg _ fun x hx => by
 simp only [List.mem_cons,List.not_mem_nil,or_false] at hx
 rcases hx with rfl | rfl | rfl | rfl | rfl
 ·exact .int _ _
 ·exact .int _ _
 ·exact .int _ _
 ·exact .int _ _
 ·exact .bool _
theorem TabV.flat {l : Tbl} {tvs : List PV} (h : TabV l tvs) : ∀ x ∈ tvs,Flat x := by
 intro x hx
 obtain ⟨i,hi,rfl⟩ := List.getElem_of_mem hx
 obtain ⟨k1,k2,h2⟩ := h.2 i (by have := h.1; omega)
 rw [List.getElem?_eq_getElem hi] at h2
 injection h2 with h2
 have h3 : tvs.get ⟨i,hi⟩ = pvModeK k1 k2 (mAtM l i) := h2
 first | (rw [h3]; exact flat_modeK _ _ _) | (rw [h2]; exact flat_modeK _ _ _)
theorem TabV.index {l : Tbl} {tvs : List PV} (h : TabV l tvs) {i : Nat} (hi : i < l.length) (kt : LK) : ∃ k1 k2,vIndex 6 (.list kt tvs) (pvN i) = some (.eptr (pvModeK k1 k2 (mAtM l i)) 0) := by
 obtain ⟨k1,k2,h2⟩ := h.2 i hi
 exact ⟨k1,k2,vIndex_list .i64 h2 rfl rfl⟩
structure ED where
 kt : LK
 tvs : List PV
 og : Option Nat
 gg : Nat
 gs : List PV
 pm : Nat
 pv : Nat
 pes : List (PV × PV)
 qm : Nat
 qv : Nat
 qes : List (PV × PV)
 nm : Nat
 cl : Nat → Nat
 clc : Nat → Nat
def ED.gb (d : ED) : Nat := d.og.getD 0
def ED.gv (d : ED) : PV := match d.og with
 | some b => .sref b d.gg 2 0 d.gs.length
 | none => .list .nil []
def ED.gF (d : ED) : List (Nat × Blk) := match d.og with
 | some b => [(b,.arr d.gg 2 d.gs)]
 | none => []
def ED.fx (d : ED) : List PV := [.list d.kt d.tvs,d.gv,.mref d.pm,.mref d.qm,.mref d.nm]
def ED.F (d : ED) : List (Nat × Blk) := (d.pm,.map d.pv d.pes) :: (d.qm,.map d.qv d.qes) :: d.gF
def ndG (l : Tbl) (x : Nat) : Nat := (gN l).getD x 0
def gix (l : Tbl) (m : Nat) : Nat := l.length + (procs l).idxOf m
structure Env (l : Tbl) (d : ED) : Prop where
 ok : OkT l
 few : l.length ≤ 512
 tab : TabV l d.tvs
 gl : d.gs.length = (gN l).length
 go : d.gs ≠ [] → ∃ b,d.og = some b
 grp : ∀ x,x < (gN l).length → ∃ k,d.gs[x]? = some (.agg [.list k ((nodeL l (ndG l x)).map (pvSlG l)),pvN (d.cl x)]) ∧ (nodeL l (ndG l x)).length ≤ 1000
 par : ∀ m ∈ procs l,∃ i,vFind .int (pvN m) d.pes 0 = some (some (i,pvN (gix l m)))
 prt : ∀ m,m < l.length → unionK (mAtM l m) = true → ∃ i k,vFind .int (pvN m) d.qes 0 = some (some (i,.list k ((mAtM l m).elems.2.map pvI)))
 cod : ∀ x,x < (gN l).length → d.clc (repT l (ndG l x)) = d.cl x
 inj : ∀ x ∈ gN l,∀ y ∈ gN l,d.clc (repT l x) = d.clc (repT l y) → repT l x = repT l y
theorem ndG_mode {l : Tbl} {x : Nat} (h : x < l.length) : ndG l x = x := by
 unfold ndG gN
 rw [List.getD_eq_getElem?_getD,List.getElem?_append_left (by simpa using h),List.getElem?_range h]
 rfl
theorem gN_at {l : Tbl} {m : Nat} (hm : m ∈ procs l) : (gN l)[gix l m]? = some (l.length + m) := by
 unfold gN gix
 rw [List.getElem?_append_right (by simp),List.length_range,Nat.add_sub_cancel_left,List.getElem?_map]
 have h1 := List.idxOf_lt_length_of_mem hm
 rw [List.getElem?_eq_getElem h1,List.getElem_idxOf h1]
 rfl
theorem gix_lt {l : Tbl} {m : Nat} (hm : m ∈ procs l) : gix l m < (gN l).length := (List.getElem?_eq_some_iff.1 (gN_at hm)).1
theorem ndG_par {l : Tbl} {m : Nat} (hm : m ∈ procs l) : ndG l (gix l m) = l.length + m := by
 unfold ndG
 rw [List.getD_eq_getElem?_getD,gN_at hm]
 rfl
theorem ndG_mem {l : Tbl} {x : Nat} (h : x < (gN l).length) : ndG l x ∈ gN l := by
 unfold ndG
 rw [List.getD_eq_getElem?_getD,List.getElem?_eq_getElem h]
 exact List.getElem_mem h
theorem mode_lt_gN {l : Tbl} {x : Nat} (h : x < l.length) : x < (gN l).length := by rw [gN_len]; omega
theorem Env.same {l : Tbl} {d : ED} (E : Env l d) {x y : Nat} (hx : x < (gN l).length) (hy : y < (gN l).length) : d.cl x = d.cl y ↔ repT l (ndG l x) = repT l (ndG l y) := by
 rw [← E.cod x hx,← E.cod y hy]
 exact ⟨E.inj _ (ndG_mem hx) _ (ndG_mem hy),fun h => by rw [h]⟩
def numE (d : ED) (T : List Key) : List (PV × PV) := (nodesT T).mapIdx fun i c => (pvN (d.clc c),pvN i)
theorem vFind_num {f : Nat → Nat} {c0 : Nat} : ∀ (cs : List Nat) (j n : Nat),(∀ c ∈ cs,f c = f c0 → c = c0) → vFind .int (pvN (f c0)) (cs.mapIdx fun i c => (pvN (f c),pvN (j + i))) n = if c0 ∈ cs then some (some (n + cs.idxOf c0,pvN (j + cs.idxOf c0))) else some none
 | [],j,n,_ => rfl
 | c :: cs,j,n,h => by
  rw [List.mapIdx_cons]
  simp only [vFind]
  have hv : vEqS .int (pvN (f c0)) (pvN (f c)) = some (decide (f c0 = f c)) := by
   simp only [pvN,pvI,vEqS,if_true]
   congr 1
   by_cases he : f c0 = f c
   ·rw [he]; simp
   ·rw [decide_eq_false he]
    exact beq_eq_false_iff_ne.2 (by omega)
  rw [hv]
  by_cases hc : c = c0
  ·subst hc
   simp
  ·have hne : f c0 ≠ f c := fun he => hc (h c (by simp) he.symm)
   rw [decide_eq_false hne]
   simp only
   have e : (cs.mapIdx fun i c => (pvN (f c),pvN (j + (i + 1)))) = cs.mapIdx fun i c => (pvN (f c),pvN (j + 1 + i)) := by
    congr 1
    funext i c
    rw [Nat.add_assoc,Nat.add_comm 1 i]
   rw [e,vFind_num cs (j + 1) (n + 1) fun c hc => h c (by simp [hc])]
   have hm : c0 ∈ c :: cs ↔ c0 ∈ cs := by simp [Ne.symm hc]
   have hi : (c :: cs).idxOf c0 = cs.idxOf c0 + 1 := by have h0 : (c == c0) = false := beq_eq_false_iff_ne.2 hc; rw [List.idxOf_cons,h0]; rfl
   by_cases hcm : c0 ∈ cs
   ·rw [if_pos hcm,if_pos (hm.2 hcm),hi]
    congr 3
    ·omega
    ·congr 1; omega
   ·rw [if_neg hcm,if_neg (fun h => hcm (hm.1 h))]
structure OV where
 om : Option Nat
 ou : Option Nat
 os : Option Nat
 oa : Option Nat
 ob : Option Nat
 mv : PV
 uv : PV
 sv : PV
 av : PV
 bv : PV
def OV.cv (x : OV) : List PV := [x.mv,x.uv,x.sv,x.av,x.bv]
def S5 (A : LC) (uo so : List Nat) (x : OV) : List Sl5 := [⟨x.om,1,x.mv,A.ms⟩,⟨x.ou,1,x.uv,A.us⟩,⟨x.os,2,x.sv,A.gs⟩,⟨x.oa,1,x.av,uo.map pvN⟩,⟨x.ob,1,x.bv,so.map pvN⟩]
def ow (d : ED) (p : Nat) (x : OV) : List Nat := owL p [(d.nm,.dead)] (S5 ⟨[],[],[],[]⟩ [] [] x)
noncomputable def uniM (l : Tbl) (m : Nat) : List Nat := (elemsN (mAtM l m)).map (repT l)
noncomputable def sigM (l : Tbl) (m : Nat) : Nat × Nat := (repT l (l.length + m),repT l (lastE (mAtM l m)))
structure MS (l : Tbl) (d : ED) (σ : St) (p : Nat) (A : LC) (uo so : List Nat) (x : OV) : Prop where
 lay : ∃ ver,Lay σ p d.fx [(d.nm,.map ver (numE d A.T))] d.F (S5 A uo so x) x.cv
 fit : A.Fit
 sub : ∀ k ∈ A.T,k ∈ univ l
 flat : ∀ v,v ∈ A.ms ∨ v ∈ A.us ∨ v ∈ A.gs → Flat v
 uu : uo.map (uniM l) = unisT A.T
 ul : ∀ m ∈ uo,m < l.length ∧ unionK (mAtM l m) = true
 ss : so.map (sigM l) = sigsT A.T
 sl : ∀ m ∈ so,m ∈ procs l
 big : A.T.length + free (univ l) A.T ≤ 4 * l.length
structure MS0 (l : Tbl) (d : ED) (σ : St) (p : Nat) (A : LC) (uo so : List Nat) (x : OV) : Prop where
 lay : ∃ ver,Lay σ p d.fx [(d.nm,.map ver (numE d A.T))] d.F (S5 A uo so x) x.cv
 sub : ∀ k ∈ A.T,k ∈ univ l
 uu : uo.map (uniM l) = unisT A.T
 ul : ∀ m ∈ uo,m < l.length ∧ unionK (mAtM l m) = true
 ss : so.map (sigM l) = sigsT A.T
 sl : ∀ m ∈ so,m ∈ procs l
theorem MS.z {l : Tbl} {d : ED} {σ : St} {p : Nat} {A : LC} {uo so : List Nat} {x : OV} (M : MS l d σ p A uo so x) : MS0 l d σ p A uo so x := ⟨M.lay,M.sub,M.uu,M.ul,M.ss,M.sl⟩
section
variable {l : Tbl} {d : ED} {σ : St} {p : Nat} {A : LC} {uo so : List Nat} {x : OV}
theorem MS0.cell (h : MS0 l d σ p A uo so x) {j : Nat} {v : PV} (hj : (d.fx ++ x.cv)[j]? = some v) : vLoad false 1 (.ptr p 0 0 j) σ = some v := by
 obtain ⟨ver,h⟩ := h.lay
 exact h.load hj
theorem MS0.pre {σ' : St} (h : MS0 l d σ p A uo so x) (hp : σ <+: σ') : MS0 l d σ' p A uo so x := by
 obtain ⟨⟨ver,h1⟩,h2,h3,h4,h5,h6⟩ := h
 exact ⟨⟨ver,h1.pre hp⟩,h2,h3,h4,h5,h6⟩
theorem MS.pre {σ' : St} (h : MS l d σ p A uo so x) (hp : σ <+: σ') : MS l d σ' p A uo so x := by
 obtain ⟨⟨ver,h1⟩,h2,h3,h4,h5,h6,h7,h8,h9⟩ := h
 exact ⟨⟨ver,h1.pre hp⟩,h2,h3,h4,h5,h6,h7,h8,h9⟩
theorem Env.has (E : Env l d) {g : Nat} (hg : g < (gN l).length) : ∃ b,d.og = some b := E.go fun h => by
 have := E.gl
 rw [h] at this
 simp only [List.length_nil] at this
 omega
theorem MS0.gblk (h : MS0 l d σ p A uo so x) {b : Nat} (hb : d.og = some b) : σ[d.gb]? = some (.arr d.gg 2 d.gs) := by
 obtain ⟨ver,h⟩ := h.lay
 have e : d.gb = b := by simp [ED.gb,hb]
 rw [e]
 exact h.fs (b,.arr d.gg 2 d.gs) (by simp [ED.F,ED.gF,hb])
theorem Env.gidx (E : Env l d) {g : Nat} (hg : g < (gN l).length) : vIndex 2 d.gv (pvN g) = some (.ptr d.gb d.gg g 0) := by
 obtain ⟨b,hb⟩ := E.has hg
 simp only [ED.gv,ED.gb,hb,vIndex,pvN,pvI]
 rw [if_pos ⟨by omega,by rw [E.gl]; omega,trivial⟩]
 simp
theorem MS0.cls (h : MS0 l d σ p A uo so x) (E : Env l d) {g : Nat} (hg : g < (gN l).length) : vLoad false 1 (.ptr d.gb d.gg g 1) σ = some (pvN (d.cl g)) := by
 obtain ⟨k,hk,_⟩ := E.grp g hg
 obtain ⟨b,hb⟩ := E.has hg
 simp only [vLoad,h.gblk hb,if_true,hk]
 rfl
theorem MS0.slots (h : MS0 l d σ p A uo so x) (E : Env l d) {g : Nat} (hg : g < (gN l).length) : ∃ k,vLoad false 1 (.ptr d.gb d.gg g 0) σ = some (.list k ((nodeL l (ndG l g)).map (pvSlG l))) ∧ (nodeL l (ndG l g)).length ≤ 1000 := by
 obtain ⟨k,hk,hl⟩ := E.grp g hg
 obtain ⟨b,hb⟩ := E.has hg
 exact ⟨k,by simp only [vLoad,h.gblk hb,if_true,hk]; rfl,hl⟩
theorem MS0.find (h : MS0 l d σ p A uo so x) (E : Env l d) {g : Nat} (hg : g < (gN l).length) (ok : Bool) : vLookup .int (.int .i64 0) ok (.mref d.nm) (pvN (d.cl g)) σ =
  some (if Key.node (repT l (ndG l g)) ∈ A.T then (if ok then .tuple [pvN (rankK A.T (.node (repT l (ndG l g)))),.bool true] else pvN (rankK A.T (.node (repT l (ndG l g)))))
   else (if ok then .tuple [.int .i64 0,.bool false] else .int .i64 0)) := by
 obtain ⟨ver,hl⟩ := h.lay
 have hb := hl.qs (d.nm,.map ver (numE d A.T)) (by simp)
 simp only at hb
 have hf := vFind_num (f := d.clc) (c0 := repT l (ndG l g)) (nodesT A.T) 0 0 (fun c hc he => by
  obtain ⟨y,hy,rfl⟩ := univ_codes (h.sub _ (mem_nodesT.1 hc))
  exact E.inj _ hy _ (ndG_mem hg) he)
 simp only [Nat.zero_add] at hf
 rw [E.cod g hg] at hf
 have hk : isKey .int (pvN (d.cl g)) = true := rfl
 simp only [vLookup,hb,hk,if_true]
 unfold numE
 rw [hf]
 by_cases hm : Key.node (repT l (ndG l g)) ∈ A.T
 ·rw [if_pos (mem_nodesT.2 hm),if_pos hm]
  rfl
 ·rw [if_neg (fun h => hm (mem_nodesT.1 h)),if_neg hm]
theorem MS.cell (h : MS l d σ p A uo so x) {j : Nat} {v : PV} (hj : (d.fx ++ x.cv)[j]? = some v) : vLoad false 1 (.ptr p 0 0 j) σ = some v := h.z.cell hj
theorem MS.cls (h : MS l d σ p A uo so x) (E : Env l d) {g : Nat} (hg : g < (gN l).length) : vLoad false 1 (.ptr d.gb d.gg g 1) σ = some (pvN (d.cl g)) := h.z.cls E hg
theorem MS.slots (h : MS l d σ p A uo so x) (E : Env l d) {g : Nat} (hg : g < (gN l).length) : ∃ k,vLoad false 1 (.ptr d.gb d.gg g 0) σ = some (.list k ((nodeL l (ndG l g)).map (pvSlG l))) ∧ (nodeL l (ndG l g)).length ≤ 1000 := h.z.slots E hg
theorem MS.find (h : MS l d σ p A uo so x) (E : Env l d) {g : Nat} (hg : g < (gN l).length) (ok : Bool) : vLookup .int (.int .i64 0) ok (.mref d.nm) (pvN (d.cl g)) σ =
  some (if Key.node (repT l (ndG l g)) ∈ A.T then (if ok then .tuple [pvN (rankK A.T (.node (repT l (ndG l g)))),.bool true] else pvN (rankK A.T (.node (repT l (ndG l g)))))
   else (if ok then .tuple [.int .i64 0,.bool false] else .int .i64 0)) := h.z.find E hg ok
theorem Env.elems (E : Env l d) {m : Nat} (hm : m < l.length) {e : Int} (he : e ∈ (mAtM l m).elems.2) : e = ((e.toNat : Nat) : Int) ∧ e.toNat < l.length := by
 obtain ⟨h1,h2,h3⟩ := plain_elem E.ok.plain (mAtM_mem hm) he
 exact ⟨h3.symm,h2⟩
end
theorem ptr_box (p : Nat) : opC.vBoxAny (.ptr p 0 0 0) = some (1,.ptr p 0 0 0) := rfl
theorem new_load {σ : St} {x : PV} (hx : vPart false 1 x 0 = some x) (τ : St) : vLoad false 1 (.ptr σ.length 0 0 0) (σ ++ .arr 0 1 [x] :: τ) = some x :=
 load_cell (g := 0) (z := 1) (xs := [x]) (x := x) (by simp) rfl hx
theorem c188 {xs ys : List Int} {k k' : LK} {f kk : Nat} {caps : List PV} {σ : St} (q : Int → Int → Bool) (hf : hasBody f = true) (hl : xs.length < 4611686018427387904)
  (h : ∀ a ∈ xs,∀ b ∈ ys,Ret W f (argsF kk [pvI a,pvI b] caps) σ (.bool (q a b))) {R : Res → St → Prop}
  (hR : ∀ b : Bool,(b = true ↔ xs.length = ys.length ∧ ∀ (i : Nat) (a c : Int),xs[i]? = some a → ys[i]? = some c → q a c = true) → R (.ret (.bool b)) σ) :
  W 188 [.list k (xs.map pvI),.list k' (ys.map pvI),.func f kk caps] σ R := by
 refine callW_fold ?_
 rw [fn188_eq]
 delta fn188 bF kF nI
 simp only [List.length_map,zz,Nat.reduceEqDiff]
 refine condB (fun hne => weakW_keep (hR false (iff_of_false (by simp) fun hh => ?_))) (fun he => ?_)
 ·simp only [bne_iff_ne,ne_eq] at hne
  exact hne (by rw [hh.1])
 have hlen : xs.length = ys.length := by
  simp only [bne_eq_false_iff_eq] at he
  exact_mod_cast he
 refine Lfp_up xs.length (fun i z σ' => z = lookP [(1,.list k' (ys.map pvI)),(2,.func f kk caps),(15,.list k (xs.map pvI)),(16,.int .i64 xs.length),(17,.int .i64 i)] ∧ σ' = σ ∧ ∀ (j : Nat) (a c : Int),j < i → xs[j]? = some a → ys[j]? = some c → q a c = true) ?_ ⟨rfl,rfl,fun j _ _ hj => absurd hj (by omega)⟩
 rintro Φ i z σ' hi ⟨rfl,rfl,hp⟩ next
 simp only [zz,Nat.reduceEqDiff]
 by_cases hlt : i < xs.length
 ·have hc : xs[i]? = some xs[i] := by simp [hlt]
  have hd : ys[i]? = some (ys[i]'(by omega)) := by simp
  have hcm : xs[i] ∈ xs := by simp
  have hdm : (ys[i]'(by omega)) ∈ ys := by simp
  generalize xs[i] = a at hc hcm
  generalize (ys[i]'(by omega)) = c at hd hdm
  simp only [hlt,encInt.index hc,encInt.index hd,encInt.part,callG_func hf,zz,Nat.reduceEqDiff]
  refine (h a hcm c hdm).callB ?_
  cases hq : q a c with
  | false =>
   simp only [zz,Nat.reduceEqDiff]
   refine weakW_keep (hR false (iff_of_false (by simp) fun hh => ?_))
   rw [hh.2 i a c hc hd] at hq
   cases hq
  | true =>
   simp only [zz,Nat.reduceEqDiff]
   rw [vBin_add _ (by omega) (by omega)]
   simp only [zz,Nat.reduceEqDiff]
   refine next _ _ hlt ⟨rfl,rfl,fun j a' c' hj h1 h2 => ?_⟩
   by_cases hji : j = i
   ·subst hji
    rw [hc] at h1
    rw [hd] at h2
    cases h1; cases h2
    exact hq
   ·exact hp j a' c' (by omega) h1 h2
 ·simp only [hlt,zz,Nat.reduceEqDiff]
  exact weakW_keep (hR true (iff_of_true rfl ⟨hlen,fun j a c h1 h2 => hp j a c (by have := (List.getElem?_eq_some_iff.1 h1).1; omega) h1 h2⟩))
section
variable {l : Tbl} {d : ED} {σ : St} {p : Nat} {A : LC} {uo so : List Nat} {x : OV}
theorem c189 (M : MS0 l d σ p A uo so x) (E : Env l d) {g h : Nat} (hg : g < (gN l).length) (hh : h < (gN l).length) {q : PV} (hq : vLoad false 1 q σ = some (.ptr p 0 0 0)) :
  Ret W 189 [pvN g,pvN h,q] σ (.bool (d.cl g == d.cl h)) := by
 refine ret_of fun R hR => ?_
 rw [fn189_eq]
 delta fn189 bF lF
 have h1 : vLoad false 1 (.ptr p 0 0 1) σ = some d.gv := M.cell rfl
 have hn : vNil (.ptr p 0 0 0) = some (.ptr p 0 0 0) := rfl
 simp only [hq,hn,h1,E.gidx hg,E.gidx hh,M.cls E hg,M.cls E hh,zz,Nat.reduceEqDiff]
 simp only [pvN,pvI,zz]
 refine weakW_keep ?_
 have : ((d.cl g : Int) == (d.cl h : Int)) = (d.cl g == d.cl h) := by
  cases hc : (d.cl g == d.cl h) with
  | true => rw [eq_of_beq hc]; simp
  | false =>
   rw [beq_eq_false_iff_ne] at hc ⊢
   omega
 rw [this]
 exact hR
theorem c108 (M : MS0 l d σ p A uo so x) (E : Env l d) {xs ys : List Int} {k k' : LK} (hx : ∀ a ∈ xs,a = ((a.toNat : Nat) : Int) ∧ a.toNat < (gN l).length) (hy : ∀ a ∈ ys,a = ((a.toNat : Nat) : Int) ∧ a.toNat < (gN l).length) (hl : xs.length < 4611686018427387904) :
  Ret W 108 [.ptr p 0 0 0,.list k (xs.map pvI),.list k' (ys.map pvI)] σ (.bool (decide (xs.map (fun a => d.cl a.toNat) = ys.map (fun a => d.cl a.toNat)))) := by
 refine ret_of fun R hR => ?_
 rw [fn108_eq]
 delta fn108
 simp only [ptr_box,zz,Nat.zero_lt_one,newW_eq,Nat.reduceEqDiff]
 have hld : vLoad false 1 (.ptr σ.length 0 0 0) (σ ++ [.arr 0 1 [.ptr p 0 0 0]]) = some (.ptr p 0 0 0) := new_load rfl []
 have M' : MS0 l d (σ ++ [.arr 0 1 [.ptr p 0 0 0]]) p A uo so x := M.pre (List.prefix_append _ _)
 refine c188 (f := 189) (kk := 0) (fun a b => d.cl a.toNat == d.cl b.toNat) (by kernel_rfl) hl (fun a ha b hb => ?_) fun b hb => ?_
 ·obtain ⟨ea,ga⟩ := hx a ha
  obtain ⟨eb,gb⟩ := hy b hb
  have := c189 M' E ga gb hld
  unfold pvN at this
  rw [← ea,← eb] at this
  exact this
 ·show weakW _ _ _ _
  refine weakW_clean (List.prefix_append _ _) (frz_same (.bool _)) ?_
  have : b = decide (xs.map (fun a => d.cl a.toNat) = ys.map (fun a => d.cl a.toNat)) := by
   rw [Bool.eq_iff_iff,hb,decide_eq_true_eq]
   constructor
   ·rintro ⟨h1,h2⟩
    refine List.ext_getElem? fun i => ?_
    rw [List.getElem?_map,List.getElem?_map]
    by_cases hi : i < xs.length
    ·have e1 : xs[i]? = some xs[i] := by simp [hi]
     have e2 : ys[i]? = some (ys[i]'(by omega)) := by simp
     have := h2 i _ _ e1 e2
     rw [e1,e2]
     simp only [Option.map_some]
     rw [eq_of_beq this]
    ·rw [List.getElem?_eq_none (by omega),List.getElem?_eq_none (by omega)]
   ·intro h
    refine ⟨by have := congrArg List.length h; simp only [List.length_map] at this; exact this,fun i a c h1 h2 => ?_⟩
    have := congrArg (fun l => l[i]?) h
    simp only [List.getElem?_map,h1,h2,Option.map_some,Option.some.injEq] at this
    rw [beq_iff_eq]
    exact this
  rw [this]
  exact hR
theorem elems_group (E : Env l d) {m : Nat} (hm : m < l.length) : ∀ a ∈ (mAtM l m).elems.2,a = ((a.toNat : Nat) : Int) ∧ a.toNat < (gN l).length := fun a ha => by
 obtain ⟨h1,h2⟩ := E.elems hm ha
 exact ⟨h1,mode_lt_gN h2⟩
theorem bd_elems (ok : OkT l) {m : Nat} (hm : m < l.length) : (mAtM l m).elems.2.length ≤ 64 := by
 have := ok.plain _ (mAtM_mem hm)
 simp only [plainOk,shapeOk,Bool.and_eq_true,decide_eq_true_eq] at this
 exact this.1.1.1.2
theorem map_cl {E : Env l d} {xs ys : List Nat} (hx : ∀ a ∈ xs,a < l.length) (hy : ∀ a ∈ ys,a < l.length) : xs.map d.cl = ys.map d.cl ↔ xs.map (repT l) = ys.map (repT l) := by
 induction xs generalizing ys with
 | nil => cases ys <;> simp
 | cons a xs ih => cases ys with
  | nil => simp
  | cons b ys =>
   simp only [List.map_cons,List.cons.injEq]
   have ha := hx a (by simp)
   have hb := hy b (by simp)
   rw [ih (fun a h => hx a (by simp [h])) (fun a h => hy a (by simp [h])),E.same (mode_lt_gN ha) (mode_lt_gN hb),ndG_mode ha,ndG_mode hb]
theorem c195 (M : MS0 l d σ p A uo so x) (E : Env l d) {m o : Nat} (hm : m < l.length) (hmu : unionK (mAtM l m) = true) (ho : o < l.length) (hou : unionK (mAtM l o) = true) {q1 q2 : PV} (h1 : vLoad false 1 q1 σ = some (.ptr p 0 0 0)) (h2 : vLoad false 1 q2 σ = some (pvN m)) :
  Ret W 195 [pvN o,q1,q2] σ (.bool (decide (uniM l o = uniM l m))) := by
 refine ret_of fun R hR => ?_
 rw [fn195_eq]
 delta fn195 lF nL
 have h3 : vLoad false 1 (.ptr p 0 0 3) σ = some (.mref d.qm) := M.cell rfl
 have hn : vNil (.ptr p 0 0 0) = some (.ptr p 0 0 0) := rfl
 have hqb : σ[d.qm]? = some (.map d.qv d.qes) := by
  obtain ⟨ver,h⟩ := M.lay
  exact h.fs (d.qm,.map d.qv d.qes) (by simp [ED.F])
 have hlk : ∀ o,o < l.length → unionK (mAtM l o) = true → ∃ k,vLookup .int (.list .nil []) false (.mref d.qm) (pvN o) σ = some (.list k ((mAtM l o).elems.2.map pvI)) := by
  intro o ho hou
  obtain ⟨i,k,hf⟩ := E.prt o ho hou
  refine ⟨k,?_⟩
  have hk : isKey .int (pvN o) = true := rfl
  simp only [vLookup,hqb,hk,if_true,hf]
  rfl
 obtain ⟨ko,lo⟩ := hlk o ho hou
 obtain ⟨km,lm⟩ := hlk m hm hmu
 simp only [h1,h2,hn,h3,lo,lm,zz,Nat.reduceEqDiff]
 have hb := bd_elems E.ok ho
 refine (c108 M E (elems_group E ho) (elems_group E hm) (by omega)).callB (weakW_keep ?_)
 have : decide ((mAtM l o).elems.2.map (fun a => d.cl a.toNat) = (mAtM l m).elems.2.map (fun a => d.cl a.toNat)) = decide (uniM l o = uniM l m) := by
  congr 1
  have e : ∀ o,(mAtM l o).elems.2.map (fun a => d.cl a.toNat) = (elemsN (mAtM l o)).map d.cl := fun o => by unfold elemsN; rw [List.map_map]; rfl
  rw [e,e]
  exact propext (map_cl (E := E) (fun a ha => elem_lt E.ok ha) (fun a ha => elem_lt E.ok ha))
 rw [this]
 exact hR
theorem c109 (M : MS0 l d σ p A uo so x) (E : Env l d) {m : Nat} (hm : m ∈ procs l) : Ret W 109 [.ptr p 0 0 0,pvN m] σ (.list .full [pvN (gix l m),pvN (lastE (mAtM l m))]) := by
 refine ret_of fun R hR => ?_
 rw [fn109_eq]
 delta fn109 bF lF nI
 obtain ⟨hml,hmp⟩ := mem_procs.1 hm
 obtain ⟨k1,k2,hix⟩ := E.tab.index hml d.kt
 have h0 : vLoad false 1 (.ptr p 0 0 0) σ = some (.list d.kt d.tvs) := M.cell rfl
 have h2 : vLoad false 1 (.ptr p 0 0 2) σ = some (.mref d.pm) := M.cell rfl
 have hn : vNil (.ptr p 0 0 0) = some (.ptr p 0 0 0) := rfl
 have hqb : σ[d.pm]? = some (.map d.pv d.pes) := by
  obtain ⟨ver,h⟩ := M.lay
  exact h.fs (d.pm,.map d.pv d.pes) (by simp [ED.F])
 obtain ⟨i,hf⟩ := E.par m hm
 have hlk : vLookup .int (.int .i64 0) false (.mref d.pm) (pvN m) σ = some (pvN (gix l m)) := by
  have hk : isKey .int (pvN m) = true := rfl
  simp only [vLookup,hqb,hk,if_true,hf]
  rfl
 have hp2 : vPart false 1 (pvModeK k1 k2 (mAtM l m)) 2 = some (.list k1 ((mAtM l m).elems.2.map pvI)) := rfl
 have hne := parts_pos E.ok hml (.inr hmp)
 have hpos : 0 < (mAtM l m).elems.2.length := by
  rcases Nat.eq_zero_or_pos (mAtM l m).elems.2.length with h | h
  ·exact absurd (by unfold elemsN; rw [List.eq_nil_of_length_eq_zero h]; rfl) hne
  ·exact h
 have hb := bd_elems E.ok hml
 simp only [hn,h0,h2,hix,hlk,hp2,List.length_map,zz,Nat.reduceEqDiff]
 rw [vBin_sub _ (by omega) (by omega)]
 have hlast : (mAtM l m).elems.2[(mAtM l m).elems.2.length - 1]? = some ((lastE (mAtM l m) : Nat) : Int) := by
  have hg : (elemsN (mAtM l m))[(mAtM l m).elems.2.length - 1]? = some (lastE (mAtM l m)) := by
   unfold lastE
   rw [List.getLastD_eq_getLast?,List.getLast?_eq_getElem?]
   have : (elemsN (mAtM l m)).length = (mAtM l m).elems.2.length := by simp [elemsN]
   rw [this]
   have : (elemsN (mAtM l m))[(mAtM l m).elems.2.length - 1]? = some ((elemsN (mAtM l m))[(mAtM l m).elems.2.length - 1]'(by omega)) := by simp
   rw [this]
   rfl
  unfold elemsN at hg
  rw [List.getElem?_map] at hg
  cases he : (mAtM l m).elems.2[(mAtM l m).elems.2.length - 1]? with
  | none => rw [he] at hg; cases hg
  | some e =>
   rw [he] at hg
   simp only [Option.map_some,Option.some.injEq] at hg
   rw [← hg,← (E.elems hml (List.mem_of_getElem? he)).1]
 have hcast : (((mAtM l m).elems.2.length : Int) - 1) = (((mAtM l m).elems.2.length - 1 : Nat) : Int) := by omega
 rw [hcast]
 have hv : ∀ a b : PV,a.cells? = some [a] → b.cells? = some [b] → vBuildSl 1 (List.replicate 2 (.int .i64 0)) [(0,a),(1,b)] = some [a,b] := by
  intro a b ha hb
  simp [vBuildSl,ha,hb]
 simp only [encInt.index hlast,encInt.part,hv (pvN (gix l m)) (pvI ((lastE (mAtM l m) : Nat) : Int)) rfl rfl,zz,Nat.reduceEqDiff]
 exact weakW_keep hR
theorem c107 (M : MS0 l d σ p A uo so x) (E : Env l d) {m o : Nat} (hm : m ∈ procs l) (ho : o ∈ procs l) {q1 q2 : PV} (h1 : vLoad false 1 q1 σ = some (.ptr p 0 0 0)) (h2 : vLoad false 1 q2 σ = some (pvN m)) :
  Ret W 107 [pvN o,q1,q2] σ (.bool (decide (sigM l o = sigM l m))) := by
 refine ret_of fun R hR => ?_
 rw [fn107_eq]
 delta fn107
 simp only [h1,h2,zz,Nat.reduceEqDiff]
 refine (c109 M E ho).callC ?_
 refine (c109 M E hm).callC ?_
 have g1 : ∀ o ∈ procs l,∀ a ∈ [((gix l o : Nat) : Int),((lastE (mAtM l o) : Nat) : Int)],a = ((a.toNat : Nat) : Int) ∧ a.toNat < (gN l).length := by
  intro o ho a ha
  obtain ⟨hol,hop⟩ := mem_procs.1 ho
  simp only [List.mem_cons,List.not_mem_nil,or_false] at ha
  rcases ha with rfl | rfl
  ·exact ⟨by omega,by have := gix_lt ho; omega⟩
  ·exact ⟨by omega,by have := mode_lt_gN (proc_last E.ok hol hop); omega⟩
 have := c108 M E (xs := [((gix l o : Nat) : Int),((lastE (mAtM l o) : Nat) : Int)]) (ys := [((gix l m : Nat) : Int),((lastE (mAtM l m) : Nat) : Int)]) (k := .full) (k' := .full) (g1 o ho) (g1 m hm) (by simp)
 refine this.callB (weakW_keep ?_)
 have e : decide ([((gix l o : Nat) : Int),((lastE (mAtM l o) : Nat) : Int)].map (fun a => d.cl a.toNat) = [((gix l m : Nat) : Int),((lastE (mAtM l m) : Nat) : Int)].map (fun a => d.cl a.toNat)) = decide (sigM l o = sigM l m) := by
  congr 1
  obtain ⟨hol,hop⟩ := mem_procs.1 ho
  obtain ⟨hml,hmp⟩ := mem_procs.1 hm
  have l1 := proc_last E.ok hol hop
  have l2 := proc_last E.ok hml hmp
  simp only [List.map_cons,List.map_nil,Int.toNat_natCast,List.cons.injEq,and_true,sigM,Prod.mk.injEq]
  rw [E.same (gix_lt ho) (gix_lt hm),E.same (mode_lt_gN l1) (mode_lt_gN l2),ndG_par ho,ndG_par hm,ndG_mode l1,ndG_mode l2]
 rw [e]
 exact hR
end
end Go.Proofs.YteikomnahelckaaGreatDoor
