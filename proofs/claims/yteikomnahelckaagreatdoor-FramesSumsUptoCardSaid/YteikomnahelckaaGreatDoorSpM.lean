import Derived.Test.YteikomnahelckaaGreatDoorSpK
set_option linter.unusedVariables false
set_option linter.unusedSimpArgs false
namespace Go.Proofs.YteikomnahelckaaGreatDoor
open Go Go.Abs
theorem fl_self {S0 : St} {kb ob : Nat} {known out : List Bool} (h1 : S0[kb]? = some (rowB known)) (h2 : S0[ob]? = some (rowB out)) : fl S0 kb ob known out = S0 := by
 have e : ∀ (n : Nat) (b : Blk),S0[n]? = some b → S0.set n b = S0 := by
  intro n b h
  obtain ⟨hn,rfl⟩ := List.getElem?_eq_some_iff.1 h
  exact List.set_getElem_self hn
 unfold fl
 rw [e ob _ h2,e kb _ h1]
def flS (σ : St) (l : List ModeS) (k : LK) : St := σ ++ [.arr 0 1 [.list k (l.map pvMode)],rowB (List.replicate l.length false),.arr 0 1 [.sref (σ.length + 1) 0 1 0 l.length],rowB (List.replicate l.length false),
 .arr 0 1 [.sref (σ.length + 3) 0 1 0 l.length],.arr 0 1 [.func 124 0 [.ptr σ.length 0 0 0,.ptr (σ.length + 4) 0 0 0,.ptr (σ.length + 2) 0 0 0,.ptr (σ.length + 5) 0 0 0]]]
theorem flS_set (σ : St) (l : List ModeS) (k : LK) : FSet (flS σ l k) l k σ.length (σ.length + 4) (σ.length + 2) (σ.length + 5) (σ.length + 3) (σ.length + 1) where
 tab := by simp [flS]
 kn := by simp [flS]
 ou := by simp [flS]
 fn := by simp [flS]
 k1 := by simp [flS]
 o1 := by simp [flS]
 ko := by omega
 ap := by
  intro p hp
  simp at hp
  omega
theorem flS_fl (σ : St) (l : List ModeS) (k : LK) : fl (flS σ l k) (σ.length + 3) (σ.length + 1) (List.replicate l.length false) (List.replicate l.length false) = flS σ l k :=
 fl_self (by simp [flS]) (by simp [flS])
theorem c72 {l : List ModeS} (hl : l.length ≤ 512) (hp : ∀ m ∈ l,plainOk l.length m = true) (hg : ∀ m,m < l.length → ¬ BadM l m) {k : LK} {σ : St} {R : Res → St → Prop}
  (hR : ∀ out : List Bool,out.length = l.length → (∀ j,out[j]? = some true ↔ FlexM l j) → R (.ret (.list .part (out.map PV.bool))) σ) : W 72 [.list k (l.map pvMode)] σ R := by
 refine callW_fold ?_
 rw [fn72_eq]
 delta fn72 bF kF nI nL
 have b0 : opC.vBoxAny (.list k (l.map pvMode)) = some (1,.list k (l.map pvMode)) := rfl
 have l1 : ∀ J : St,vLoad false 1 (.ptr σ.length 0 0 0) (σ ++ (.arr 0 1 [.list k (l.map pvMode)] :: J)) = some (.list k (l.map pvMode)) := fun J => load_cell (g := 0) (z := 1) (xs := [.list k (l.map pvMode)]) (x := .list k (l.map pvMode)) (by simp) rfl rfl
 have mk : ∀ S : St,vMakeSl 1 1 (.bool false) (.int .i64 (l.length : Int)) (.int .i64 (l.length : Int)) S = some (.sref S.length 0 1 0 l.length,S ++ [rowB (List.replicate l.length false)]) := fun S => make_bools hl
 have putS : ∀ (S : St) (b : Nat),vStore 1 (.ptr S.length 0 0 0) (.sref b 0 1 0 l.length) (S ++ [.arr 0 1 [.list .nil []]]) = some (S ++ [.arr 0 1 [.sref b 0 1 0 l.length]]) := fun S b => new_put rfl rfl (fun cs h => by cases h)
 have putF : ∀ (S : St) (f : FuncId) (cs : List PV),vStore 1 (.ptr S.length 0 0 0) (.func f 0 cs) (S ++ [.arr 0 1 [.nilfunc]]) = some (S ++ [.arr 0 1 [.func f 0 cs]]) := fun S f cs => new_put rfl rfl (fun cs h => by cases h)
 simp only [b0,newW_eq,Nat.zero_lt_one,if_true,l1,List.length_map,mk,putS,zz,Nat.reduceEqDiff]
 simp only [List.append_assoc,List.cons_append,List.nil_append,l1,List.length_map,mk,zz,Nat.reduceEqDiff]
 have q1 := putS (σ ++ [.arr 0 1 [.list k (l.map pvMode)],rowB (List.replicate l.length false),.arr 0 1 [.sref (σ.length + 1) 0 1 0 l.length],rowB (List.replicate l.length false)]) (σ.length + 3)
 have q2 := putF (σ ++ [.arr 0 1 [.list k (l.map pvMode)],rowB (List.replicate l.length false),.arr 0 1 [.sref (σ.length + 1) 0 1 0 l.length],rowB (List.replicate l.length false),.arr 0 1 [.sref (σ.length + 3) 0 1 0 l.length]]) 124 [.ptr σ.length 0 0 0,.ptr (σ.length + 4) 0 0 0,.ptr (σ.length + 2) 0 0 0,.ptr (σ.length + 5) 0 0 0]
 simp only [List.length_append,List.length_cons,List.length_nil,Nat.zero_add,Nat.reduceAdd,List.append_assoc,List.cons_append,List.nil_append] at q1 q2 ⊢
 simp only [q1,zz,Nat.reduceEqDiff]
 simp only [List.length_append,List.length_cons,List.length_nil,Nat.zero_add,Nat.reduceAdd,List.append_assoc,List.cons_append,List.nil_append]
 simp only [q2,l1,List.length_map,zz,Nat.reduceEqDiff]
 have hS : (σ ++ [.arr 0 1 [.list k (l.map pvMode)],rowB (List.replicate l.length false),.arr 0 1 [.sref (σ.length + 1) 0 1 0 l.length],rowB (List.replicate l.length false),
  .arr 0 1 [.sref (σ.length + 3) 0 1 0 l.length],.arr 0 1 [.func 124 0 [.ptr σ.length 0 0 0,.ptr (σ.length + 4) 0 0 0,.ptr (σ.length + 2) 0 0 0,.ptr (σ.length + 5) 0 0 0]]] : St) = fl (flS σ l k) (σ.length + 3) (σ.length + 1) (List.replicate l.length false) (List.replicate l.length false) := (flS_fl σ l k).symm
 rw [hS]
 have H := flS_set σ l k
 have hrep : ∀ (j : Nat) (b : Bool),(List.replicate l.length false)[j]? = some b → b = false := fun j b h => by
  rw [List.getElem?_replicate] at h
  split at h
  ·exact (Option.some.inj h).symm
  ·cases h
 refine Lfp_up l.length (fun m x σ' => x = lookP [(3,.ptr (σ.length + 2) 0 0 0),(5,.ptr (σ.length + 5) 0 0 0),(15,.int .i64 l.length),(16,.int .i64 m)] ∧ ∃ kn out,σ' = fl (flS σ l k) (σ.length + 3) (σ.length + 1) kn out ∧ Good l (fun _ => False) kn out ∧ ∀ j,j < m → (rowK (mAtM l j) || structK (mAtM l j)) = true → kn[j]? = some true) ?_
  ⟨rfl,_,_,rfl,⟨by simp,by simp,fun j _ h => absurd (hrep j _ h) (by simp),fun j h => h⟩,fun j hj => absurd hj (by omega)⟩
 rintro Φ m x σ' hm ⟨rfl,kn,out,rfl,hG,hk⟩ next
 simp only [zz,Nat.reduceEqDiff]
 by_cases hlt : m < l.length
 ·simp only [hlt,H.load_fn,callG_func (f := 124) (by kernel_rfl),zz,Nat.reduceEqDiff]
  refine c124 H hl hp hg m hlt (fun _ => False) kn out hG (fun x hx => hx.elim) _ fun b kn2 out2 hb hG2 _ hk2 hm2 => ?_
  show bindO False _ _
  rw [vBin_add _ (by omega) (by omega)]
  simp only [zz,Nat.reduceEqDiff]
  refine next _ _ hlt ⟨rfl,kn2,out2,rfl,hG2,fun j hj hjk => ?_⟩
  by_cases hjm : j = m
  ·subst hjm; exact hk2 hjk
  ·exact hm2 j (hk j (by omega) hjk)
 ·simp only [hlt,H.load_ou,zz,Nat.reduceEqDiff]
  have hpre : σ <+: fl (flS σ l k) (σ.length + 3) (σ.length + 1) kn out := pre_set (pre_set (List.prefix_append _ _) (by omega) _) (by omega) _
  refine weakW_clean hpre (v' := .list .part (out.map PV.bool)) ?_ (hR out hG.ol fun j => ?_)
  ·refine .sref (σ.length + 1) 0 1 0 _ 0 1 _ _ (H.ob_get kn out) rfl (by omega) (by simp [hG.ol]) (by simp [hG.ol]) fun i a d hi ha hd => ?_
   rw [Nat.zero_add,hd] at ha
   cases ha
   obtain ⟨b,_,rfl⟩ := List.mem_map.1 (List.mem_of_getElem? hd)
   exact .base _ (.bool b)
  ·by_cases hj : j < l.length
   ·have hkl := hG.kl
    have hkj : kn[j]? = some (kn[j]'(by omega)) := by simp
    generalize kn[j]'(by omega) = b at hkj
    cases b with
    | true => exact hG.right j (fun h => h) hkj
    | false =>
     have := hG.unk j hkj
     rw [this]
     refine iff_of_false (by simp) fun h => ?_
     have := hk j (by omega) h.kind
     rw [hkj] at this
     cases this
   ·refine iff_of_false (fun h => ?_) (fun h => ?_)
    ·have := (List.getElem?_eq_some_iff.1 h).1
     have := hG.ol
     omega
    ·have hz : mAtM l j = zeroM := by
      unfold mAtM
      rw [List.getD_eq_getElem?_getD,List.getElem?_eq_none (by omega)]
      rfl
     have := h.kind
     rw [hz] at this
     cases this
end Go.Proofs.YteikomnahelckaaGreatDoor
namespace Go.Proofs.YteikomnahelckaaGreatDoor
open Go Go.Abs
theorem c27 {l : List ModeS} (hll : l.length < 4611686018427387904) (hb : ∀ m ∈ l,Bd m) {k : LK} (σ : St) : Err 27 [.list k (l.map pvMode)] σ (OkT l) := by
 refine err_of fun R hR => ?_
 rw [fn27_eq]
 delta fn27 bF pF gF kF nI nL
 simp only [List.length_map,zz,Nat.reduceEqDiff]
 refine condB (fun h => ?_) (fun hfew => ?_)
 ·refine weakW_keep (hR 3 (iff_of_false (by decide) fun hok => ?_))
  have := hok.few
  simp only [decide_eq_true_eq] at h
  omega
 have hl : l.length ≤ 512 := by
  simp only [decide_eq_false_iff_not] at hfew
  omega
 have hput : ∀ m : ModeS,vPut 6 (.agg [(.int .i64 0),(.int .i64 0),(.list .nil []),(.list .nil []),(.int .i64 0),(.bool false)]) 0 (pvMode m) = some (pvMode m) := fun m => rfl
 have hpt : ∀ m : ModeS,vPart true 6 (pvMode m) 0 = some (pvMode m) := fun m => rfl
 refine Lfp_up l.length (fun i x σ' => x = lookP [(0,.list k (l.map pvMode)),(14,.list k (l.map pvMode)),(15,.int .i64 l.length),(16,.int .i64 i)] ∧ σ' = σ ∧ ∀ m ∈ l.take i,plainOk l.length m = true) ?_ ⟨rfl,rfl,by simp⟩
 rintro Φ i x σ' hi ⟨rfl,rfl,hp⟩ next
 simp only [zz,Nat.reduceEqDiff]
 by_cases hlt : i < l.length
 ·have hc : l[i]? = some l[i] := by simp [hlt]
  have hm : l[i] ∈ l := by simp
  generalize l[i] = m at hc hm
  simp only [hlt,encMode.index hc,hpt,hput,zz,Nat.reduceEqDiff]
  refine (c68 hll (hb m hm) _).callB fun e he => ?_
  cases hpm : plainOk l.length m with
  | false =>
   have hne : (e != 0) = true := by
    rw [bne_iff_ne]
    intro h0
    rw [he,hpm] at h0
    cases h0
   simp only [hne,zz,Nat.reduceEqDiff]
   refine weakW_keep (hR e ?_)
   rw [he]
   refine iff_of_false (by simp [hpm]) fun hok => ?_
   have := hok.plain m hm
   rw [hpm] at this
   cases this
  | true =>
   have hne : (e != 0) = false := by simp [he.2 hpm]
   simp only [hne,zz,Nat.reduceEqDiff]
   rw [vBin_add _ (by omega) (by omega)]
   simp only [zz,Nat.reduceEqDiff]
   refine next _ _ hlt ⟨rfl,rfl,fun d hd => ?_⟩
   rw [List.take_add_one,hc] at hd
   rcases List.mem_append.1 hd with hd | hd
   ·exact hp d hd
   ·simp at hd
    subst hd
    exact hpm
 have hpl : ∀ m ∈ l,plainOk l.length m = true := fun m hm => hp m (by rw [List.take_of_length_le (by omega)]; exact hm)
 simp only [hlt,List.length_map,zz,Nat.reduceEqDiff]
 clear next hp Φ
 refine Lfp_up l.length (fun i x σ'' => x = lookP [(0,.list k (l.map pvMode)),(27,.list k (l.map pvMode)),(28,.int .i64 l.length),(29,.int .i64 i)] ∧ σ'' = σ' ∧ ∀ m ∈ l.take i,voidsB l m = false) ?_ ⟨rfl,rfl,by simp⟩
 clear hlt hi i
 rintro Φ i x σ'' hi ⟨rfl,rfl,hv⟩ next
 simp only [zz,Nat.reduceEqDiff]
 by_cases hlt : i < l.length
 ·have hc : l[i]? = some l[i] := by simp [hlt]
  have hm : l[i] ∈ l := by simp
  generalize l[i] = m at hc hm
  simp only [hlt,encMode.index hc,hpt,hput,zz,Nat.reduceEqDiff]
  refine (c69 hll hpl hm (hb m hm) _).callB ?_
  refine condB (fun h => ?_) (fun h => ?_)
  ·refine weakW_keep (hR 7 (iff_of_false (by decide) fun hok => ?_))
   rw [hok.solid m hm] at h
   cases h
  ·rw [vBin_add _ (by omega) (by omega)]
   simp only [zz,Nat.reduceEqDiff]
   refine next _ _ hlt ⟨rfl,rfl,fun d hd => ?_⟩
   rw [List.take_add_one,hc] at hd
   rcases List.mem_append.1 hd with hd | hd
   ·exact hv d hd
   ·simp at hd
    subst hd
    exact h
 have hvl : ∀ m ∈ l,voidsB l m = false := fun m hm => hv m (by rw [List.take_of_length_le (by omega)]; exact hm)
 simp only [hlt,zz,Nat.reduceEqDiff]
 clear next hv Φ
 refine c71 hl hpl fun out hol hbad => ?_
 show callB W 70 _ _ _ _
 refine (c70 (by omega) false _).callB ?_
 refine condB (fun h => ?_) (fun h => ?_)
 ·refine weakW_keep (hR 10 (iff_of_false (by decide) fun hok => ?_))
  obtain ⟨m,hm,hbm⟩ := hbad.1 h
  exact hok.good m hm hbm
 have hg : ∀ m,m < l.length → ¬ BadM l m := fun m hm hbm => by
  rw [hbad.2 ⟨m,hm,hbm⟩] at h
  cases h
 refine c72 hl hpl hg fun fo hfol hfo => ?_
 show newW 1 _ _ _
 have hst : vStore 1 (.ptr σ''.length 0 0 0) (.list .part (fo.map PV.bool)) (σ'' ++ [.arr 0 1 [.list .nil []]]) = some (σ'' ++ [.arr 0 1 [.list .part (fo.map PV.bool)]]) := new_put rfl rfl (fun cs h => by cases h)
 simp only [newW_eq,hst,List.length_map,zz,Nat.reduceEqDiff]
 have hld : vLoad false 1 (.ptr σ''.length 0 0 0) (σ'' ++ [.arr 0 1 [.list .part (fo.map PV.bool)]]) = some (.list .part (fo.map PV.bool)) := load_cell (g := 0) (z := 1) (xs := [.list .part (fo.map PV.bool)]) (x := .list .part (fo.map PV.bool)) (by simp) rfl rfl
 have out' : ∀ e : Int,(e = 0 ↔ OkT l) → weakW σ'' (.int .i64 e) (σ'' ++ [.arr 0 1 [.list .part (fo.map PV.bool)]]) fun v σ => R (.ret v) σ := fun e he =>
  weakW_clean prefix_new (frz_same (.int _ _)) (hR e he)
 refine Lfp_up l.length (fun i x σ3 => x = lookP [(8,.ptr σ''.length 0 0 0),(42,.list k (l.map pvMode)),(43,.int .i64 l.length),(44,.int .i64 i)] ∧ σ3 = σ'' ++ [.arr 0 1 [.list .part (fo.map PV.bool)]] ∧ ∀ m ∈ l.take i,(unionK m || procK m) = true → ∀ e ∈ elemsN m,¬ FlexM l e) ?_ ⟨rfl,rfl,by simp⟩
 clear hlt hi i
 rintro Φ i x σ3 hi ⟨rfl,rfl,hf⟩ next
 simp only [zz,Nat.reduceEqDiff]
 by_cases hlt : i < l.length
 ·have hc : l[i]? = some l[i] := by simp [hlt]
  have hm : l[i] ∈ l := by simp
  generalize l[i] = m at hc hm
  have hp0 : vPart false 1 (pvMode m) 0 = some (.int .i64 m.kind) := rfl
  have hp2 : vPart false 1 (pvMode m) 2 = some (.list m.elems.1 (m.elems.2.map pvI)) := rfl
  simp only [hlt,encMode.index hc,hpt,hput,hp0,zz,Nat.reduceEqDiff]
  refine orG (m.kind == 13) (fun hb' J nx => ?_) ?_
  ·first | exact nx _ rfl | (simp only [hp0,zz,Nat.reduceEqDiff]; exact nx _ rfl)
  have hup : (m.kind == 12 || m.kind == 13) = (unionK m || procK m) := rfl
  rw [hup]
  have hany : ∀ b : Bool,m.elems.2.any (fun i => fo.getD i.toNat false) = b → (b = true ↔ ∃ e ∈ elemsN m,FlexM l e) := by
   rintro b rfl
   rw [List.any_eq_true]
   constructor
   ·rintro ⟨e,he,h⟩
    refine ⟨e.toNat,List.mem_map.2 ⟨e,he,rfl⟩,(hfo e.toNat).1 ?_⟩
    rw [List.getD_eq_getElem?_getD] at h
    cases hq : fo[e.toNat]? with
    | none => rw [hq] at h; cases h
    | some v => rw [hq] at h; simpa using h
   ·rintro ⟨e,he,h⟩
    obtain ⟨e',he',rfl⟩ := List.mem_map.1 he
    refine ⟨e',he',?_⟩
    rw [List.getD_eq_getElem?_getD,(hfo e'.toNat).2 h]
    rfl
  refine andG (m.elems.2.any (fun i => fo.getD i.toNat false)) (fun hb' J nx => ?_) ?_
  ·simp only [hp2,zz,Nat.reduceEqDiff]
   refine (c73 encInt (fun i => fo.getD i.toNat false) (by kernel_rfl) (by have := (hb m hm).elems; omega) (fun a ha => ?_)).callB ?_
   ·obtain ⟨a0,aL,aI⟩ := plain_elem hpl hm ha
    have hfa : fo[a.toNat]? = some (fo.getD a.toNat false) := by
     rw [List.getD_eq_getElem?_getD]
     have : a.toNat < fo.length := by omega
     simp [this]
    have hpe : pvI a = .int .i64 ((a.toNat : Nat) : Int) := by rw [aI]; rfl
    rw [hpe]
    exact c74 hfa hld
   ·exact nx _ rfl
  refine condB (fun h => ?_) (fun h => ?_)
  ·refine out' 7 (iff_of_false (by decide) fun hok => ?_)
   simp only [Bool.and_eq_true] at h
   obtain ⟨e,he,hfe⟩ := (hany _ rfl).1 h.2
   exact hok.firm m hm h.1 e he hfe
  ·rw [vBin_add _ (by omega) (by omega)]
   simp only [zz,Nat.reduceEqDiff]
   refine next _ _ hlt ⟨rfl,rfl,fun d hd => ?_⟩
   rw [List.take_add_one,hc] at hd
   rcases List.mem_append.1 hd with hd | hd
   ·exact hf d hd
   ·simp at hd
    subst hd
    intro hk e he hfe
    rw [hk,(hany _ rfl).2 ⟨e,he,hfe⟩] at h
    cases h
 ·simp only [hlt,zz,Nat.reduceEqDiff]
  refine out' 0 (iff_of_true rfl ⟨hl,hpl,hvl,hg,fun m hm => hf m (by rw [List.take_of_length_le (by omega)]; exact hm)⟩)
end Go.Proofs.YteikomnahelckaaGreatDoor
