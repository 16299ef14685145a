import Derived.Test.YtgghfcchanilpaaGreatDoorSpRc
set_option linter.unusedVariables false
set_option linter.unusedSimpArgs false
namespace Go.Proofs.YtgghfcchanilpaaGreatDoor
open Go Go.Abs
inductive Flat : PV → Prop where
 | bool (b) : Flat (.bool b)
 | int (k i) : Flat (.int k i)
 | str (l) : Flat (.str l)
 | list (k xs) : (∀ x ∈ xs,Flat x) → Flat (.list k xs)
 | agg (xs) : (∀ x ∈ xs,Flat x) → Flat (.agg xs)
theorem Flat.free {x : PV} (h : Flat x) (D : Nat → Prop) : Free D x := by
 induction h with
 | bool b => exact .bool b
 | int k i => exact .int k i
 | str l => exact .str l
 | list k xs _ ih => exact .list k xs fun i x hx => ih x (List.mem_of_getElem? hx)
 | agg xs _ ih => exact .agg xs fun i x hx => ih x (List.mem_of_getElem? hx)
theorem flat_grow {ys : List PV} (h : ∀ y ∈ ys,Flat y) : Flat (growV ys) := by
 cases ys with
 | nil => exact .list _ _ (by simp)
 | cons y ys => exact .list _ _ h
theorem grow_frzD {n0 sz : Nat} {σ : St} {x : PV} {ys : List PV} (h : Grow n0 sz σ x ys) {D : Nat → Prop} (hD : ∀ b,n0 ≤ b → D b) (hu : ∀ y ∈ ys,Flat y) : FrzD σ D x (growV ys) := by
 rcases h with ⟨rfl,rfl⟩ | ⟨b,g,hb0,rfl,hb,hne⟩
 ·exact .list _ _ _ rfl (by simp)
 ·cases ys with
  | nil => exact absurd rfl hne
  | cons y ys =>
   refine .sref b g sz 0 _ g sz _ _ hb rfl (hD b hb0) rfl (by omega) fun i a c hi ha hc => ?_
   rw [Nat.zero_add,hc] at ha
   cases ha
   exact .base _ ((hu a (List.mem_of_getElem? hc)).free D)
theorem get_pre {σ τ : St} (h : σ <+: τ) {i : Nat} {k : Blk} (hk : σ[i]? = some k) : τ[i]? = some k := by
 obtain ⟨t,rfl⟩ := h
 rw [List.getElem?_append_left (List.getElem?_eq_some_iff.1 hk).1]
 exact hk
section
variable {p b g : Nat} {body : Str} {σ τ : St} {off off2 : Nat}
theorem rdSet_len (σ : St) (off : Nat) : (rdSet p b g body σ off).length = σ.length := by simp [rdSet]
theorem Rd.pre (h : Rd p b g body σ off) (hp : σ <+: τ) : Rd p b g body τ off := ⟨get_pre hp h.at_,get_pre hp h.bytes,h.ne,h.le⟩
theorem pre_rd (hp : p < σ.length) (h : rdSet p b g body σ off <+: τ) : rdSet p b g body σ off2 <+: rdSet p b g body τ off2 := by
 obtain ⟨t,rfl⟩ := h
 refine ⟨t,?_⟩
 unfold rdSet
 rw [List.set_append_left _ _ (by simpa using hp),List.set_set]
theorem grow_rd {sz : Nat} {v : PV} {ys : List PV} (hp : p < σ.length) (h : Grow σ.length sz τ v ys) : Grow σ.length sz (rdSet p b g body τ off2) v ys := by
 rcases h with ⟨rfl,rfl⟩ | ⟨c,gg,hc,rfl,hb,hne⟩
 ·exact .inl ⟨rfl,rfl⟩
 ·refine .inr ⟨c,gg,hc,rfl,?_,hne⟩
  unfold rdSet
  rw [List.getElem?_set_ne (by omega)]
  exact hb
theorem Rd.b_lt (h : Rd p b g body σ off) : b < σ.length := (List.getElem?_eq_some_iff.1 h.bytes).1
theorem free_left {D : Nat → Prop} (b g off n : Nat) (h : ¬ D b) : Free D (leftV b g off n) := by
 unfold leftV
 split
 ·exact .list _ _ (by simp)
 ·exact .sref _ _ _ _ _ h
theorem kill_rd (hrd : Rd p b g body σ off) (h : rdSet p b g body σ off2 <+: τ) : Kill σ (fun c => σ.length ≤ c) τ (rdSet p b g body σ off2) := by
 have hl := rdSet_len (p := p) (b := b) (g := g) (body := body) σ off2
 refine ⟨fun c hc => hc,h.length_le,fun c hc _ => by omega,fun c k hk => .inr ⟨?_,?_⟩⟩
 ·have := (List.getElem?_eq_some_iff.1 hk).1
  omega
 ·refine ⟨k,get_pre h hk,?_⟩
  by_cases hc : c = p
  ·subst hc
   have := (hrd.next (off' := off2))
   have hk2 : (rdSet c b g body σ off2)[c]? = some (rdBlk b g off2 (body.length - off2)) := by simp [rdSet,hrd.lt]
   rw [hk2] at hk
   cases hk
   refine .inl (.inr ⟨_,rfl,rfl,fun i x y hx hy => ?_⟩)
   rw [hx] at hy
   cases hy
   cases i with
   | zero =>
    cases hx
    have hb := hrd.b_lt
    refine .base _ (.agg _ fun i x hx => ?_)
    cases i with
    | zero =>
     cases hx
     exact free_left _ _ _ _ (by omega)
    | succ i => simp at hx
   | succ i => simp at hx
  ·refine .inr ⟨rfl,?_⟩
   unfold rdSet at hk
   rw [List.getElem?_set_ne (Ne.symm hc)] at hk
   exact hk
theorem same_rd {e : St} (hp : rdSet p b g body σ off <+: τ) (h : Same p τ e) : Same p σ e := fun i k hi hk => h i k hi (get_pre hp (Same.set _ i k hi hk))
end
def pCont {α : Type} (l : List α) : Except Int (List α × Str) → Except Int (List α × Str)
 | .error e => .error e
 | .ok (m,s) => .ok (l ++ m,s)
theorem pRep_step {α : Type} {pa : Pa α} {n : Nat} {s s' : Str} {a : α} (h : pa s = .ok (a,s')) (l : List α) : pCont l (pRep pa (n + 1) s) = pCont (l ++ [a]) (pRep pa n s') := by
 have e : pRep pa (n + 1) s = pBind (pRep pa n) (fun l => pRet (a :: l)) s' := pBind_ok h
 rw [e]
 unfold pBind
 cases hr : pRep pa n s' with
 | error e => rfl
 | ok x =>
  obtain ⟨m,t⟩ := x
  simp [pCont,pRet]
def getF (sz by_ : Nat) (z : PV) (Pr : Program) (W : CallP) (a0 a1 : PV) (σ : St) (R : Res → St → Prop) : Prop :=
callB W 250 [a0] σ (fun v0 σ1 =>
packW [(1,a1),(5,(.list .nil [])),(7,v0),(8,(.int .i64 0))] fun x15 =>
Lfp σ (fun Φ2 x3 σ4 =>
bindO False (vBin none .lss (x3 8) (x3 7)) fun v5 =>
condW v5 (
callG (algP W) Pr false (x3 1) [] σ4 (fun v6 σ7 =>
bindO False (vBuildSl sz (List.replicate 1 z) [(0,v6)]) fun v8 =>
bindS (vAppend sz by_ (x3 5) (.list .full v8) σ7) fun v9 σ10 =>
bindO False (vBin none .add (x3 8) (.int .i64 1)) fun v11 =>
packW [(1,(x3 1)),(5,v9),(7,(x3 7)),(8,v11)] fun x12 => Φ2 x12 σ10) (fun e13 σ14 => R (.pan e13) σ14)) (
weakW σ (x3 5) σ4 fun v σ => R (.ret v) σ)) x15 σ1) (fun e16 σ17 => R (.pan e16) σ17)
theorem gets_list {N sz by_ : Nat} {z : PV} (hN : ∀ (a0 a1 : PV) (σ : St) (R : Res → St → Prop),bodyC (algP W) Tryz.prog annF N [a0,a1] σ R = getF sz by_ z Tryz.prog W a0 a1 σ R) (hby : by_ ≤ 96) {α : Type} {pa : Pa α} {enc : α → PV} (hfl : ∀ a,Flat (enc a)) (hsz : ∀ a,Sized sz (enc a)) {p : Nat} {H0 : List (Nat × Blk)} {f k : Nat} {caps : List PV}
  (hg : hasBody f = true) (h : Gets f (argsF k [] caps) p H0 pa enc) : Gets N [.ptr p 0 0 0,.func f k caps] p H0 (pList pa) (fun l => growV (l.map enc)) := gets_of fun b g body σ off R hrd h0 hl hok herr => by
 rw [hN]
 unfold getF
 refine c250.callB hrd (fun h hh => by cases hh) hl (fun n off1 e1 l1 l2 hr1 => ?_) (fun e τ he hs => herr e τ (pBind_err he) hs)
 have hn := pLen_le e1
 rw [List.length_drop] at hn
 have hpl : pList pa (body.drop off) = pRep pa n (body.drop off1) := pBind_ok e1
 have hid : ∀ r : Except Int (List α × Str),pCont [] r = r := fun r => by
  cases r with
  | error e => rfl
  | ok x => rfl
 simp only [zz,Nat.reduceEqDiff]
 refine Lfp_up n (fun j x τ => ∃ (l : List α) (off2 : Nat) (v : PV),x = lookP [(1,.func f k caps),(5,v),(7,.int .i64 n),(8,.int .i64 j)] ∧ l.length = j ∧ off ≤ off2 ∧ off2 ≤ body.length ∧ rdSet p b g body σ off2 <+: τ ∧ Grow σ.length sz τ v (l.map enc) ∧ pList pa (body.drop off) = pCont l (pRep pa (n - j) (body.drop off2))) ?_ ⟨[],off1,.list .nil [],rfl,rfl,l1,l2,List.prefix_rfl,Grow.nil _ _ _,by rw [hid]; exact hpl⟩
 rintro Φ j x τ hj ⟨l,off2,v,rfl,hlen,o1,o2,hp,hgr,hrep⟩ next
 have hr2 : Rd p b g body τ off2 := (hrd.next o2).pre hp
 have h02 : ∀ h ∈ H0,τ[h.1]? = some h.2 ∧ h.1 ≠ p := fun q hq => ⟨get_pre hp (Same.set _ _ _ (h0 q hq).2 (h0 q hq).1),(h0 q hq).2⟩
 simp only [zz,Nat.reduceEqDiff]
 refine condB (fun hb => ?_) (fun hb => ?_)
 ·have hlt : j < n := by
   have : (j : Int) < n := by simpa using hb
   omega
  have hd : n - j = (n - (j + 1)) + 1 := by omega
  rw [hd] at hrep
  rw [callG_func hg]
  refine h.callB hr2 h02 hl (fun a off3 q1 q2 q3 hr3 => ?_) (fun e τ' he hs => herr e τ' ?_ (same_rd hp hs))
  ·rw [pRep_step q1] at hrep
   have hpp : rdSet p b g body σ off3 <+: rdSet p b g body τ off3 := pre_rd hrd.lt hp
   have hg3 : Grow (rdSet p b g body σ off3).length sz (rdSet p b g body τ off3) v (l.map enc) := by
    rw [rdSet_len]
    exact grow_rd hrd.lt hgr
   obtain ⟨v',τ',e1,hgr',hp',_⟩ := hg3.app (by_ := by_) (y := .list .full [enc a]) hpp rfl (by simpa using hsz a) (by
    have : ((l.map enc).length + [enc a].length) * by_ ≤ 1048577 * 96 := Nat.mul_le_mul (by simp; omega) hby
    omega)
   simp only [vBuildSl_one (z := z) (hsz a),e1,zz,Nat.reduceEqDiff]
   rw [vBin_add _ (by omega) (by omega)]
   simp only [zz,Nat.reduceEqDiff]
   rw [rdSet_len] at hgr'
   refine next _ _ hlt ⟨l ++ [a],off3,v',rfl,by simp [hlen],by omega,q3,hp',?_,hrep⟩
   rw [List.map_append]
   exact hgr'
  ·have e2 : pRep pa (n - (j + 1) + 1) (body.drop off2) = .error e := pBind_err he
   rw [hrep,e2]
   rfl
 ·have hlt : ¬ j < n := by
   have : ¬ (j : Int) < n := by simpa using hb
   omega
  obtain rfl : j = n := by omega
  rw [Nat.sub_self] at hrep
  have e2 : pList pa (body.drop off) = .ok (l,body.drop off2) := by
   rw [hrep]
   simp [pRep,pRet,pCont]
  refine weakW_kill (fun c => σ.length ≤ c) (kill_rd hrd hp) (grow_frzD hgr (fun _ h => h) fun y hy => ?_) (hok l off2 e2 o1 o2)
  obtain ⟨a,_,rfl⟩ := List.mem_map.1 hy
  exact hfl a
end Go.Proofs.YtgghfcchanilpaaGreatDoor
