import Derived.Test.YteikomnahelckaaGreatDoorOpsC
set_option linter.unusedVariables false
set_option linter.unusedSimpArgs false
namespace Go.Abs
inductive Key where
 | node (c : Nat)
 | uni (cs : List Nat)
 | sig (a b : Nat)
 deriving DecidableEq
def Key.node? : Key → Option Nat
 | .node c => some c
 | _ => none
def Key.uni? : Key → Option (List Nat)
 | .uni c => some c
 | _ => none
def Key.sig? : Key → Option (Nat × Nat)
 | .sig a b => some (a,b)
 | _ => none
def dfs (ch : Key → List Key) : Nat → List Key → List Key → List Key
 | 0,T,_ => T
 | n + 1,T,ks => ks.foldl (fun T k => if k ∈ T then T else dfs ch n (T ++ [k]) (ch k)) T
theorem dfs_succ (ch : Key → List Key) (n : Nat) (T ks : List Key) : dfs ch (n + 1) T ks = ks.foldl (fun T k => dfs ch (n + 1) T [k]) T := by
 have e : ∀ T k,dfs ch (n + 1) T [k] = if k ∈ T then T else dfs ch n (T ++ [k]) (ch k) := fun T k => by simp [dfs]
 simp only [e]
 rfl
theorem dfs_foldl (ch : Key → List Key) (n : Nat) (T ks : List Key) : dfs ch n T ks = ks.foldl (fun T k => dfs ch n T [k]) T := by
 cases n with
 | zero =>
  show T = _
  induction ks with
  | nil => rfl
  | cons k ks ih => exact ih
 | succ n => exact dfs_succ ch n T ks
theorem dfs_nil (ch : Key → List Key) (n : Nat) (T : List Key) : dfs ch n T [] = T := by cases n <;> rfl
theorem dfs_cons (ch : Key → List Key) (n : Nat) (T : List Key) (k : Key) (ks : List Key) : dfs ch n T (k :: ks) = dfs ch n (dfs ch n T [k]) ks := by
 rw [dfs_foldl,List.foldl_cons,← dfs_foldl]
theorem dfs_append (ch : Key → List Key) (n : Nat) (T : List Key) (ks ls : List Key) : dfs ch n T (ks ++ ls) = dfs ch n (dfs ch n T ks) ls := by
 rw [dfs_foldl,List.foldl_append,← dfs_foldl,← dfs_foldl]
theorem dfs_old {ch : Key → List Key} {T : List Key} {k : Key} (h : k ∈ T) (n : Nat) : dfs ch n T [k] = T := by cases n <;> simp [dfs,h]
theorem dfs_new {ch : Key → List Key} {T : List Key} {k : Key} (h : k ∉ T) (n : Nat) : dfs ch (n + 1) T [k] = dfs ch n (T ++ [k]) (ch k) := by simp [dfs,h]
theorem dfs_pre (ch : Key → List Key) : ∀ (n : Nat) (T ks : List Key),T <+: dfs ch n T ks
 | 0,T,ks => List.prefix_refl T
 | n + 1,T,ks => by
  induction ks generalizing T with
  | nil => exact List.prefix_refl T
  | cons k ks ih =>
   rw [dfs_cons]
   refine .trans ?_ (ih _)
   by_cases h : k ∈ T
   ·rw [dfs_old h]; exact List.prefix_refl T
   ·rw [dfs_new h]
    exact (List.prefix_append T [k]).trans (dfs_pre ch n _ _)
def free (U T : List Key) : Nat := U.countP fun k => !(T.contains k)
theorem free_mono {U T T' : List Key} (h : ∀ k ∈ T,k ∈ T') : free U T' ≤ free U T := by
 refine List.countP_mono_left fun k _ hk => ?_
 simp only [Bool.not_eq_true',List.contains_eq_mem,decide_eq_false_iff_not] at hk ⊢
 exact fun h' => hk (h k h')
theorem free_pre {U T T' : List Key} (h : T <+: T') : free U T' ≤ free U T := free_mono fun k hk => h.subset hk
theorem free_lt {U T : List Key} {k : Key} (hU : k ∈ U) (hk : k ∉ T) : free U (T ++ [k]) < free U T := by
 unfold free
 induction U with
 | nil => simp at hU
 | cons u U ih =>
  have hle : U.countP (fun j => !((T ++ [k]).contains j)) ≤ U.countP (fun j => !(T.contains j)) := free_mono (U := U) fun j hj => by simp [hj]
  rw [List.countP_cons,List.countP_cons]
  rcases List.mem_cons.1 hU with rfl | hU
  ·have h1 : (!((T ++ [k]).contains k)) = false := by simp
   have h2 : (!(T.contains k)) = true := by simp [hk]
   simp only [h1,h2,if_true,Bool.false_eq_true,if_false]
   omega
  ·have := ih hU
   by_cases hu : (!((T ++ [k]).contains u)) = true
   ·have h2 : (!(T.contains u)) = true := by
     simp only [Bool.not_eq_true',List.contains_eq_mem,decide_eq_false_iff_not,List.mem_append,not_or] at hu ⊢
     exact hu.1
    simp only [hu,h2,if_true]
    omega
   ·rw [if_neg hu]
    split <;> omega
theorem dfs_mem {ch : Key → List Key} {U : List Key} (hU : ∀ k ∈ U,∀ j ∈ ch k,j ∈ U) : ∀ (n : Nat) (T ks : List Key),free U T ≤ n → (∀ k ∈ ks,k ∈ U) → ∀ k ∈ ks,k ∈ dfs ch n T ks := by
 intro n
 have one : ∀ (T : List Key) (k : Key),free U T ≤ n → k ∈ U → k ∈ dfs ch n T [k] := by
  intro T k hn hk
  by_cases h : k ∈ T
  ·rw [dfs_old h]; exact h
  ·have := free_lt hk h
   cases n with
   | zero => omega
   | succ n =>
    rw [dfs_new h]
    exact (dfs_pre ch n _ _).subset (by simp)
 intro T ks
 induction ks generalizing T with
 | nil => intro _ _ k hk; simp at hk
 | cons a ks ih =>
  intro hn hk k hkm
  rw [dfs_cons]
  rcases List.mem_cons.1 hkm with rfl | hkm
  ·exact (dfs_pre ch n _ _).subset (one T k hn (hk k (by simp)))
  ·exact ih _ (Nat.le_trans (free_pre (dfs_pre ch n T [a])) hn) (fun j hj => hk j (by simp [hj])) k hkm
def nodesT (T : List Key) : List Nat := T.filterMap Key.node?
def unisT (T : List Key) : List (List Nat) := T.filterMap Key.uni?
def sigsT (T : List Key) : List (Nat × Nat) := T.filterMap Key.sig?
theorem mem_nodesT {T : List Key} {c : Nat} : c ∈ nodesT T ↔ Key.node c ∈ T := by
 unfold nodesT
 rw [List.mem_filterMap]
 constructor
 ·rintro ⟨k,hk,h⟩
  cases k with
  | node d => simp [Key.node?] at h; subst h; exact hk
  | uni _ => simp [Key.node?] at h
  | sig _ _ => simp [Key.node?] at h
 ·exact fun h => ⟨_,h,rfl⟩
theorem mem_unisT {T : List Key} {c : List Nat} : c ∈ unisT T ↔ Key.uni c ∈ T := by
 unfold unisT
 rw [List.mem_filterMap]
 constructor
 ·rintro ⟨k,hk,h⟩
  cases k with
  | uni d => simp [Key.uni?] at h; subst h; exact hk
  | node _ => simp [Key.uni?] at h
  | sig _ _ => simp [Key.uni?] at h
 ·exact fun h => ⟨_,h,rfl⟩
theorem mem_sigsT {T : List Key} {c : Nat × Nat} : c ∈ sigsT T ↔ Key.sig c.1 c.2 ∈ T := by
 unfold sigsT
 rw [List.mem_filterMap]
 constructor
 ·rintro ⟨k,hk,h⟩
  cases k with
  | sig a b => simp [Key.sig?] at h; subst h; exact hk
  | node _ => simp [Key.sig?] at h
  | uni _ => simp [Key.sig?] at h
 ·exact fun h => ⟨_,h,rfl⟩
def rankK (T : List Key) : Key → Nat
 | .node c => (nodesT T).idxOf c
 | .uni cs => (unisT T).idxOf cs
 | .sig a b => (sigsT T).idxOf (a,b)
theorem idxOf_pre {α : Type} [BEq α] [LawfulBEq α] {l m : List α} (h : l <+: m) {a : α} (ha : a ∈ l) : m.idxOf a = l.idxOf a := by
 obtain ⟨t,rfl⟩ := h
 rw [List.idxOf_append,if_pos ha]
theorem pre_filterMap {α β : Type} (f : α → Option β) {l m : List α} (h : l <+: m) : l.filterMap f <+: m.filterMap f := by
 obtain ⟨t,rfl⟩ := h
 rw [List.filterMap_append]
 exact List.prefix_append _ _
theorem rank_pre {T T' : List Key} (h : T <+: T') {k : Key} (hk : k ∈ T) : rankK T' k = rankK T k := by
 cases k with
 | node c => exact idxOf_pre (pre_filterMap _ h) (mem_nodesT.2 hk)
 | uni c => exact idxOf_pre (pre_filterMap _ h) (mem_unisT.2 hk)
 | sig a b => exact idxOf_pre (pre_filterMap _ h) ((mem_sigsT (c := (a,b))).2 hk)
end Go.Abs
namespace Go.Abs
abbrev Rws := Nat → List (SlotS × Option Key)
def chR (rw : Rws) : Key → List Key
 | .node c => (rw c).filterMap (·.2)
 | .uni cs => cs.map .node
 | .sig a b => [.node a,.node b]
def numS (T : List Key) (x : SlotS × Option Key) : SlotS := match x.2 with
 | none => x.1
 | some k => { x.1 with map := rankK T k }
def cont (rw : Rws) (T : List Key) (c : Nat) : List SlotS := (rw c).map (numS T)
def contU (T : List Key) (cs : List Nat) : List Int := cs.map fun c => (rankK T (.node c) : Int)
def MetK (rw : Rws) (T : List Key) (k : Key) : Prop := ∀ j ∈ chR rw k,j ∈ T
theorem cont_pre {rw : Rws} {T T' : List Key} (h : T <+: T') {c : Nat} (hm : MetK rw T (.node c)) : cont rw T' c = cont rw T c := by
 unfold cont
 refine List.map_congr_left fun x hx => ?_
 unfold numS
 cases hk : x.2 with
 | none => rfl
 | some k =>
  simp only
  rw [rank_pre h (hm k (List.mem_filterMap.2 ⟨x,hx,hk⟩))]
theorem contU_pre {rw : Rws} {T T' : List Key} (h : T <+: T') {cs : List Nat} (hm : MetK rw T (.uni cs)) : contU T' cs = contU T cs := by
 unfold contU
 refine List.map_congr_left fun c hc => ?_
 rw [rank_pre h (hm (.node c) (List.mem_map.2 ⟨c,hc,rfl⟩))]
def doneM (rw : Rws) (T : List Key) (v : PV) (c : Nat) : Prop := MetK rw T (.node c) ∧ ∃ k,v = .agg [.list k ((cont rw T c).map pvSlot)] ∧ (k = .nil → cont rw T c = [])
def doneU (rw : Rws) (T : List Key) (v : PV) (cs : List Nat) : Prop := MetK rw T (.uni cs) ∧ ∃ k,v = .list k ((contU T cs).map pvI) ∧ (k = .nil → cs = [])
def doneG (rw : Rws) (T : List Key) (v : PV) (p : Nat × Nat) : Prop := MetK rw T (.sig p.1 p.2) ∧ v = .agg [pvI (rankK T (.node p.1)),pvI (rankK T (.node p.2))]
theorem doneM.pre {rw : Rws} {T T' : List Key} (h : T <+: T') {v : PV} {c : Nat} (hd : doneM rw T v c) : doneM rw T' v c := by
 obtain ⟨h1,k,rfl,h2⟩ := hd
 exact ⟨fun j hj => h.subset (h1 j hj),k,by rw [cont_pre h h1],by rw [cont_pre h h1]; exact h2⟩
theorem doneU.pre {rw : Rws} {T T' : List Key} (h : T <+: T') {v : PV} {c : List Nat} (hd : doneU rw T v c) : doneU rw T' v c := by
 obtain ⟨h1,k,rfl,h2⟩ := hd
 exact ⟨fun j hj => h.subset (h1 j hj),k,by rw [contU_pre h h1],h2⟩
theorem doneG.pre {rw : Rws} {T T' : List Key} (h : T <+: T') {v : PV} {c : Nat × Nat} (hd : doneG rw T v c) : doneG rw T' v c := by
 obtain ⟨h1,rfl⟩ := hd
 refine ⟨fun j hj => h.subset (h1 j hj),?_⟩
 rw [rank_pre h (h1 (.node c.1) (by simp [chR])),rank_pre h (h1 (.node c.2) (by simp [chR]))]
structure LC where
 T : List Key
 ms : List PV
 us : List PV
 gs : List PV
structure LC.Fit (A : LC) : Prop where
 m : A.ms.length = (nodesT A.T).length
 u : A.us.length = (unisT A.T).length
 g : A.gs.length = (sigsT A.T).length
structure Grown (rw : Rws) (A B : LC) : Prop where
 pre : A.T <+: B.T
 fit : B.Fit
 lm : A.ms.length ≤ B.ms.length
 lu : A.us.length ≤ B.us.length
 lg : A.gs.length ≤ B.gs.length
 om : ∀ i,i < A.ms.length → B.ms[i]? = A.ms[i]?
 ou : ∀ i,i < A.us.length → B.us[i]? = A.us[i]?
 og : ∀ i,i < A.gs.length → B.gs[i]? = A.gs[i]?
 nm : ∀ i c,A.ms.length ≤ i → (nodesT B.T)[i]? = some c → ∃ v,B.ms[i]? = some v ∧ doneM rw B.T v c
 nu : ∀ i c,A.us.length ≤ i → (unisT B.T)[i]? = some c → ∃ v,B.us[i]? = some v ∧ doneU rw B.T v c
 ng : ∀ i c,A.gs.length ≤ i → (sigsT B.T)[i]? = some c → ∃ v,B.gs[i]? = some v ∧ doneG rw B.T v c
theorem Grown.refl {rw : Rws} {A : LC} (h : A.Fit) : Grown rw A A where
 pre := List.prefix_refl _
 fit := h
 lm := Nat.le_refl _
 lu := Nat.le_refl _
 lg := Nat.le_refl _
 om := fun _ _ => rfl
 ou := fun _ _ => rfl
 og := fun _ _ => rfl
 nm := fun i c hi hc => by have := (List.getElem?_eq_some_iff.1 hc).1; have := h.m; omega
 nu := fun i c hi hc => by have := (List.getElem?_eq_some_iff.1 hc).1; have := h.u; omega
 ng := fun i c hi hc => by have := (List.getElem?_eq_some_iff.1 hc).1; have := h.g; omega
theorem pre_get {α : Type} {l m : List α} (h : l <+: m) {i : Nat} (hi : i < l.length) : m[i]? = l[i]? := by
 obtain ⟨t,rfl⟩ := h
 rw [List.getElem?_append_left hi]
theorem Grown.trans {rw : Rws} {A B C : LC} (h : Grown rw A B) (k : Grown rw B C) : Grown rw A C where
 pre := h.pre.trans k.pre
 fit := k.fit
 lm := Nat.le_trans h.lm k.lm
 lu := Nat.le_trans h.lu k.lu
 lg := Nat.le_trans h.lg k.lg
 om := fun i hi => (k.om i (Nat.lt_of_lt_of_le hi h.lm)).trans (h.om i hi)
 ou := fun i hi => (k.ou i (Nat.lt_of_lt_of_le hi h.lu)).trans (h.ou i hi)
 og := fun i hi => (k.og i (Nat.lt_of_lt_of_le hi h.lg)).trans (h.og i hi)
 nm := fun i c hi hc => by
  by_cases hb : i < B.ms.length
  ·have hc' : (nodesT B.T)[i]? = some c := by rw [← hc]; exact (pre_get (pre_filterMap _ k.pre) (by have := h.fit.m; unfold nodesT at this; omega)).symm
   obtain ⟨v,hv,hd⟩ := h.nm i c hi hc'
   exact ⟨v,(k.om i hb).trans hv,hd.pre k.pre⟩
  ·exact k.nm i c (by omega) hc
 nu := fun i c hi hc => by
  by_cases hb : i < B.us.length
  ·have hc' : (unisT B.T)[i]? = some c := by rw [← hc]; exact (pre_get (pre_filterMap _ k.pre) (by have := h.fit.u; unfold unisT at this; omega)).symm
   obtain ⟨v,hv,hd⟩ := h.nu i c hi hc'
   exact ⟨v,(k.ou i hb).trans hv,hd.pre k.pre⟩
  ·exact k.nu i c (by omega) hc
 ng := fun i c hi hc => by
  by_cases hb : i < B.gs.length
  ·have hc' : (sigsT B.T)[i]? = some c := by rw [← hc]; exact (pre_get (pre_filterMap _ k.pre) (by have := h.fit.g; unfold sigsT at this; omega)).symm
   obtain ⟨v,hv,hd⟩ := h.ng i c hi hc'
   exact ⟨v,(k.og i hb).trans hv,hd.pre k.pre⟩
  ·exact k.ng i c (by omega) hc
theorem nodesT_add_node (T : List Key) (c : Nat) : nodesT (T ++ [.node c]) = nodesT T ++ [c] := by simp [nodesT,Key.node?]
theorem unisT_add_node (T : List Key) (c : Nat) : unisT (T ++ [.node c]) = unisT T := by simp [unisT,Key.uni?]
theorem sigsT_add_node (T : List Key) (c : Nat) : sigsT (T ++ [.node c]) = sigsT T := by simp [sigsT,Key.sig?]
theorem nodesT_add_uni (T : List Key) (c : List Nat) : nodesT (T ++ [.uni c]) = nodesT T := by simp [nodesT,Key.node?]
theorem unisT_add_uni (T : List Key) (c : List Nat) : unisT (T ++ [.uni c]) = unisT T ++ [c] := by simp [unisT,Key.uni?]
theorem sigsT_add_uni (T : List Key) (c : List Nat) : sigsT (T ++ [.uni c]) = sigsT T := by simp [sigsT,Key.sig?]
theorem nodesT_add_sig (T : List Key) (a b : Nat) : nodesT (T ++ [.sig a b]) = nodesT T := by simp [nodesT,Key.node?]
theorem unisT_add_sig (T : List Key) (a b : Nat) : unisT (T ++ [.sig a b]) = unisT T := by simp [unisT,Key.uni?]
theorem sigsT_add_sig (T : List Key) (a b : Nat) : sigsT (T ++ [.sig a b]) = sigsT T ++ [(a,b)] := by simp [sigsT,Key.sig?]
theorem nodesT_pre {T T' : List Key} (h : T <+: T') : nodesT T <+: nodesT T' := pre_filterMap _ h
theorem unisT_pre {T T' : List Key} (h : T <+: T') : unisT T <+: unisT T' := pre_filterMap _ h
theorem sigsT_pre {T T' : List Key} (h : T <+: T') : sigsT T <+: sigsT T' := pre_filterMap _ h
theorem get_new {α : Type} {l m : List α} {a : α} {n : Nat} (h : l ++ [a] <+: m) (hn : n = l.length) : m[n]? = some a := by
 subst hn
 rw [pre_get h (by simp)]
 simp
theorem Grown.node {rw : Rws} {A B : LC} {c : Nat} {v0 : PV} (hA : A.Fit) (h : Grown rw { A with T := A.T ++ [.node c],ms := A.ms ++ [v0] } B) {v : PV} (hd : doneM rw B.T v c) : Grown rw A { B with ms := B.ms.set A.ms.length v } where
 pre := (List.prefix_append _ _).trans h.pre
 fit := ⟨by simpa using h.fit.m,h.fit.u,h.fit.g⟩
 lm := by have := h.lm; simp at this ⊢; omega
 lu := h.lu
 lg := h.lg
 om := fun i hi => by
  simp only
  rw [List.getElem?_set_ne (by omega),h.om i (by simp; omega)]
  simp only
  rw [List.getElem?_append_left hi]
 ou := h.ou
 og := h.og
 nm := fun i d hi hc => by
  simp only at hc ⊢
  by_cases hn : i = A.ms.length
  ·subst hn
   have hl := h.lm
   simp at hl
   have e : (nodesT B.T)[A.ms.length]? = some c := get_new (by rw [← nodesT_add_node]; exact nodesT_pre h.pre) hA.m
   rw [e] at hc
   cases hc
   exact ⟨v,List.getElem?_set_self (by omega),hd⟩
  ·rw [List.getElem?_set_ne (Ne.symm hn)]
   exact h.nm i d (by simp; omega) hc
 nu := h.nu
 ng := h.ng
theorem Grown.uni {rw : Rws} {A B : LC} {c : List Nat} {v0 : PV} (hA : A.Fit) (h : Grown rw { A with T := A.T ++ [.uni c],us := A.us ++ [v0] } B) {v : PV} (hd : doneU rw B.T v c) : Grown rw A { B with us := B.us.set A.us.length v } where
 pre := (List.prefix_append _ _).trans h.pre
 fit := ⟨h.fit.m,by simpa using h.fit.u,h.fit.g⟩
 lu := by have := h.lu; simp at this ⊢; omega
 lm := h.lm
 lg := h.lg
 ou := fun i hi => by
  simp only
  rw [List.getElem?_set_ne (by omega),h.ou i (by simp; omega)]
  simp only
  rw [List.getElem?_append_left hi]
 om := h.om
 og := h.og
 nu := fun i d hi hc => by
  simp only at hc ⊢
  by_cases hn : i = A.us.length
  ·subst hn
   have hl := h.lu
   simp at hl
   have e : (unisT B.T)[A.us.length]? = some c := get_new (by rw [← unisT_add_uni]; exact unisT_pre h.pre) hA.u
   rw [e] at hc
   cases hc
   exact ⟨v,List.getElem?_set_self (by omega),hd⟩
  ·rw [List.getElem?_set_ne (Ne.symm hn)]
   exact h.nu i d (by simp; omega) hc
 nm := h.nm
 ng := h.ng
theorem Grown.sig {rw : Rws} {A B : LC} {a b : Nat} {v0 : PV} (hA : A.Fit) (h : Grown rw { A with T := A.T ++ [.sig a b],gs := A.gs ++ [v0] } B) {v : PV} (hd : doneG rw B.T v (a,b)) : Grown rw A { B with gs := B.gs.set A.gs.length v } where
 pre := (List.prefix_append _ _).trans h.pre
 fit := ⟨h.fit.m,h.fit.u,by simpa using h.fit.g⟩
 lg := by have := h.lg; simp at this ⊢; omega
 lm := h.lm
 lu := h.lu
 og := fun i hi => by
  simp only
  rw [List.getElem?_set_ne (by omega),h.og i (by simp; omega)]
  simp only
  rw [List.getElem?_append_left hi]
 om := h.om
 ou := h.ou
 ng := fun i d hi hc => by
  simp only at hc ⊢
  by_cases hn : i = A.gs.length
  ·subst hn
   have hl := h.lg
   simp at hl
   have e : (sigsT B.T)[A.gs.length]? = some (a,b) := get_new (by rw [← sigsT_add_sig]; exact sigsT_pre h.pre) hA.g
   rw [e] at hc
   cases hc
   exact ⟨v,List.getElem?_set_self (by omega),hd⟩
  ·rw [List.getElem?_set_ne (Ne.symm hn)]
   exact h.ng i d (by simp; omega) hc
 nm := h.nm
 nu := h.nu
end Go.Abs
