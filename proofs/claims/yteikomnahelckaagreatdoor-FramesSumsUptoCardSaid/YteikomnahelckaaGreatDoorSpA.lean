import Derived.Test.YteikomnahelckaaGreatDoorPlG
import Derived.Test.YteikomnahelckaaGreatDoorAnn
import Derived.Test.YteikomnahelckaaGreatDoorGrd
import Derived.Test.YteikomnahelckaaGreatDoorProg
set_option linter.unusedVariables false
set_option linter.unusedSimpArgs false
namespace Go.Abs
noncomputable def slotsN (l : Tbl) (T : List Key) (x : Nat) : List SlotS := cont (rwT l) T (repT l x)
noncomputable def numN (l : Tbl) (T : List Key) (x : Nat) : Nat := rankK T (.node (repT l x))
theorem slotsN_eq (l : Tbl) (T : List Key) (x : Nat) : slotsN l T x = (nodeL l x).map fun m => numS T (slotOf (mAtM l m),keyM l m) := by
 unfold slotsN cont
 rw [rwT_rep,rwT_eq,List.map_map]
 rfl
theorem slotsN_len {l : Tbl} {T : List Key} {x : Nat} (h : x < l.length) : (slotsN l T x).length = (leaves l x).length := by
 rw [slotsN_eq,List.length_map,nodeL_mode h]
theorem slotsN_struct {l : Tbl} (ok : OkT l) {T : List Key} {x : Nat} (hx : x < l.length) (h : structK (mAtM l x) = true) : slotsN l T x = (elemsN (mAtM l x)).flatMap (slotsN l T) := by
 rw [slotsN_eq,nodeL_mode hx,leaves_struct ok h,List.map_flatMap]
 have : ∀ e ∈ elemsN (mAtM l x),(leaves l e).map (fun m => numS T (slotOf (mAtM l m),keyM l m)) = slotsN l T e := fun e he => by rw [slotsN_eq,nodeL_mode (elem_lt ok he)]
 generalize elemsN (mAtM l x) = es at this
 induction es with
 | nil => rfl
 | cons e es ih =>
  rw [List.flatMap_cons,List.flatMap_cons,this e (by simp),ih (fun e he => this e (by simp [he]))]
theorem idx_inj {α : Type} [BEq α] [LawfulBEq α] {l : List α} {a b : α} (ha : a ∈ l) (h : l.idxOf a = l.idxOf b) : a = b := by
 have h1 := List.idxOf_lt_length_of_mem ha
 have h2 : l.idxOf b < l.length := h ▸ h1
 have e1 := List.getElem_idxOf h1
 have e2 := List.getElem_idxOf h2
 rw [← e1,← e2]
 congr 1
theorem rank_inj {T : List Key} {k k' : Key} (h : rankK T k = rankK T k') (hk : k ∈ T) (same : (∃ c d,k = .node c ∧ k' = .node d) ∨ (∃ c d,k = .uni c ∧ k' = .uni d) ∨ (∃ a b c d,k = .sig a b ∧ k' = .sig c d)) : k = k' := by
 rcases same with ⟨c,d,rfl,rfl⟩ | ⟨c,d,rfl,rfl⟩ | ⟨a,b,c,d,rfl,rfl⟩
 ·rw [idx_inj (mem_nodesT.2 hk) h]
 ·rw [idx_inj (mem_unisT.2 hk) h]
 ·have := idx_inj (a := (a,b)) (b := (c,d)) ((mem_sigsT (c := (a,b))).2 hk) h
  cases this
  rfl
theorem numS_inj {T : List Key} {s s' : SlotS} {t t' : List Nat} (h0 : s.map = 0) (h0' : s'.map = 0) (hk : ∀ k,keyFrom s t = some k → k ∈ T) (h : numS T (s,keyFrom s t) = numS T (s',keyFrom s' t')) : s = s' ∧ keyFrom s t = keyFrom s' t' := by
 have hkk : s.kind = s'.kind := by
  have := congrArg SlotS.kind h
  unfold numS at this
  split at this <;> split at this <;> exact this
 have hs : s = s' := by
  have e1 := congrArg SlotS.size h
  have e2 := congrArg SlotS.dims h
  have e3 := congrArg SlotS.flex h
  have q1 : ∀ (x : SlotS × Option Key),(numS T x).size = x.1.size ∧ (numS T x).dims = x.1.dims ∧ (numS T x).flex = x.1.flex := by
   rintro ⟨x,k⟩
   cases k <;> exact ⟨rfl,rfl,rfl⟩
  rw [(q1 _).1,(q1 _).1] at e1
  rw [(q1 _).2.1,(q1 _).2.1] at e2
  rw [(q1 _).2.2,(q1 _).2.2] at e3
  obtain ⟨a,b,c,d,e⟩ := s
  obtain ⟨a',b',c',d',e'⟩ := s'
  simp only at e1 e2 e3 hkk h0 h0'
  subst e1 e2 e3 hkk h0 h0'
  rfl
 refine ⟨hs,?_⟩
 subst hs
 have hm := congrArg SlotS.map h
 unfold keyFrom at hm hk ⊢
 by_cases c1 : s.kind = 8 ∨ s.kind = 9
 ·simp only [c1,if_true,numS] at hm hk ⊢
  congr 1
  exact rank_inj (by exact_mod_cast hm) (hk _ rfl) (.inl ⟨_,_,rfl,rfl⟩)
 ·by_cases c2 : s.kind = 10
  ·simp only [if_neg c1,if_pos c2,numS] at hm hk ⊢
   congr 1
   exact rank_inj (by exact_mod_cast hm) (hk _ rfl) (.inr (.inl ⟨_,_,rfl,rfl⟩))
  ·by_cases c3 : s.kind = 11
   ·simp only [if_neg c1,if_neg c2,if_pos c3,numS] at hm hk ⊢
    congr 1
    exact rank_inj (by exact_mod_cast hm) (hk _ rfl) (.inr (.inr ⟨_,_,_,_,rfl,rfl⟩))
   ·simp only [c1,c2,c3,if_false]
theorem slots_num {l : Tbl} {T : List Key} {x y : Nat} (hx : MetK (rwT l) T (.node (repT l x))) (hn : Key.node (repT l x) ∈ T) : slotsN l T x = slotsN l T y ↔ numN l T x = numN l T y := by
 constructor
 ·intro h
  have : repT l x = repT l y := by
   rw [← ky_rep]
   unfold slotsN cont at h
   rw [rwT_rep,rwT_rep] at h
   have hm : ∀ r ∈ kyF (ndT l) (repT l) x,∀ k,keyFrom r.1 r.2 = some k → k ∈ T := by
    intro r hr k hk
    refine hx k ?_
    show k ∈ (rwT l (repT l x)).filterMap (·.2)
    rw [rwT_rep]
    unfold rwT
    exact List.mem_filterMap.2 ⟨(r.1,keyFrom r.1 r.2),List.mem_map.2 ⟨r,hr,rfl⟩,hk⟩
   unfold rwT at h
   rw [List.map_map,List.map_map] at h
   have h0 : ∀ z,∀ r ∈ kyF (ndT l) (repT l) z,r.1.map = 0 ∧ ∃ m,r = (slotOf (mAtM l m),(toN l m).map (repT l)) := by
    intro z r hr
    unfold kyF ndT at hr
    rw [List.map_map] at hr
    obtain ⟨m,_,rfl⟩ := List.mem_map.1 hr
    exact ⟨rfl,m,rfl⟩
   have hx0 := h0 x
   have hy0 := h0 y
   generalize kyF (ndT l) (repT l) x = a at *
   generalize kyF (ndT l) (repT l) y = b at *
   clear hn hx h0
   induction a generalizing b with
   | nil => cases b with
    | nil => rfl
    | cons => simp at h
   | cons u a ih => cases b with
    | nil => simp at h
    | cons v b =>
     simp only [List.map_cons,List.cons.injEq,Function.comp] at h
     obtain ⟨e0,e1⟩ := numS_inj (hx0 u (by simp)).1 (hy0 v (by simp)).1 (hm u (by simp)) h.1
     have hrest := ih (fun r hr => hm r (by simp [hr])) (fun r hr => hx0 r (by simp [hr])) b (fun r hr => hy0 r (by simp [hr])) h.2
     rw [hrest]
     congr 1
     obtain ⟨m,hm1⟩ := (hx0 u (by simp)).2
     obtain ⟨n,hn1⟩ := (hy0 v (by simp)).2
     have : u.2 = v.2 := by
      rw [hm1,hn1] at e0 e1
      simp only at e0 e1
      have hkind : ∀ q : ModeS,kindS q.kind = (slotOf q).kind := fun _ => rfl
      rw [hm1,hn1]
      simp only
      unfold keyFrom at e1
      rw [← e0] at e1
      unfold toN at e1 ⊢
      have k1 := congrArg SlotS.kind e0
      simp only [slotOf] at k1 e1
      by_cases a1 : refK (mAtM l m) = true
      ·by_cases b1 : refK (mAtM l n) = true
       ·simp [a1,b1,kindS_ref a1] at e1 ⊢
        exact e1
       ·rw [kindS_ref a1] at k1
        by_cases b2 : rowK (mAtM l n) = true
        ·rw [kindS_row b2] at k1; cases k1
        by_cases b3 : unionK (mAtM l n) = true
        ·rw [kindS_union b3] at k1; cases k1
        by_cases b4 : procK (mAtM l n) = true
        ·rw [kindS_proc b4] at k1; cases k1
        exact absurd k1.symm (kindS_other (by simpa using b1) (by simpa using b2) (by simpa using b3) (by simpa using b4)).1
      by_cases a2 : rowK (mAtM l m) = true
      ·rw [kindS_row a2] at k1
       by_cases b1 : refK (mAtM l n) = true
       ·rw [kindS_ref b1] at k1; cases k1
       by_cases b2 : rowK (mAtM l n) = true
       ·simp [a2,b2,kindS_row a2] at e1 ⊢
        exact e1
       by_cases b3 : unionK (mAtM l n) = true
       ·rw [kindS_union b3] at k1; cases k1
       by_cases b4 : procK (mAtM l n) = true
       ·rw [kindS_proc b4] at k1; cases k1
       exact absurd k1.symm (kindS_other (by simpa using b1) (by simpa using b2) (by simpa using b3) (by simpa using b4)).2.1
      by_cases a3 : unionK (mAtM l m) = true
      ·rw [kindS_union a3] at k1
       by_cases b1 : refK (mAtM l n) = true
       ·rw [kindS_ref b1] at k1; cases k1
       by_cases b2 : rowK (mAtM l n) = true
       ·rw [kindS_row b2] at k1; cases k1
       by_cases b3 : unionK (mAtM l n) = true
       ·simp [a1,a2,a3,b1,b2,b3,kindS_union a3] at e1 ⊢
        exact e1
       by_cases b4 : procK (mAtM l n) = true
       ·rw [kindS_proc b4] at k1; cases k1
       exact absurd k1.symm (kindS_other (by simpa using b1) (by simpa using b2) (by simpa using b3) (by simpa using b4)).2.2.1
      by_cases a4 : procK (mAtM l m) = true
      ·rw [kindS_proc a4] at k1
       by_cases b1 : refK (mAtM l n) = true
       ·rw [kindS_ref b1] at k1; cases k1
       by_cases b2 : rowK (mAtM l n) = true
       ·rw [kindS_row b2] at k1; cases k1
       by_cases b3 : unionK (mAtM l n) = true
       ·rw [kindS_union b3] at k1; cases k1
       by_cases b4 : procK (mAtM l n) = true
       ·simp [a1,a2,a3,a4,b1,b2,b3,b4,kindS_proc a4] at e1 ⊢
        exact e1
       exact absurd k1.symm (kindS_other (by simpa using b1) (by simpa using b2) (by simpa using b3) (by simpa using b4)).2.2.2
      obtain ⟨q1,q2,q3,q4⟩ := kindS_other (by simpa using a1) (by simpa using a2) (by simpa using a3) (by simpa using a4)
      by_cases b1 : refK (mAtM l n) = true
      ·rw [kindS_ref b1] at k1; exact absurd k1 q1
      by_cases b2 : rowK (mAtM l n) = true
      ·rw [kindS_row b2] at k1; exact absurd k1 q2
      by_cases b3 : unionK (mAtM l n) = true
      ·rw [kindS_union b3] at k1; exact absurd k1 q3
      by_cases b4 : procK (mAtM l n) = true
      ·rw [kindS_proc b4] at k1; exact absurd k1 q4
      simp [a1,a2,a3,a4,b1,b2,b3,b4]
     exact Prod.ext e0 this
  unfold numN
  rw [this]
 ·intro h
  unfold numN at h
  have := rank_inj h hn (.inl ⟨_,_,rfl,rfl⟩)
  injection this with this
  unfold slotsN
  rw [this]
end Go.Abs
namespace Go.Proofs.YteikomnahelckaaGreatDoor
open Go Go.Abs
abbrev W : CallP := callW Tryz.prog annF
theorem ret_of {f : FuncId} {args : List PV} {σ : St} {v : PV} (h : ∀ R : Res → St → Prop,R (.ret v) σ → bodyC (algP W) Tryz.prog annF f args σ R) : Ret W f args σ v := fun R hR => callW_fold (h R hR)
theorem load_cell {σ : St} {b g z i : Nat} {xs : List PV} {x y : PV} (h : σ[b]? = some (.arr g z xs)) (hi : xs[i]? = some x) (hx : vPart false 1 x 0 = some y) : vLoad false 1 (.ptr b g i 0) σ = some y := by
 simp only [vLoad,h,if_true,hi,hx]
theorem frz_same {σ : St} {n : Nat} {v : PV} (h : Under n v) : Frz σ n v v := .base v h
end Go.Proofs.YteikomnahelckaaGreatDoor
