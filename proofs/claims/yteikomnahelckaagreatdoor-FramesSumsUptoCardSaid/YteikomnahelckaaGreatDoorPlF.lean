import Derived.Test.YteikomnahelckaaGreatDoorPlE
set_option linter.unusedVariables false
set_option linter.unusedSimpArgs false
namespace Go.Abs
abbrev Nds := Nat → List (SlotS × List Nat)
def kyF (nd : Nds) (cl : Nat → Nat) (x : Nat) : List (SlotS × List Nat) := (nd x).map fun r => (r.1,r.2.map cl)
def firstB (p : Nat → Bool) (x : Nat) : Nat := ((List.range x).find? p).getD x
theorem firstB_holds {p : Nat → Bool} {x : Nat} (hx : p x = true) : p (firstB p x) = true := by
 unfold firstB
 cases h : (List.range x).find? p with
 | none => exact hx
 | some y => exact List.find?_some h
theorem find_range {p : Nat → Bool} : ∀ {n y : Nat},(List.range n).find? p = some y → ∀ z,z < y → p z = false
 | 0,y,h,z,hz => by simp at h
 | n + 1,y,h,z,hz => by
  rw [List.range_succ,List.find?_append] at h
  cases hf : (List.range n).find? p with
  | some y' =>
   rw [hf] at h
   cases h
   exact find_range hf z hz
  | none =>
   rw [hf] at h
   rw [List.find?_eq_none] at hf
   have hy : y = n := by
    have := List.mem_of_find?_eq_some (show [n].find? p = some y from h)
    simpa using this
   subst hy
   simpa using hf z (by simpa using hz)
theorem firstB_least {p : Nat → Bool} {x z : Nat} (hz : z < firstB p x) : p z = false := by
 unfold firstB at hz
 cases h : (List.range x).find? p with
 | none =>
  rw [h] at hz
  rw [List.find?_eq_none] at h
  simpa using h z (by simpa using hz)
 | some y =>
  rw [h] at hz
  exact find_range h z hz
def cod (nd : Nds) : Nat → Nat → Nat
 | 0,_ => 0
 | k + 1,x => firstB (fun y => kyF nd (cod nd k) y == kyF nd (cod nd k) x) x
section
variable {nd : Nds}
theorem cod_ky (k x : Nat) : kyF nd (cod nd k) (cod nd (k + 1) x) = kyF nd (cod nd k) x := by
 have := firstB_holds (p := fun y => kyF nd (cod nd k) y == kyF nd (cod nd k) x) (x := x) (by simp)
 exact eq_of_beq this
theorem cod_eq (k x y : Nat) : cod nd (k + 1) x = cod nd (k + 1) y ↔ kyF nd (cod nd k) x = kyF nd (cod nd k) y := by
 constructor
 ·intro h
  rw [← cod_ky k x,h,cod_ky]
 ·intro h
  have key : ∀ x y,kyF nd (cod nd k) x = kyF nd (cod nd k) y → cod nd (k + 1) x ≤ cod nd (k + 1) y := by
   intro x y h
   refine Nat.le_of_not_lt fun hlt => ?_
   have := firstB_least (p := fun z => kyF nd (cod nd k) z == kyF nd (cod nd k) x) (x := x) (z := cod nd (k + 1) y) hlt
   simp only [beq_eq_false_iff_ne] at this
   exact this ((cod_ky k y).trans h.symm)
  exact Nat.le_antisymm (key x y h) (key y x h.symm)
theorem kyF_mono {cl cl' : Nat → Nat} (h : ∀ x y,cl x = cl y → cl' x = cl' y) {x y : Nat} (he : kyF nd cl x = kyF nd cl y) : kyF nd cl' x = kyF nd cl' y := by
 unfold kyF at he ⊢
 have hm : ∀ a b : List Nat,a.map cl = b.map cl → a.map cl' = b.map cl' := by
  intro a
  induction a with
  | nil => intro b hb; cases b with
   | nil => rfl
   | cons => simp at hb
  | cons u a ih => intro b hb; cases b with
   | nil => simp at hb
   | cons v b =>
    simp only [List.map_cons,List.cons.injEq] at hb ⊢
    exact ⟨h _ _ hb.1,ih b hb.2⟩
 generalize nd x = a at he ⊢
 generalize nd y = b at he ⊢
 induction a generalizing b with
 | nil => cases b with
  | nil => rfl
  | cons => simp at he
 | cons u a ih => cases b with
  | nil => simp at he
  | cons v b =>
   simp only [List.map_cons,List.cons.injEq,Prod.mk.injEq] at he ⊢
   exact ⟨⟨he.1.1,hm _ _ he.1.2⟩,ih b he.2⟩
theorem cod_fine (k x y : Nat) (h : cod nd (k + 1) x = cod nd (k + 1) y) : cod nd k x = cod nd k y := by
 induction k generalizing x y with
 | zero => rfl
 | succ k ih =>
  rw [cod_eq] at h ⊢
  exact kyF_mono (fun a b hab => ih a b hab) h
def Alk (nd : Nds) (x y : Nat) : Prop := ∀ k,cod nd k x = cod nd k y
theorem Alk.refl (x : Nat) : Alk nd x x := fun _ => rfl
theorem Alk.symm {x y : Nat} (h : Alk nd x y) : Alk nd y x := fun k => (h k).symm
theorem Alk.trans {x y z : Nat} (h : Alk nd x y) (h' : Alk nd y z) : Alk nd x z := fun k => (h k).trans (h' k)
open Classical in
noncomputable def repN (nd : Nds) (x : Nat) : Nat := firstB (fun y => decide (Alk nd y x)) x
theorem repN_alk (x : Nat) : Alk nd (repN nd x) x := by
 have := firstB_holds (p := fun y => @decide (Alk nd y x) (Classical.propDecidable _)) (x := x) (by simp [Alk.refl])
 exact @of_decide_eq_true _ (Classical.propDecidable _) this
theorem repN_eq {x y : Nat} : repN nd x = repN nd y ↔ Alk nd x y := by
 constructor
 ·intro h
  have := (repN_alk (nd := nd) x).symm
  rw [h] at this
  exact this.trans (repN_alk y)
 ·intro h
  have key : ∀ x y,Alk nd x y → repN nd x ≤ repN nd y := by
   intro x y h
   refine Nat.le_of_not_lt fun hlt => ?_
   have := firstB_least (p := fun z => @decide (Alk nd z x) (Classical.propDecidable _)) (x := x) (z := repN nd y) hlt
   exact @of_decide_eq_false _ (Classical.propDecidable _) this ((repN_alk y).trans h.symm)
  exact Nat.le_antisymm (key x y h) (key y x h.symm)
theorem map_all {a b : List Nat} (h : ∀ k,a.map (cod nd k) = b.map (cod nd k)) : a.map (repN nd) = b.map (repN nd) := by
 induction a generalizing b with
 | nil => cases b with
  | nil => rfl
  | cons => have := h 0; simp at this
 | cons u a ih => cases b with
  | nil => have := h 0; simp at this
  | cons v b =>
   simp only [List.map_cons,List.cons.injEq] at h ⊢
   exact ⟨repN_eq.2 fun k => (h k).1,ih fun k => (h k).2⟩
theorem ky_rep {x y : Nat} : kyF nd (repN nd) x = kyF nd (repN nd) y ↔ repN nd x = repN nd y := by
 constructor
 ·intro h
  rw [repN_eq]
  intro k
  cases k with
  | zero => rfl
  | succ k =>
   rw [cod_eq]
   exact kyF_mono (fun a b hab => repN_eq.1 hab k) h
 ·intro h
  rw [repN_eq] at h
  have hk : ∀ k,kyF nd (cod nd k) x = kyF nd (cod nd k) y := fun k => (cod_eq k x y).1 (h (k + 1))
  unfold kyF at hk ⊢
  generalize nd x = a at hk ⊢
  generalize nd y = b at hk ⊢
  induction a generalizing b with
  | nil => cases b with
   | nil => rfl
   | cons => have := hk 0; simp at this
  | cons u a ih => cases b with
   | nil => have := hk 0; simp at this
   | cons v b =>
    simp only [List.map_cons,List.cons.injEq,Prod.mk.injEq] at hk ⊢
    exact ⟨⟨(hk 0).1.1,map_all fun k => (hk k).1.2⟩,ih b fun k => (hk k).2⟩
theorem kyF_mono_on {D : Nat → Prop} {cl cl' : Nat → Nat} (h : ∀ x y,D x → D y → cl x = cl y → cl' x = cl' y) {x y : Nat} (hx : ∀ r ∈ nd x,∀ t ∈ r.2,D t) (hy : ∀ r ∈ nd y,∀ t ∈ r.2,D t) (he : kyF nd cl x = kyF nd cl y) : kyF nd cl' x = kyF nd cl' y := by
 unfold kyF at he ⊢
 have hm : ∀ a b : List Nat,(∀ t ∈ a,D t) → (∀ t ∈ b,D t) → a.map cl = b.map cl → a.map cl' = b.map cl' := by
  intro a
  induction a with
  | nil => intro b _ _ hb; cases b with
   | nil => rfl
   | cons => simp at hb
  | cons u a ih => intro b ha hb' hb; cases b with
   | nil => simp at hb
   | cons v b =>
    simp only [List.map_cons,List.cons.injEq] at hb ⊢
    exact ⟨h _ _ (ha u (by simp)) (hb' v (by simp)) hb.1,ih b (fun t ht => ha t (by simp [ht])) (fun t ht => hb' t (by simp [ht])) hb.2⟩
 generalize nd x = a at he hx ⊢
 generalize nd y = b at he hy ⊢
 induction a generalizing b with
 | nil => cases b with
  | nil => rfl
  | cons => simp at he
 | cons u a ih => cases b with
  | nil => simp at he
  | cons v b =>
   simp only [List.map_cons,List.cons.injEq,Prod.mk.injEq] at he ⊢
   exact ⟨⟨he.1.1,hm _ _ (hx u (by simp)) (hy v (by simp)) he.1.2⟩,ih (fun r hr => hx r (by simp [hr])) b he.2 (fun r hr => hy r (by simp [hr]))⟩
theorem stable_alk {D : Nat → Prop} (hD : ∀ x,D x → ∀ r ∈ nd x,∀ t ∈ r.2,D t) {k : Nat} (h : ∀ x y,D x → D y → cod nd k x = cod nd k y → cod nd (k + 1) x = cod nd (k + 1) y) {x y : Nat} (hx : D x) (hy : D y) : cod nd k x = cod nd k y ↔ Alk nd x y := by
 refine ⟨fun he => ?_,fun h => h k⟩
 have up : ∀ j x y,D x → D y → cod nd k x = cod nd k y → cod nd (k + j) x = cod nd (k + j) y := by
  intro j
  induction j with
  | zero => exact fun x y _ _ h => h
  | succ j ih =>
   intro x y hx hy he
   have h1 := h x y hx hy he
   rw [cod_eq] at h1
   show cod nd (k + j + 1) x = cod nd (k + j + 1) y
   rw [cod_eq]
   exact kyF_mono_on (D := D) (fun a b ha hb hab => ih a b ha hb hab) (hD x hx) (hD y hy) h1
 have down : ∀ j m,cod nd (m + j) x = cod nd (m + j) y → cod nd m x = cod nd m y := by
  intro j
  induction j with
  | zero => exact fun m h => h
  | succ j ih => exact fun m h => ih m (cod_fine _ _ _ h)
 intro j
 rcases Nat.le_total j k with hj | hj
 ·obtain ⟨d,rfl⟩ := Nat.le.dest hj
  exact down d j he
 ·obtain ⟨d,rfl⟩ := Nat.le.dest hj
  exact up d x y hx hy he
def isNew (cl : Nat → Nat) (f : Nat → Nat) (i : Nat) : Bool := (List.range i).all fun j => cl (f j) != cl (f i)
def cntCl (cl : Nat → Nat) (f : Nat → Nat) (G : Nat) : Nat := (List.range G).countP (isNew cl f)
theorem isNew_fine {cl cl' : Nat → Nat} {f : Nat → Nat} (h : ∀ x y,cl' x = cl' y → cl x = cl y) {i : Nat} (hn : isNew cl f i = true) : isNew cl' f i = true := by
 unfold isNew at hn ⊢
 simp only [List.all_eq_true,bne_iff_ne,ne_eq] at hn ⊢
 exact fun j hj he => hn j hj (h _ _ he)
theorem cnt_mono {cl cl' : Nat → Nat} {f : Nat → Nat} (h : ∀ x y,cl' x = cl' y → cl x = cl y) (G : Nat) : cntCl cl f G ≤ cntCl cl' f G := List.countP_mono_left fun i _ hi => isNew_fine h hi
theorem first_new (cl : Nat → Nat) (f : Nat → Nat) (i : Nat) : ∃ j,j ≤ i ∧ cl (f j) = cl (f i) ∧ isNew cl f j = true := by
 induction i using Nat.strongRecOn with
 | _ i ih =>
  cases h : isNew cl f i with
  | true => exact ⟨i,Nat.le_refl _,rfl,h⟩
  | false =>
   unfold isNew at h
   rw [List.all_eq_false] at h
   obtain ⟨j,hj,he⟩ := h
   simp at hj he
   obtain ⟨m,hm,h1,h2⟩ := ih j hj
   exact ⟨m,by omega,h1.trans he,h2⟩
theorem new_unique {cl : Nat → Nat} {f : Nat → Nat} {i j : Nat} (hi : isNew cl f i = true) (hj : isNew cl f j = true) (h : cl (f i) = cl (f j)) : i = j := by
 unfold isNew at hi hj
 simp only [List.all_eq_true,bne_iff_ne,ne_eq,List.mem_range] at hi hj
 rcases Nat.lt_trichotomy i j with hlt | he | hlt
 ·exact absurd h (hj i hlt)
 ·exact he
 ·exact absurd h.symm (hi j hlt)
theorem cnt_same {cl cl' : Nat → Nat} {f : Nat → Nat} (h : ∀ x y,cl' x = cl' y → cl x = cl y) {G : Nat} (he : cntCl cl f G = cntCl cl' f G) {i j : Nat} (hi : i < G) (hj : j < G) (hc : cl (f i) = cl (f j)) : cl' (f i) = cl' (f j) := by
 have all : ∀ m,m < G → (isNew cl f m = true ↔ isNew cl' f m = true) := by
  intro m hm
  refine ⟨isNew_fine h,fun h' => ?_⟩
  cases hn : isNew cl f m with
  | true => rfl
  | false =>
   have : cntCl cl f G < cntCl cl' f G := countP_lt _ (fun x _ hx => isNew_fine h hx) ⟨m,by simpa using hm,h',hn⟩
   omega
 obtain ⟨a,ha,ha1,ha2⟩ := first_new cl' f i
 obtain ⟨b,hb,hb1,hb2⟩ := first_new cl' f j
 have : a = b := new_unique ((all a (by omega)).2 ha2) ((all b (by omega)).2 hb2) ((h _ _ ha1).trans (hc.trans (h _ _ hb1).symm))
 subst this
 exact ha1.symm.trans hb1
end
end Go.Abs
