import Derived.Recover
import Derived.Test.YteikomnahelckaaGreatDoorAbsD
import Derived.Test.YteikomnahelckaaGreatDoorAbsB
set_option linter.unusedVariables false
set_option linter.unusedSimpArgs false
namespace Go.Abs
def EvRel (G : Gh) (lam : Nat → Option Nat) (e : EV) (v : Value) : Prop :=
 match e with
 | .v x => RelV G x v
 | .loc s off => ∃ B,lam s = some B ∧ v = .pointer (some ⟨B,off,none⟩)
inductive DfrRel (G : Gh) : List (FuncId × List PV) → List Deferred → Prop where
 | nil : DfrRel G [] []
 | cons (f : FuncId) (caps : List PV) (vs : Array Value) (l l') : caps.length = vs.size → (∀ (i : Nat) (x : PV) (v : Value),caps[i]? = some x → vs[i]? = some v → RelV G x v) → DfrRel G l l' →
   DfrRel G ((f,caps) :: l) ({ target := .fn (.func f) vs,args := #[] } :: l')
theorem DfrRel.mono {G G' : Gh} (le : G.le G') {l : List (FuncId × List PV)} {l' : List Deferred} (h : DfrRel G l l') : DfrRel G' l l' := by
 induction h with
 | nil => exact .nil
 | cons f caps vs l l' h1 h2 _ ih => exact .cons f caps vs l l' h1 (fun i x v hx hv => (h2 i x v hx hv).mono le) ih
structure FrRel (G : Gh) (σ : St) (w : World) (M n : Nat) (lam : Nat → Option Nat) (fr : Fr) (a : Act) : Prop where
 env : ∀ t,EvRel G lam (fr.env t) (a.tmps.getD t undef)
 loc : ∀ s B,lam s = some B → M ≤ B ∧ ¬ ownB G σ B ∧ (∀ o,G.I B o = none) ∧ ∃ cs el ve,w.heap[B]? = some (.cells cs el (0,0)) ∧ ve.cells = cs ∧ RelV G (fr.loc s) ve ∧ ∀ (j : Nat) (v : Value),cs[j]? = some v → v.oneCell' = true
 inj : ∀ s s' B,lam s = some B → lam s' = some B → s = s'
 size : n ≤ a.tmps.size
 dfr : DfrRel G fr.dfr a.defers
 glb : ∀ g,RelV G (globPV g) (.pointer (some ⟨g,0,none⟩))
theorem EvRel.mono {G G' : Gh} (le : G.le G') {lam : Nat → Option Nat} {e : EV} {v : Value} (h : EvRel G lam e v) : EvRel G' lam e v := by
 cases e with
 | v x => exact RelV.mono le h
 | loc s off => exact h
theorem FrRel.loc_lt {G : Gh} {σ : St} {w : World} {M n : Nat} {lam : Nat → Option Nat} {fr : Fr} {a : Act} (h : FrRel G σ w M n lam fr a) {s B : Nat} (hl : lam s = some B) : B < w.heap.size := by
 obtain ⟨_,_,_,cs,el,ve,hh,_⟩ := h.loc s B hl
 exact (Array.getElem?_eq_some_iff.1 hh).1
theorem FrRel.step {G : Gh} {σ : St} {w : World} {G' : Gh} {σ' : St} {w' : World} {M n : Nat} {lam : Nat → Option Nat} {fr : Fr} {a : Act} (h : FrRel G σ w M n lam fr a) (e : Ext G σ w G' σ' w') : FrRel G' σ' w' M n lam fr a where
 env t := (h.env t).mono e.le
 loc s B hl := by
  have hlt := h.loc_lt hl
  obtain ⟨h1,h2,h3,cs,el,ve,hh,h4,h5,h6⟩ := h.loc s B hl
  refine ⟨h1,fun ho => ?_,fun o => ?_,cs,el,ve,by rw [e.keep B hlt h2 h3]; exact hh,h4,h5.mono e.le,h6⟩
  ·rcases e.own B ho with k | k
   ·exact h2 k
   ·omega
  ·cases hi : G'.I B o with
   | none => rfl
   | some v =>
    rcases e.imm B o v hi with k | k | k
    ·rw [h3] at k; simp at k
    ·exact absurd k h2
    ·omega
 inj := h.inj
 size := h.size
 dfr := h.dfr.mono e.le
 glb g := (h.glb g).mono e.le
theorem putE {a : Act} {d : Nat} {v : Value} (hd : d < a.tmps.size) (t : Nat) : (a.put (some d) v).tmps.getD t undef = if t = d then v else a.tmps.getD t undef := by
 simp only [Act.put,Array.getD_eq_getD_getElem?]
 by_cases h : t = d
 ·subst h
  simp [hd]
 ·rw [if_neg h,Array.getElem?_setIfInBounds_ne (Ne.symm h)]
theorem FrRel.put {G : Gh} {σ : St} {w : World} {M n : Nat} {lam : Nat → Option Nat} {fr : Fr} {a : Act} (h : FrRel G σ w M n lam fr a) {dst : Option Nat} (hd : ∀ d,dst = some d → d < n) {x : EV} {v : Value} (hx : EvRel G lam x v) :
  FrRel G σ w M n lam (fr.put dst x) (a.put dst v) := by
 cases dst with
 | none => exact h
 | some d =>
  have hlt : d < a.tmps.size := Nat.lt_of_lt_of_le (hd d rfl) h.size
  refine ⟨fun t => ?_,h.loc,h.inj,by simpa [Act.put] using h.size,h.dfr,h.glb⟩
  rw [putE hlt]
  simp only [Fr.put]
  split
  ·exact hx
  ·exact h.env t
def Rel (G₀ : Gh) (σ₀ : St) (w₀ : World) (N : Base) (n : Nat) (fr : Fr) (σ : St) (a : Act) (w : World) : Prop :=
 ∃ G lam,Inv G N σ w ∧ FrRel G σ w (max N.n w₀.heap.size) n lam fr a ∧ Ext G₀ σ₀ w₀ G σ w
theorem ev_rel {G : Gh} {σ : St} {w : World} {M n : Nat} {lam : Nat → Option Nat} {fr : Fr} {a : Act} (h : FrRel G σ w M n lam fr a) (x : Operand) : EvRel G lam (evE fr x) (a.eval x) := by
 cases x with
 | tmp t => exact h.env t
 | const v => exact rel_ofVal G v
 | global g => exact h.glb g
 | func f => exact .func f 0 [] #[] #[] rfl rfl (by simp)
theorem evP_rel {G : Gh} {σ : St} {w : World} {M n : Nat} {lam : Nat → Option Nat} {fr : Fr} {a : Act} (h : FrRel G σ w M n lam fr a) (x : Operand) : RelV G (evP fr x) (a.eval x) := by
 have := ev_rel h x
 unfold evP
 cases he : evE fr x with
 | v p => rw [he] at this; exact this
 | loc s off => exact .any _
theorem evE_v {G : Gh} {σ : St} {w : World} {M n : Nat} {lam : Nat → Option Nat} {fr : Fr} {a : Act} (h : FrRel G σ w M n lam fr a) {x : Operand} {p : PV} (he : evE fr x = .v p) : RelV G p (a.eval x) := by
 have := ev_rel h x
 rw [he] at this
 exact this
theorem evE_loc {G : Gh} {σ : St} {w : World} {M n : Nat} {lam : Nat → Option Nat} {fr : Fr} {a : Act} (h : FrRel G σ w M n lam fr a) {x : Operand} {s off : Nat} (he : evE fr x = .loc s off) : ∃ B,lam s = some B ∧ a.eval x = .pointer (some ⟨B,off,none⟩) := by
 have := ev_rel h x
 rw [he] at this
 exact this
theorem setLoc_sound {P : Program} {G : Gh} {N : Base} {σ : St} {w : World} {M n : Nat} {lam : Nat → Option Nat} {fr : Fr} {a : Act} {t : TypeId} {sz s off : Nat} {x z : PV} {v : Value} {B : Nat}
  (hI : Inv G N σ w) (hF : FrRel G σ w M n lam fr a) (hNM : N.n ≤ M) (hl : lam s = some B) (hs : szOf P t = some sz) (rx : RelV G x v) (h : vPut sz (fr.loc s) off x = some z) :
  ∃ w',(Instr.storeAt t (.pointer (some ⟨B,off,none⟩)) v).run P w = .ok () w' ∧ Inv G N σ w' ∧ FrRel G σ w' M n lam (fr.setLoc s z) a ∧ w'.os = w.os ∧ w'.tape = w.tape ∧ w'.output = w.output ∧ w'.heap.size = w.heap.size ∧ (∀ k,k ≠ B → w'.heap[k]? = w.heap[k]?) := by
 obtain ⟨hM,hno,hI0,cs,el,ve,hh,hcs,rl,h1⟩ := hF.loc s B hl
 obtain ⟨hvs,hv1,hfit,ve',re',hcells⟩ := put_part rl rx h
 have hrun := storeVar_run (P := P) (p := off) hs hh (.inl rfl) hvs hv1 (by rw [← hcs]; exact hfit)
 generalize hcs' : (cs.toList.take off ++ v.cells.toList ++ cs.toList.drop (off + v.cells.toList.length)).toArray = cs' at hrun
 have hne : ∀ k,k ≠ B → (w.setRow B cs').heap[k]? = w.heap[k]? := fun k hk => setRow_ext_heap w B _ k hk
 refine ⟨w.setRow B cs',by simp [Instr.storeAt,Instr.sureAddr,hrun],?_,?_,rfl,rfl,rfl,setRow_size _ _ _,hne⟩
 ·obtain ⟨i1,i2,i3,i4,i5,i6,i7,i8,i9,i10,i11⟩ := hI
  refine ⟨fun C o u hu => ?_,i2,fun b k hk => (i3 b k hk).step (.refl G) fun C hC => hne C ?_,i4,i5,by rw [setRow_size]; exact i6,i7,i8,i9,fun k hk => (hne k (by omega)).trans (i10 k hk),i11⟩
  ·have : C ≠ B := by rintro rfl; rw [hI0] at hu; simp at hu
   rw [cell_of_heap_eq (hne C this)]
   exact i1 C o u hu
  ·rintro rfl
   exact hno ⟨b,k,hk,hC⟩
 ·refine ⟨hF.env,fun s' C hC => ?_,hF.inj,hF.size,hF.dfr,hF.glb⟩
  by_cases hss : s' = s
  ·subst hss
   rw [hl] at hC
   obtain rfl := Option.some.inj hC
   refine ⟨hM,hno,hI0,_,el,ve',setRow_heap w B cs _ el (0,0) hh,?_,by simpa [Fr.setLoc] using re',fun j u hu => ?_⟩
   ·apply Array.ext'
    rw [← hcs',hcells,hcs]
   ·rw [← hcs',List.getElem?_toArray] at hu
    have := List.mem_of_getElem? hu
    simp only [List.mem_append] at this
    rcases this with (q | q) | q
    ·obtain ⟨i,hi⟩ := List.getElem?_of_mem (List.mem_of_mem_take q)
     exact h1 i u (by simpa using hi)
    ·exact hv1 u q
    ·obtain ⟨i,hi⟩ := List.getElem?_of_mem (List.mem_of_mem_drop q)
     exact h1 i u (by simpa using hi)
  ·obtain ⟨q1,q2,q3,cs',el',ve2,q4,q5,q6,q7⟩ := hF.loc s' C hC
   refine ⟨q1,q2,q3,cs',el',ve2,?_,q5,by simpa [Fr.setLoc,hss] using q6,q7⟩
   rw [hne C (by rintro rfl; exact hss (hF.inj s' s C hC hl))]
   exact q4
theorem newLoc_sound {G : Gh} {N : Base} {σ : St} {w : World} {M n : Nat} {lam : Nat → Option Nat} {fr : Fr} {a : Act} {d : Nat} {z : PV} {ve : Value} {el : TypeId} {zc : List PV}
  (hI : Inv G N σ w) (hF : FrRel G σ w M n lam fr a) (hM : M ≤ w.heap.size) (hd : d < n) (rz : RelV G z ve) (hz : z.cells? = some zc) :
  ∃ lam',Inv G N σ (World.more w (.cells ve.cells el)) ∧ FrRel G σ (World.more w (.cells ve.cells el)) M n lam' (fr.newLoc d z) (a.put (some d) (.pointer (some ⟨w.heap.size,0,none⟩))) ∧ Ext G σ w G σ (World.more w (.cells ve.cells el)) := by
 have hE : Ext G σ w G σ (World.more w (.cells ve.cells el)) := ⟨.refl G,rfl,rfl,rfl,by rw [more_size]; omega,fun k hk _ _ => more_heap_lt _ _ _ hk,fun _ h => .inl h,fun _ _ _ h => .inl h,Nat.le_refl _⟩
 have hlt : d < a.tmps.size := Nat.lt_of_lt_of_le hd hF.size
 have hF' := hF.step hE
 refine ⟨fun s => if s = d then some w.heap.size else lam s,?_,?_,hE⟩
 ·obtain ⟨i1,i2,i3,i4,i5,i6,i7,i8,i9,i10,i11⟩ := hI
  refine ⟨fun C o u hu => cell_more (i1 C o u hu),i2,fun b k hk => (i3 b k hk).step (.refl G) fun C hC => more_heap_lt _ _ _ ?_,i4,i5,by rw [more_size]; omega,i7,i8,i9,fun k hk => (more_heap_lt _ _ _ (by omega)).trans (i10 k hk),i11⟩
  have : Inv G N σ w := ⟨i1,i2,i3,i4,i5,i6,i7,i8,i9,i10,i11⟩
  exact (this.lt_of_own ⟨b,k,hk,hC⟩).1
 ·refine ⟨fun t => ?_,fun s B hs => ?_,fun s s' B hs hs' => ?_,by simpa [Act.put] using hF.size,hF.dfr,hF.glb⟩
  ·rw [putE hlt]
   simp only [Fr.newLoc]
   split
   ·exact ⟨w.heap.size,by simp,rfl⟩
   ·have := hF.env t
    cases he : fr.env t with
    | v x => rw [he] at this; exact this
    | loc s off =>
     rw [he] at this
     simp only
     split
     ·exact RelV.any _
     ·rename_i hsd
      obtain ⟨B,h1,h2⟩ := this
      exact ⟨B,by simp only [hsd,if_false]; exact h1,h2⟩
  ·split at hs
   ·rename_i hsd
    subst hsd
    simp only [Option.some.injEq] at hs
    subst hs
    refine ⟨hM,fun ho => ?_,fun o => ?_,ve.cells,el,ve,by rw [more_heap,if_pos rfl],rfl,by simpa [Fr.newLoc] using rz,(rz.cells hz).2.2⟩
    ·have := (hI.lt_of_own ho).1; omega
    ·cases h : G.I w.heap.size o with
     | none => rfl
     | some u => have := hI.imm _ _ _ h; simp [World.cell?] at this
   ·rename_i hsd
    obtain ⟨q1,q2,q3,cs',el',ve2,q4,q5,q6,q7⟩ := hF'.loc s B hs
    exact ⟨q1,q2,q3,cs',el',ve2,q4,q5,by simpa [Fr.newLoc,hsd] using q6,q7⟩
  ·split at hs <;> split at hs'
   ·rename_i h1 h2; rw [h1,h2]
   ·rename_i h1 h2
    have := hF.loc_lt hs'
    simp only [Option.some.injEq] at hs
    omega
   ·rename_i h1 h2
    have := hF.loc_lt hs
    simp only [Option.some.injEq] at hs'
    omega
   ·exact hF.inj s s' B hs hs'
def CallSound (P : Program) (N : Base) (call : CallP) : Prop :=
 ∀ f args σ R,call f args σ R → ∀ G w (vs : Array Value),Inv G N σ w → args.length = vs.size → (∀ (i : Nat) (x : PV) (v : Value),args[i]? = some x → vs[i]? = some v → RelV G x v) →
  Calls P f vs w fun e w' => ∃ G' σ' r,R r σ' ∧ Inv G' N σ' w' ∧ Ext G σ w G' σ' w' ∧
   match r,e with
   | .ret x,.returned v => RelV G' x v
   | .pan x,.panicked chain => ∃ v,RelV G' x v ∧ chain = [{ v,recovered := false }]
   | _,_ => False
theorem vLoad_rd {ag s : Bool} {sz : Nat} {p x : PV} {σ : St} (h : vLoad ag sz p (rdOf s σ) = some x) : vLoad ag sz p σ = some x := by
 cases s with
 | false => exact h
 | true =>
  cases p with
  | eptr e off => exact h
  | ptr b g i off => simp [rdOf,vLoad] at h
  | _ => simp [vLoad] at h
theorem vLookup_rd {k : EK1} {z m key r : PV} {ok s : Bool} {σ : St} (h : vLookup k z ok m key (rdOf s σ) = some r) : vLookup k z ok m key σ = some r := by
 cases s with
 | false => exact h
 | true =>
  cases m with
  | mref b => simp [rdOf,vLookup] at h
  | _ => exact h
theorem vEntry_rd {s : Bool} {x r : PV} {σ : St} (h : vEntry x (rdOf s σ) = some r) : vEntry x σ = some r := by
 cases s with
 | false => exact h
 | true =>
  unfold vEntry at h
  split at h
  ·simp [rdOf] at h
  ·cases h
theorem vLen_rd {k : LenK} {s : Bool} {x r : PV} {σ : St} (h : vLen k x (rdOf s σ) = some r) : vLen k x σ = some r := by
 cases s with
 | false => exact h
 | true =>
  cases k <;> cases x <;> first | exact h | simp [rdOf,vLen] at h
def goodNames (P : Program) : Bool := P.funcs.all fun fn => fn.body.isNone || fn.name != "runtime.NumGoroutine"
theorem callFunc_run {P : Program} (hg : goodNames P = true) {f : FuncId} {fn : Func} {c : Code} (hf : P.funcs[f]? = some fn) (hb : fn.body = some c) (args : Array Value) (w : World) :
  (callFunc f args).run P w = .ok (.enter f args) w := by
 have : fn.name ≠ "runtime.NumGoroutine" := by
  simp only [goodNames,Array.all_eq_true_iff_forall_mem] at hg
  have := hg fn (Array.mem_of_getElem? hf)
  simpa [hb] using this
 simp [callFunc,program,Sem.run,hf,hb,this]
theorem map_rel {G : Gh} {σ : St} {w : World} {M n : Nat} {lam : Nat → Option Nat} {fr : Fr} {a : Act} (h : FrRel G σ w M n lam fr a) (l : Array Operand) :
  (l.toList.map (evP fr)).length = (l.map a.eval).size ∧ ∀ (i : Nat) (x : PV) (v : Value),(l.toList.map (evP fr))[i]? = some x → (l.map a.eval)[i]? = some v → RelV G x v := by
 refine ⟨by simp,fun i x v hx hv => ?_⟩
 simp only [List.getElem?_map,Option.map_eq_some_iff,Array.getElem?_map] at hx hv
 obtain ⟨o,ho,rfl⟩ := hx
 obtain ⟨o',ho',rfl⟩ := hv
 have : l.toList[i]? = l[i]? := by simp
 rw [this,ho'] at ho
 obtain rfl := Option.some.inj ho
 exact evP_rel h _
theorem append_rel {G : Gh} {xs ys : List PV} {vs us : Array Value} (h1 : xs.length = vs.size) (h2 : ∀ (i : Nat) (x : PV) (v : Value),xs[i]? = some x → vs[i]? = some v → RelV G x v)
  (k1 : ys.length = us.size) (k2 : ∀ (i : Nat) (x : PV) (v : Value),ys[i]? = some x → us[i]? = some v → RelV G x v) :
  (xs ++ ys).length = (vs ++ us).size ∧ ∀ (i : Nat) (x : PV) (v : Value),(xs ++ ys)[i]? = some x → (vs ++ us)[i]? = some v → RelV G x v := by
 refine ⟨by simp [h1,k1],fun i x v hx hv => ?_⟩
 rw [List.getElem?_append] at hx
 split at hx
 ·rename_i hlt
  rw [Array.getElem?_append_left (by omega)] at hv
  exact h2 i x v hx hv
 ·rename_i hlt
  rw [Array.getElem?_append_right (by omega)] at hv
  rw [h1] at hx
  exact k2 _ x v hx hv
theorem vBox_some {sz : Nat} {z z' : PV} (h : vBox sz z = some z') : z' = z ∧ ∃ zc,z.cells? = some zc ∧ zc.length = sz := by
 unfold vBox at h
 split at h
 ·rename_i cs hc
  split at h
  ·simp only [Option.some.injEq] at h
   exact ⟨h.symm,cs,hc,by assumption⟩
  ·simp at h
 ·simp at h
theorem row_one {G : Gh} {z : PV} {ve : Value} {zc : List PV} {sz : Nat} (rz : RelV G z ve) (hc : z.cells? = some zc) (hs : ve.cells.size = sz) : RowAt G ve.cells 0 sz [z] := by
 refine ⟨fun _ => ve,fun i x hx => ?_,fun i hi => ⟨hs,fun j v hj => ⟨(rz.cells hc).2.2 j v hj,?_⟩⟩⟩
 ·cases i with
  | zero => simp at hx; subst hx; exact rz
  | succ i => simp at hx
 ·simp at hi
  subst hi
  simpa using hj
section
variable {P : Program} {N : Base} {call : CallP} {G₀ : Gh} {σ₀ : St} {w₀ : World} {n : Nat} {locs : List Nat} {clean strict : Bool} {o : Oper} {fr : Fr} {σ : St} {a : Act} {w : World}
 {K : Fr → St → Prop} {X : PV → Fr → St → Prop} {next : Act → World → Prop} {Q : Exit → Act → World → Prop}
theorem apTag_or (P : Program) (e : TypeId) : apTag P e = 0 ∨ apTag P e = 4 * e + 3 ∧ e < 1048576 := by
 unfold apTag
 split
 ·split
  ·rename_i hlt; exact .inr ⟨rfl,hlt⟩
  ·exact .inl rfl
 ·exact .inl rfl
theorem func_args {G : Gh} {k : Nat} {cs xs : List PV} {fs vs us : Array Value} (hk : fs.size = k) (hl : cs.length = fs.size + vs.size) (hr : ∀ (i : Nat) (x : PV) (v : Value),cs[i]? = some x → (fs ++ vs)[i]? = some v → RelV G x v)
  (m1 : xs.length = us.size) (m2 : ∀ (i : Nat) (x : PV) (v : Value),xs[i]? = some x → us[i]? = some v → RelV G x v) :
  (argsF k xs cs).length = (fs ++ us ++ vs).size ∧ ∀ (i : Nat) (x : PV) (v : Value),(argsF k xs cs)[i]? = some x → (fs ++ us ++ vs)[i]? = some v → RelV G x v := by
 have e : argsF k xs cs = cs.take k ++ xs ++ cs.drop k := by cases k <;> simp [argsF]
 rw [e]
 have A : (cs.take k).length = fs.size := by simp; omega
 have B : (cs.drop k).length = vs.size := by simp; omega
 obtain ⟨p1,p2⟩ := append_rel A (fun i x v hx hv => by
  rw [List.getElem?_take] at hx
  split at hx
  ·rename_i hlt
   exact hr i x v hx (by rw [Array.getElem?_append_left (by omega)]; exact hv)
  ·cases hx) m1 m2
 exact append_rel p1 p2 B fun i x v hx hv => by
  rw [List.getElem?_drop] at hx
  refine hr (k + i) x v hx ?_
  rw [Array.getElem?_append_right (by omega),hk,Nat.add_sub_cancel_left]
  exact hv
theorem nillist_inv {G : Gh} {v : Value} (r : RelV G (.list .nil []) v) : v = .slice none 0 0 := by
 cases r with
 | nillist => rfl
 | list k xs B O z cap vs h1 => exact absurd rfl h1
theorem full_inv {G : Gh} {v : Value} {xs : List PV} (r : RelV G (.list .full xs) v) : ∃ a,v = .slice (some a) xs.length xs.length := by
 cases r with
 | list k xs B O z cap vs h1 h2 => rw [(h2 rfl).1]; exact ⟨_,rfl⟩
theorem quietX_of {call : CallP} {s : Bool} {X : PV → St → Prop} {v : PV} {σ : St} (h : quietX (algP call) s X v σ) : X v σ := by
 cases s with
 | true => exact h.elim
 | false => exact h
theorem cvOf_int {P : Program} {us : TypeDesc} {d : TypeId} {k : IntKind} (h : cvOf P us d = some (.int k)) : P.underlying d = some (.int k) := by
 unfold cvOf at h
 split at h
 ·rename_i hu; simp at h; rw [hu,h]
 ·split at h
  ·simp at h
  ·split at h <;> simp at h
  ·simp at h
 ·split at h
  ·split at h <;> simp at h
  ·split at h <;> simp at h
  ·simp at h
 ·simp at h
theorem cvOf_same {P : Program} {us : TypeDesc} {d : TypeId} (h : cvOf P us d = some .same) : P.underlying d = some .string ∧ us = .string := by
 unfold cvOf at h
 split at h
 ·simp at h
 ·rename_i hu
  split at h
  ·exact ⟨hu,rfl⟩
  ·split at h <;> simp at h
  ·simp at h
 ·split at h
  ·split at h <;> simp at h
  ·split at h <;> simp at h
  ·simp at h
 ·simp at h
theorem cvOf_toStr {P : Program} {us : TypeDesc} {d : TypeId} (h : cvOf P us d = some .toStr) : P.underlying d = some .string ∧ ∃ e,us = .slice e ∧ isU8 P e = true := by
 unfold cvOf at h
 split at h
 ·simp at h
 ·rename_i hu
  split at h
  ·simp at h
  ·split at h
   ·rename_i e he
    exact ⟨hu,_,rfl,he⟩
   ·simp at h
  ·simp at h
 ·split at h
  ·split at h <;> simp at h
  ·split at h <;> simp at h
  ·simp at h
 ·simp at h
theorem cvOf_toBytes {P : Program} {us : TypeDesc} {d : TypeId} {e : Nat} (h : cvOf P us d = some (.toBytes e)) : P.underlying d = some (.slice e) ∧ us = .string ∧ isU8 P e = true := by
 unfold cvOf at h
 split at h
 ·simp at h
 ·split at h
  ·simp at h
  ·split at h <;> simp at h
  ·simp at h
 ·rename_i hu
  split at h
  ·split at h
   ·rename_i he
    simp only [Option.some.injEq,CvK.toBytes.injEq] at h
    subst h
    exact ⟨hu,rfl,he⟩
   ·simp at h
  ·split at h <;> simp at h
  ·simp at h
 ·simp at h
theorem cvOf_mark {P : Program} {us : TypeDesc} {d : TypeId} (h : cvOf P us d = some .mark) : ∃ e,P.underlying d = some (.slice e) ∧ isU8 P e = true := by
 unfold cvOf at h
 split at h
 ·simp at h
 ·split at h
  ·simp at h
  ·split at h <;> simp at h
  ·simp at h
 ·rename_i e hu
  split at h
  ·split at h <;> simp at h
  ·split at h
   ·rename_i he
    exact ⟨e,hu,he⟩
   ·simp at h
  ·simp at h
 ·simp at h
theorem vToStr_rd {strict : Bool} {σ : St} {x r : PV} (h : vToStr x (rdOf strict σ) = some r) : vToStr x σ = some r := by
 cases strict with
 | false => exact h
 | true =>
  cases x <;> first
   | exact h
   | simp [vToStr,vElems,rdOf] at h
set_option maxHeartbeats 1000000 in
theorem opV_sound {G : Gh} {lam : Nat → Option Nat} {M : Nat} {K : EV → St → Prop} {X : PV → St → Prop} (hg : goodNames P = true) (hcall : CallSound P N call) (hI : Inv G N σ w) (hF : FrRel G σ w M n lam fr a)
  (hnext : ∀ e v σ' w' G',K e σ' → Inv G' N σ' w' → Ext G σ w G' σ' w' → EvRel G' lam e v → next (a.put o.dst v) w')
  (hpan : ∀ x v σ' w' G',X x σ' → Inv G' N σ' w' → Ext G σ w G' σ' w' → RelV G' x v → Q (.panic [{ v,recovered := false }]) a w')
  (h : opV (algP call) P clean strict o fr σ K X) : o.wp P a w next Q := by
 obtain ⟨dst,op,type,pos,after,guard⟩ := o
 have fin : ∀ {e : EV} {v : Value} {σ' : St} {w' : World} {G' : Gh},(execOp a.eval ⟨dst,op,type,pos,after,guard⟩).run P w = .ok (.value v) w' → Inv G' N σ' w' → Ext G σ w G' σ' w' → EvRel G' lam e v → K e σ' → Oper.wp P ⟨dst,op,type,pos,after,guard⟩ a w next Q := by
  intro e v σ' w' G' hrun hI' hE' hv hK
  unfold Oper.wp
  rw [hrun]
  exact hnext e v σ' w' G' hK hI' hE' hv
 have val : ∀ {x : EV} {v : Value},(execOp a.eval ⟨dst,op,type,pos,after,guard⟩).run P w = .ok (.value v) w → EvRel G lam x v → K x σ → Oper.wp P ⟨dst,op,type,pos,after,guard⟩ a w next Q :=
  fun hrun hv hK => fin hrun hI (.refl _ _ _) hv hK
 cases op with
 | move x => exact val (by simp [execOp]) (ev_rel hF x) h
 | assign x => exact val (by simp [execOp]) (ev_rel hF x) h
 | pick c x y =>
  obtain ⟨r,hr,hK⟩ := bindO_some h
  have rc := evP_rel hF c
  unfold vPick at hr
  split at hr
  ·rename_i hc
   rw [hc] at rc
   simp only [Option.some.injEq] at hr
   subst hr
   exact val (by simp [execOp,rc.bool_inv,asBool]) (show EvRel G lam (.v _) _ from evP_rel hF x) hK
  ·rename_i hc
   rw [hc] at rc
   simp only [Option.some.injEq] at hr
   subst hr
   exact val (by simp [execOp,rc.bool_inv,asBool]) (show EvRel G lam (.v _) _ from evP_rel hF y) hK
  ·simp at hr
 | build t parts =>
  obtain ⟨pl,hpl,h⟩ := bindO_some h
  obtain ⟨ps,hps,h⟩ := bindO_some h
  obtain ⟨z,hz,h⟩ := bindO_some h
  split at h
  ·rename_i zs
   obtain ⟨cs,hcs,hK⟩ := bindO_some h
   obtain ⟨v,h1,h2⟩ := build_sound (P := P) (G := G) w (ρ := a.eval) hpl hps hz (fun x => evP_rel hF x) hcs
   exact val (by simp only [execOp,Sem.run_bind,h1,Result.andThen_ok,Sem.run_pure]) (show EvRel G lam (.v _) _ from h2) hK
  ·exact h.elim
 | buildSlice t k parts =>
  obtain ⟨e,he,h⟩ := bindO_some h
  obtain ⟨sz,hsz,h⟩ := bindO_some h
  obtain ⟨z,hz,h⟩ := bindO_some h
  split at h
  ·rename_i hh
   obtain ⟨z',hzb,h⟩ := bindO_some h
   obtain ⟨xs,hxs,hK⟩ := bindO_some h
   obtain ⟨v,cells,h1,h2⟩ := buildSl_sound (P := P) w (ρ := a.eval) (f := evP fr) hI he hsz hz hh.1 hh.2 hzb (fun x => evP_rel hF x) hxs
   obtain ⟨p1,p2,p3⟩ := imm_sound hI cells e
   exact fin (by simp only [execOp,Sem.run_bind,h1,Result.andThen_ok,Sem.run_pure]) p1 p2 (show EvRel _ lam (.v _) _ from h2) hK
  ·exact h.elim
 | load t x =>
  obtain ⟨ag,hag,h⟩ := bindO_some h
  obtain ⟨sz,hsz,h⟩ := bindO_some h
  cases he : evE fr x with
  | loc s off =>
   rw [he] at h
   cases clean with
   | true => exact h.elim
   | false =>
   obtain ⟨r,hr,hK⟩ := bindO_some h
   obtain ⟨B,hl,hx⟩ := evE_loc hF he
   obtain ⟨_,_,_,cs,el,ve,hh,hcs,rl,h1⟩ := hF.loc s B hl
   obtain ⟨v,q1,q2⟩ := load_part (P := P) (w := w) (B := B) (O := 0) hag hsz rl (fun j u hu => by simp [World.cell?,hh,← hcs,hu]) hr
   rw [Nat.zero_add] at q1
   exact val (by simp only [execOp,hx,Instr.loadAt,Instr.sureAddr,Sem.run_bind,Sem.run_pure,q1,Result.andThen_ok]) (show EvRel G lam (.v _) _ from q2) hK
  | v p =>
   rw [he] at h
   obtain ⟨r,hr,hK⟩ := bindO_some h
   obtain ⟨v,q1,q2⟩ := load_sound (P := P) w hI hag hsz (evE_v hF he) (vLoad_rd hr)
   exact val (by simp only [execOp,Sem.run_bind,q1,Result.andThen_ok,Sem.run_pure]) (show EvRel G lam (.v _) _ from q2) hK
 | nilCheck x =>
  cases he : evE fr x with
  | loc s off =>
   simp only [opV,he] at h
   obtain ⟨B,hl,hx⟩ := evE_loc hF he
   exact val (x := .loc s off) (by simp [execOp,hx]) ⟨B,hl,rfl⟩ h
  | v p =>
   simp only [opV,he] at h
   obtain ⟨r,hr,hK⟩ := bindO_some h
   have rp := evE_v hF he
   unfold vNil at hr
   generalize hv : a.eval x = v at rp
   have rp' := rp
   cases rp with
   | ptr b g i off B O z n hm =>
    simp only [Option.some.injEq] at hr
    subst hr
    exact val (x := .v _) (by simp [execOp,hv]) rp' hK
   | eptr e off B O ve re hc =>
    simp only [Option.some.injEq] at hr
    subst hr
    exact val (x := .v _) (by simp [execOp,hv]) rp' hK
   | func f k cs fs vs h0 h1 h2 =>
    simp only [Option.some.injEq] at hr
    subst hr
    exact val (x := .v _) (by simp [execOp,hv]) rp' hK
   | _ => simp at hr
 | binOp op t x y yt =>
  obtain ⟨r,hr,hK⟩ := bindO_some h
  obtain ⟨v,h1,h2⟩ := vBin_sound (P := P) (G := G) w (xo := x) (yo := y) (evP_rel hF x) (evP_rel hF y) hr
  simp only [Sem.run_bind] at h1
  exact val (by simp only [execOp,Sem.run_bind,h1,Result.andThen_ok,Sem.run_pure]) (show EvRel G lam (.v _) _ from h2) hK
 | unOp op t x =>
  obtain ⟨r,hr,hK⟩ := bindO_some h
  obtain ⟨v,h1,h2⟩ := vUn_sound (P := P) (G := G) w (evP_rel hF x) hr
  exact val (by simp only [execOp,Sem.run_bind,h1,Result.andThen_ok,Sem.run_pure]) (show EvRel G lam (.v _) _ from h2) hK
 | convert s d x =>
  simp only [opV] at h
  have rx := evP_rel hF x
  split at h
  ·obtain ⟨us,hds,h1⟩ := bindO_some h
   clear h
   obtain ⟨c,hc,h⟩ := bindO_some h1
   clear h1
   cases c with
   | int k =>
    simp only at h
    obtain ⟨r,hr,hK⟩ := bindO_some h
    have hu := cvOf_int hc
    unfold vConv at hr
    split at hr
    ·rename_i k' m hx
     rw [hx] at rx
     simp only [Option.some.injEq] at hr
     subst hr
     exact val (by simp only [execOp,convert,rx.int_inv,Sem.run_bind,run_underlying hds,run_underlying hu,Result.andThen_ok,Conv.intToInt,Sem.run_pure]) (show EvRel G lam (.v _) _ from .int _ _) hK
    ·simp at hr
   | same =>
    simp only at h
    obtain ⟨hu,rfl⟩ := cvOf_same hc
    split at h
    ·rename_i l hx
     rw [hx] at rx
     obtain ⟨s1,hs1,rfl⟩ := rx.str_inv
     exact val (by simp only [execOp,convert,hs1,Sem.run_bind,run_underlying hds,run_underlying hu,Result.andThen_ok,Sem.run_pure]) (show EvRel G lam (.v _) _ from .str _) h
    ·exact h.elim
   | _ => exact h.elim
  ·split at h
   ·obtain ⟨us,hds,h1⟩ := bindO_some h
    clear h
    obtain ⟨c,hc,h⟩ := bindO_some h1
    clear h1
    cases c with
    | toStr =>
     simp only at h
     obtain ⟨r,hr,hK⟩ := bindO_some h
     obtain ⟨hu,e,rfl,he⟩ := cvOf_toStr hc
     obtain ⟨v,q1,q2⟩ := toStr_sound (P := P) w hI hds he hu rx (vToStr_rd hr)
     exact val (x := .v _) (by simp only [execOp,Sem.run_bind,q1,Result.andThen_ok,Sem.run_pure]) q2 hK
    | _ => exact h.elim
   rename_i hnr
   obtain ⟨us,hds,h1⟩ := bindO_some h
   clear h
   obtain ⟨c,hc,h⟩ := bindO_some h1
   clear h1
   cases c with
   | toBytes e =>
    simp only at h
    obtain ⟨r,hr,hK⟩ := bindO_some h
    obtain ⟨hu,rfl,he⟩ := cvOf_toBytes hc
    obtain ⟨v,w',G',q1,q2,q3,q4⟩ := toBytes_sound (P := P) w hI hds he hu (apTag_or P e) rx hr
    exact fin (by simp only [execOp,Sem.run_bind,q1,Result.andThen_ok,Sem.run_pure]) q2 q3 (show EvRel G' lam (.v _) _ from q4) hK
   | mark =>
    simp only at h
    split at h
    ·rename_i hsd
     subst hsd
     obtain ⟨e,hu,he⟩ := cvOf_mark hc
     split at h
     ·rename_i xs hx
      rw [hx] at rx
      split at h
      ·rename_i hh
       obtain ⟨w',q1,q2,q3⟩ := mark_sound (P := P) w hI hu he hh.1 hh.2 rx
       exact fin (by simp only [execOp,Sem.run_bind,q1,Result.andThen_ok,Sem.run_pure]) q2 q3 (show EvRel G lam (.v _) _ from rx) h
      ·exact h.elim
     ·exact h.elim
    ·exact h.elim
   | _ => exact h.elim
 | makeFunc fn first caps =>
  cases fn with
  | func f =>
   simp only [opV] at h
   split at h
   ·rename_i hfirst
    obtain rfl : first = #[] := Array.eq_empty_of_size_eq_zero hfirst
    obtain ⟨m1,m2⟩ := map_rel hF caps
    exact val (x := .v _) (by simp [execOp,Instr.makeFunc]) (RelV.func f 0 (caps.toList.map (evP fr)) #[] (caps.map a.eval) rfl (by simp) (by simpa using m2)) h
   ·obtain ⟨m1,m2⟩ := map_rel hF caps
    obtain ⟨l1,l2⟩ := map_rel hF first
    obtain ⟨n1,n2⟩ := append_rel l1 l2 m1 m2
    exact val (x := .v _) (by simp [execOp,Instr.makeFunc]) (RelV.func f _ _ (first.map a.eval) (caps.map a.eval) (by simp) (by simp) n2) h
  | _ => exact h.elim
 | makeSlice t l c =>
  obtain ⟨e,he,h⟩ := bindO_some h
  obtain ⟨sz,hsz,h⟩ := bindO_some h
  obtain ⟨by_,hby,h⟩ := bindO_some h
  obtain ⟨z,hz,h⟩ := bindO_some h
  split at h
  ·rename_i hh
   obtain ⟨r,hr,hK⟩ := bindO_some h
   obtain ⟨v,w',G',q1,q2,q3,q4⟩ := makeSl_sound (P := P) w hI he hsz hby hz hh.1 hh.2 (evP_rel hF l) (evP_rel hF c) hr
   exact fin (by simp only [execOp,Sem.run_bind,q1,Result.andThen_ok,Sem.run_pure]) q2 q3 (show EvRel G' lam (.v _) _ from q4) hK
  ·exact h.elim
 | slice t x lo hi mx =>
  simp only [opV] at h
  have opt : ∀ (q : Option Operand) (p : PV),q.map (evP fr) = some p → ∃ v,q.map a.eval = some v ∧ RelV G p v := by
   intro q p hq
   cases q with
   | none => simp at hq
   | some q => simp at hq; subst hq; exact ⟨_,rfl,evP_rel hF q⟩
  have optn : ∀ (q : Option Operand),q.map (evP fr) = none → q.map a.eval = none := by
   intro q hq
   cases q with
   | none => rfl
   | some q => simp at hq
  cases mx with
  | some m =>
   simp only [Option.isSome_some,if_true] at h
   split at h
   ·rename_i hlo
    obtain rfl : lo = none := by simpa using hlo
    obtain ⟨u1,hu1,h⟩ := bindO_some h
    obtain ⟨u2,hu2,h⟩ := bindO_some h
    obtain ⟨e,he,h⟩ := bindO_some h
    obtain ⟨sz,hsz,h⟩ := bindO_some h
    obtain ⟨r,hr,hK⟩ := bindO_some h
    cases hi with
    | none => simp [zeroAt] at hu1
    | some hi =>
     obtain ⟨k1,q1⟩ := isZ_inv hu1 (evP_rel hF hi)
     obtain ⟨k2,q2⟩ := isZ_inv hu2 (evP_rel hF m)
     obtain ⟨v,q3,q4⟩ := clip_sound (P := P) w (k := k1) (k' := k2) he hsz (evP_rel hF x) hr
     exact val (x := .v _) (by simp only [execOp,Option.map_none,Option.map_some,q1,q2,Sem.run_bind,q3,Result.andThen_ok,Sem.run_pure]) q4 hK
   ·exact h.elim
  | none =>
   simp only [Option.isSome_none,Bool.false_eq_true,if_false] at h
   split at h
   ·rename_i hs
    obtain ⟨r,hr,hK⟩ := bindO_some h
    have hu : P.underlying t = some .string := by unfold isStr at hs; split at hs <;> simp_all
    obtain ⟨v,q1,q2⟩ := subStr_sound (P := P) w hu (evP_rel hF x) (opt lo) (optn lo) (opt hi) (optn hi) hr
    exact val (x := .v _) (by simp only [execOp,Option.map_none,Sem.run_bind,q1,Result.andThen_ok,Sem.run_pure]) q2 hK
   ·split at h
    ·rename_i e he
     obtain ⟨sz,hsz,h⟩ := bindO_some h
     obtain ⟨r,hr,hK⟩ := bindO_some h
     obtain ⟨v,q1,q2⟩ := subSl_sound (P := P) w he hsz (evP_rel hF x) (opt lo) (optn lo) (opt hi) (optn hi) hr
     exact val (x := .v _) (by simp only [execOp,Option.map_none,Sem.run_bind,q1,Result.andThen_ok,Sem.run_pure]) q2 hK
    ·obtain ⟨⟨k,e⟩,hne,h⟩ := bindO_some h
     obtain ⟨sz,hsz,h⟩ := bindO_some h
     obtain ⟨ag,hag,h⟩ := bindO_some h
     split at h
     ·rename_i hh
      obtain ⟨hlo,hhi,hpos,hor⟩ := hh
      obtain ⟨r,hr,hK⟩ := bindO_some h
      obtain rfl : lo = none := by simpa using hlo
      obtain rfl : hi = none := by simpa using hhi
      obtain ⟨v,q1,q2⟩ := subArr_sound (P := P) w hne hsz hor (evP_rel hF x) hr
      exact val (x := .v _) (by simp only [execOp,Option.map_none,Sem.run_bind,q1,Result.andThen_ok,Sem.run_pure]) q2 hK
     ·exact h.elim
 | fieldAddr t x f =>
  obtain ⟨k,hk,h⟩ := bindO_some h
  cases he : evE fr x with
  | loc s off =>
   simp only [he] at h
   obtain ⟨B,hl,hx⟩ := evE_loc hF he
   exact val (x := .loc s (off + k)) (by simp only [execOp,hx,Sem.run_bind,fieldAt_run w hk,Result.andThen_ok,Sem.run_pure,addr_add]) ⟨B,hl,rfl⟩ h
  | v p =>
   simp only [he] at h
   obtain ⟨r,hr,hK⟩ := bindO_some h
   obtain ⟨v,q1,q2⟩ := field_sound (P := P) w hk (evE_v hF he) hr
   exact val (x := .v _) (by simp only [execOp,Sem.run_bind,q1,Result.andThen_ok,Sem.run_pure]) q2 hK
 | indexAddr t x i =>
  simp only [opV] at h
  split at h
  ·rename_i e he
   obtain ⟨sz,hsz,h⟩ := bindO_some h
   obtain ⟨r,hr,hK⟩ := bindO_some h
   obtain ⟨v,q1,q2⟩ := index_sound (P := P) w he hsz (evP_rel hF x) (evP_rel hF i) hr
   exact val (x := .v _) (by simp only [execOp,Sem.run_bind,q1,Result.andThen_ok,Sem.run_pure]) q2 hK
  ·obtain ⟨⟨m,e⟩,hne,h⟩ := bindO_some h
   obtain ⟨sz,hsz,h⟩ := bindO_some h
   obtain ⟨k,hk,h⟩ := bindO_some h
   have run := fun a : Addr => arrAt_run (P := P) w (a := a) hne hsz (evP_rel hF i) hk
   obtain ⟨r,hr,hK⟩ := bindO_some h
   obtain ⟨a,ha,ra⟩ := offset_rel (evP_rel hF x) hr
   exact val (x := .v _) (by simp only [execOp,ha,Sem.run_bind,run,Result.andThen_ok,Sem.run_pure]) ra hK
 | index t x i =>
  simp only [opV] at h
  split at h
  ·rename_i hs
   obtain ⟨r,hr,hK⟩ := bindO_some h
   have hu : P.underlying t = some .string := by unfold isStr at hs; split at hs <;> simp_all
   obtain ⟨v,q1,q2⟩ := strAt_sound (P := P) w hu (evP_rel hF x) (evP_rel hF i) hr
   exact val (x := .v _) (by simp only [execOp,Sem.run_bind,q1,Result.andThen_ok,Sem.run_pure]) q2 hK
  ·exact h.elim
 | extract x i =>
  obtain ⟨r,hr,hK⟩ := bindO_some h
  have rx := evP_rel hF x
  unfold vExtract at hr
  split at hr
  ·rename_i vs hx
   rw [hx] at rx
   cases hv : a.eval x <;> rw [hv] at rx <;> cases rx
   rename_i us h1 h2
   obtain ⟨u,hu,ru⟩ := agg_get h1 h2 i r hr
   exact val (x := .v _) (by simp [execOp,Instr.extract,hv,hu]) ru hK
  ·simp at hr
 | makeInterface t x =>
  simp only [opV] at h
  split at h
  ·exact h.elim
  ·exact h.elim
  ·rename_i d hni hu
   refine val (x := .v _) ?_ (RelV.iface t _ _ (evP_rel hF x)) h
   simp only [execOp,Instr.makeInterface,Sem.run_bind,run_underlying hu,Result.andThen_ok]
   cases d <;> first | rfl | exact absurd rfl (hni _)
 | panic x =>
  simp only [opV] at h
  have rx := evP_rel hF x
  split at h
  ·rename_i t v hx
   rw [hx] at rx
   cases hv : a.eval x <;> rw [hv] at rx <;> cases rx
   rename_i u ru
   unfold Oper.wp
   have hrun : (execOp a.eval ⟨dst,.panic x,type,pos,after,guard⟩).run P w = .halt (.panic (.iface t u)) w := by
    simp [execOp,Instr.panic,hv,goPanic]
   rw [hrun]
   exact hpan _ _ _ _ _ h hI (.refl _ _ _) (.iface t v u ru)
  ·exact h.elim
 | call c =>
  obtain ⟨callee,args,argTypes⟩ := c
  cases callee with
  | invoke r m => exact h.elim
  | builtin b =>
   cases b with
   | len =>
    simp only [opV] at h
    split at h
    ·rename_i x t hargs htys
     obtain ⟨k,hk,h⟩ := bindO_some h
     obtain ⟨r,hr,hK⟩ := bindO_some h
     obtain rfl : args = #[x] := by apply Array.ext'; simpa using hargs
     obtain rfl : argTypes = #[t] := by apply Array.ext'; simpa using htys
     obtain ⟨v,q1,q2⟩ := len_sound (P := P) w (ty := type) hI (evP_rel hF x) hk (vLen_rd hr)
     refine val (x := .v _) ?_ q2 hK
     simp only [execOp,resolve,Sem.run_bind,Sem.run_pure,Result.andThen_ok,invoke,builtin,List.map_toArray,List.map_cons,List.map_nil]
     rw [q1]
     rfl
    ·exact h.elim
   | append =>
    simp only [opV] at h
    split at h
    ·rename_i x y t t2 hargs htys
     obtain ⟨e,he,h⟩ := bindO_some h
     obtain ⟨sz,hsz,h⟩ := bindO_some h
     obtain ⟨by_,hby,h⟩ := bindO_some h
     obtain ⟨z,hz,h⟩ := bindO_some h
     obtain ⟨z',hzb,h⟩ := bindO_some h
     split at h
     ·rename_i hh
      rw [appT_eq] at h
      obtain ⟨r,hr,hK⟩ := bindO_some h
      obtain rfl : args = #[x,y] := by apply Array.ext'; simpa using hargs
      obtain rfl : argTypes = #[t,t2] := by apply Array.ext'; simpa using htys
      obtain ⟨r1,r2⟩ := r
      obtain ⟨v,w',G',q1,q2,q3,q4⟩ := append_sound (P := P) w (ty := type) hI he hh.2.2.2 hsz hby hz hzb hh.1 hh.2.1 hh.2.2.1 (evP_rel hF x) (evP_rel hF y) (apTag_or P e) hr
      refine fin ?_ q2 q3 (show EvRel G' lam (.v _) _ from q4) hK
      simp only [execOp,resolve,Sem.run_bind,Sem.run_pure,Result.andThen_ok,invoke,builtin,List.map_toArray,List.map_cons,List.map_nil]
      rw [q1]
      rfl
     ·split at h
      ·rename_i hh
       obtain ⟨r,hr,hK⟩ := bindO_some h
       obtain rfl : args = #[x,y] := by apply Array.ext'; simpa using hargs
       obtain rfl : argTypes = #[t,t2] := by apply Array.ext'; simpa using htys
       obtain ⟨r1,r2⟩ := r
       obtain ⟨v,w',G',q1,q2,q3,q4⟩ := appendMk_sound (P := P) w (ty := type) hI he hh.2.2.2 hsz hby hz hzb hh.1 hh.2.1 hh.2.2.1 (evP_rel hF x) (evP_rel hF y) hr
       refine fin ?_ q2 q3 (show EvRel G' lam (.v _) _ from q4) hK
       simp only [execOp,resolve,Sem.run_bind,Sem.run_pure,Result.andThen_ok,invoke,builtin,List.map_toArray,List.map_cons,List.map_nil]
       rw [q1]
       rfl
      ·exact h.elim
    ·exact h.elim
   | min =>
    simp only [opV] at h
    split at h
    ·rename_i x y hargs
     obtain ⟨r,hr,hK⟩ := bindO_some h
     obtain rfl : args = #[x,y] := by apply Array.ext'; simpa using hargs
     have rx := evP_rel hF x
     have ry := evP_rel hF y
     unfold vMin at hr
     split at hr
     ·rename_i k p k' q hx hy
      split at hr
      ·rename_i hk
       subst hk
       simp only [Option.some.injEq] at hr
       subst hr
       rw [hx] at rx
       rw [hy] at ry
       refine val (x := .v _) (v := .int k (if q < p then q else p)) ?_ (.int _ _) hK
       simp only [execOp,resolve,Sem.run_bind,Sem.run_pure,Result.andThen_ok,invoke,builtin,List.map_toArray,List.map_cons,List.map_nil,rx.int_inv,ry.int_inv]
       rfl
      ·cases hr
     ·cases hr
    ·exact h.elim
   | cap =>
    simp only [opV] at h
    split at h
    ·rename_i x t hargs htys
     obtain ⟨k,hk,h⟩ := bindO_some h
     obtain ⟨r,hr,hK⟩ := bindO_some h
     obtain rfl : args = #[x] := by apply Array.ext'; simpa using hargs
     obtain rfl : argTypes = #[t] := by apply Array.ext'; simpa using htys
     have hu : P.underlying t = some (.slice k) := by
      unfold elemOf? at hk
      split at hk <;> simp_all
     have rx := evP_rel hF x
     unfold vCap at hr
     split at hr
     ·rename_i hx
      rw [hx] at rx
      simp only [Option.some.injEq] at hr
      subst hr
      have hv := nillist_inv rx
      refine val (x := .v _) (v := .int .i64 0) ?_ (.int _ _) hK
      simp only [execOp,resolve,Sem.run_bind,Sem.run_pure,Result.andThen_ok,invoke,builtin,List.map_toArray,List.map_cons,List.map_nil,hv]
      simp [Builtin.cap_,run_underlying hu,goInt]
     ·rename_i xs hx
      rw [hx] at rx
      simp only [Option.some.injEq] at hr
      subst hr
      obtain ⟨b,hv⟩ := full_inv rx
      refine val (x := .v _) (v := .int .i64 xs.length) ?_ (.int _ _) hK
      simp only [execOp,resolve,Sem.run_bind,Sem.run_pure,Result.andThen_ok,invoke,builtin,List.map_toArray,List.map_cons,List.map_nil,hv]
      simp [Builtin.cap_,run_underlying hu,goInt]
     ·cases hr
    ·exact h.elim
   | max =>
    simp only [opV] at h
    split at h
    ·rename_i x y hargs
     obtain ⟨r,hr,hK⟩ := bindO_some h
     obtain rfl : args = #[x,y] := by apply Array.ext'; simpa using hargs
     have rx := evP_rel hF x
     have ry := evP_rel hF y
     unfold vMax at hr
     split at hr
     ·rename_i k p k' q hx hy
      split at hr
      ·rename_i hk
       subst hk
       simp only [Option.some.injEq] at hr
       subst hr
       rw [hx] at rx
       rw [hy] at ry
       refine val (x := .v _) (v := .int k (if p < q then q else p)) ?_ (.int _ _) hK
       simp only [execOp,resolve,Sem.run_bind,Sem.run_pure,Result.andThen_ok,invoke,builtin,List.map_toArray,List.map_cons,List.map_nil,rx.int_inv,ry.int_inv]
       rfl
      ·cases hr
     ·cases hr
    ·exact h.elim
   | delete =>
    simp only [opV] at h
    split at h
    ·rename_i m k t t2 hargs htys
     obtain ⟨⟨kt,et⟩,h1,h⟩ := bindO_some h
     obtain ⟨ek,h2,h⟩ := bindO_some h
     obtain ⟨σ',h3,hK⟩ := bindO_some h
     obtain rfl : args = #[m,k] := by apply Array.ext'; simpa using hargs
     obtain rfl : argTypes = #[t,t2] := by apply Array.ext'; simpa using htys
     obtain ⟨w',G',q1,q2,q3⟩ := delete_sound (P := P) (w := w) (t2 := t2) (ty := type) hI h1 h2 (evP_rel hF m) (evP_rel hF k) h3
     refine fin ?_ q2 q3 (show EvRel G' lam (.v _) _ from RelV.tuple [] #[] rfl (by simp)) hK
     simp only [execOp,resolve,Sem.run_bind,Sem.run_pure,Result.andThen_ok,invoke,builtin,List.map_toArray,List.map_cons,List.map_nil]
     rw [q1]
     rfl
    ·exact h.elim
   | _ => exact h.elim
  | value f =>
   simp only [opV,callG] at h
   have rf := evP_rel hF f
   split at h
   ·rename_i fid k caps hfv
    rw [hfv] at rf
    cases hv : a.eval f <;> rw [hv] at rf <;> cases rf
    rename_i fs vs hk hl hr
    split at h
    ·rename_i fn hfn
     split at h
     ·rename_i c hc
      have hrun : (execOp a.eval ⟨dst,.call ⟨.value f,args,argTypes⟩,type,pos,after,guard⟩).run P w = .ok (.enter fid (fs ++ args.map a.eval ++ vs)) w := by
       simp only [execOp,resolve,hv,Deferred.ofValue,Sem.run_bind,Sem.run_pure,Result.andThen_ok,invoke]
       exact callFunc_run hg hfn hc _ _
      obtain ⟨m1,m2⟩ := map_rel hF args
      obtain ⟨n1,n2⟩ := func_args hk hl hr m1 m2
      unfold Oper.wp
      rw [hrun]
      unfold callG.callK at h
      refine (hcall _ _ _ _ h G w _ hI n1 n2).mono ?_
      rintro e w' ⟨G',σ',r,hR,hI',hE',hm⟩
      cases clean with
      | true =>
       obtain ⟨hσ,hR⟩ := hR
       cases r with
       | ret x =>
        cases e with
        | returned v => exact hnext _ _ _ _ _ hR hI' hE' hm
        | _ => exact hm.elim
       | pan x => exact hR.elim
      | false =>
       cases r with
       | ret x =>
        cases e with
        | returned v => exact hnext _ _ _ _ _ hR hI' hE' hm
        | _ => exact hm.elim
       | pan x =>
        cases e with
        | panicked chain =>
         obtain ⟨v,rv,rfl⟩ := hm
         exact hpan _ _ _ _ _ (quietX_of hR) hI' hE' rv
        | _ => exact hm.elim
     ·obtain ⟨v,hv',hK⟩ := bindO_some h
      simp [vExt] at hv'
    ·exact h.elim
   ·exact h.elim
 | makeMap t r =>
  simp only [opV] at h
  cases r with
  | some q => exact h.elim
  | none =>
   simp only [Option.isSome_none,Bool.false_eq_true,if_false] at h
   obtain ⟨v,w',G',q1,q2,q3,q4⟩ := makeMap_sound (P := P) (w := w) (t := t) hI
   exact fin (by simp only [execOp,Option.map_none,Sem.run_bind,q1,Result.andThen_ok,Sem.run_pure]) q2 q3 (show EvRel G' lam (.v _) _ from q4) h
 | lookup t x i ok =>
  simp only [opV] at h
  obtain ⟨ke,h1,h⟩ := bindO_some h
  obtain ⟨ek,h2,h⟩ := bindO_some h
  obtain ⟨z,h3,h⟩ := bindO_some h
  obtain ⟨r,h4,hK⟩ := bindO_some h
  obtain ⟨v,q1,q2⟩ := lookup_sound (P := P) (w := w) hI h1 h2 h3 (evP_rel hF x) (evP_rel hF i) (vLookup_rd h4)
  exact val (by simp only [execOp,Sem.run_bind,q1,Result.andThen_ok,Sem.run_pure]) (show EvRel G lam (.v _) _ from q2) hK
 | mapUpdate t m k x =>
  simp only [opV] at h
  obtain ⟨ke,h1,h⟩ := bindO_some h
  obtain ⟨ek,h2,h⟩ := bindO_some h
  obtain ⟨σ',h3,hK⟩ := bindO_some h
  obtain ⟨w',G',q1,q2,q3⟩ := mapUpdate_sound (P := P) (w := w) hI h1 h2 (evP_rel hF m) (evP_rel hF k) (evP_rel hF x) h3
  unfold Oper.wp
  have hrun : (execOp a.eval ⟨dst,.mapUpdate t m k x,type,pos,after,guard⟩).run P w = .ok .skip w' := by
   simp only [execOp,Sem.run_bind,q1,Result.andThen_ok,Sem.run_pure]
  rw [hrun]
  exact hnext (.v .any) undef σ' w' G' hK q2 q3 (.any _)
 | insert t m k x =>
  simp only [opV] at h
  obtain ⟨ke,h1,h⟩ := bindO_some h
  obtain ⟨ek,h2,h⟩ := bindO_some h
  obtain ⟨σ',h3,hK⟩ := bindO_some h
  obtain ⟨w',G',q1,q2,q3⟩ := mapUpdate_sound (P := P) (w := w) hI h1 h2 (evP_rel hF m) (evP_rel hF k) (evP_rel hF x) h3
  unfold Oper.wp
  have hrun : (execOp a.eval ⟨dst,.insert t m k x,type,pos,after,guard⟩).run P w = .ok .skip w' := by
   simp only [execOp,Sem.run_bind,q1,Result.andThen_ok,Sem.run_pure]
  rw [hrun]
  exact hnext (.v .any) undef σ' w' G' hK q2 q3 (.any _)
 | field t x f =>
  simp only [opV] at h
  obtain ⟨fd,h1,h⟩ := bindO_some h
  obtain ⟨sz,h2,h⟩ := bindO_some h
  obtain ⟨ag,h3,h⟩ := bindO_some h
  obtain ⟨r,h4,hK⟩ := bindO_some h
  obtain ⟨v,q1,q2⟩ := fieldV_sound (P := P) w h1 h2 h3 (evP_rel hF x) h4
  exact val (by simp only [execOp,Sem.run_bind,q1,Result.andThen_ok,Sem.run_pure]) (show EvRel G lam (.v _) _ from q2) hK
 | range t x =>
  simp only [opV] at h
  obtain ⟨ke,h1,h⟩ := bindO_some h
  obtain ⟨r,h2,hK⟩ := bindO_some h
  obtain ⟨v,w',G',q1,q2,q3,q4⟩ := range_sound (P := P) (w := w) hI h1 (evP_rel hF x) h2
  exact fin (by simp only [execOp,Sem.run_bind,q1,Result.andThen_ok,Sem.run_pure]) q2 q3 (show EvRel G' lam (.v _) _ from q4) hK
 | next x s =>
  simp only [opV] at h
  cases s with
  | true => exact h.elim
  | false =>
   simp only [Bool.false_eq_true,if_false] at h
   obtain ⟨l,h1,h⟩ := bindO_some h
   obtain ⟨v,w',y,σ',hm,q1,q2,q3,q4⟩ := next_sound (P := P) (w := w) (ty := type) hI (evP_rel hF x) h1
   exact fin (by simp only [execOp,Sem.run_bind,q1,Result.andThen_ok,Sem.run_pure]) q2 q3 (show EvRel G lam (.v _) _ from q4) (h _ hm)
 | entry x =>
  simp only [opV] at h
  obtain ⟨r,h1,hK⟩ := bindO_some h
  obtain ⟨v,q1,q2⟩ := entry_sound (P := P) (w := w) hI (evP_rel hF x) (vEntry_rd h1)
  exact val (by simp only [execOp,Sem.run_bind,q1,Result.andThen_ok,Sem.run_pure]) (show EvRel G lam (.v _) _ from q2) hK
 | typeAssert x t0 t ok =>
  simp only [opV] at h
  split at h
  ·rename_i hn
   obtain ⟨z,h1,h⟩ := bindO_some h
   obtain ⟨r,h2,hK⟩ := bindO_some h
   obtain ⟨v,q1,q2⟩ := assert_sound (P := P) (w := w) (t0 := t0) hn h1 (evP_rel hF x) h2
   exact val (by simp only [execOp,Sem.run_bind,q1,Result.andThen_ok,Sem.run_pure]) (show EvRel G lam (.v _) _ from q2) hK
  ·exact h.elim
 | _ => exact h.elim
theorem fin_val {G G' : Gh} {lam : Nat → Option Nat} {x : EV} {v : Value} {σ' : St} {w' : World} (hF : FrRel G σ w (max N.n w₀.heap.size) n lam fr a) (hE : Ext G₀ σ₀ w₀ G σ w)
  (hnext : ∀ fr' σ' a' w',K fr' σ' → Rel G₀ σ₀ w₀ N n fr' σ' a' w' → next a' w') (hd : ∀ d,o.dst = some d → d < n)
  (hrun : (execOp a.eval o).run P w = .ok (.value v) w') (hI' : Inv G' N σ' w') (hE' : Ext G σ w G' σ' w') (hv : EvRel G' lam x v) (hK : K (fr.put o.dst x) σ') : o.wp P a w next Q := by
 unfold Oper.wp
 rw [hrun]
 exact hnext _ _ _ _ hK ⟨G',lam,hI',(hF.step hE').put hd hv,hE.trans hE'⟩
theorem tyG_tag (t : Nat) (h : t < 1048576) : t = tyG (4 * t + 1) := by
 unfold tyG
 omega
theorem tagOf_odd (P : Program) (t : TypeId) {sz n : Nat} (hn : sz = n) : TyOk (tagOf P t) sz 0 n t := by
 have : (tagOf P t = 4 * t + 1 ∧ t < 1048576) ∨ tagOf P t = 0 := by
  unfold tagOf
  split
  ·split
   ·split
    ·rename_i hh; exact .inl ⟨rfl,hh.2⟩
    ·exact .inr rfl
   ·exact .inr rfl
  ·exact .inr rfl
 rcases this with h1 | h1
 ·obtain ⟨h1,h2⟩ := h1
  refine ⟨fun _ => ⟨rfl,?_,hn.symm⟩,fun h => ?_⟩
  ·rw [h1]
   exact tyG_tag t h2
  ·generalize tagOf P t = g at h h1
   have h4 : ∀ k : Nat,g = 4 * k + 1 → False := fun k hk => by omega
   exact (h4 t h1).elim
 ·rw [h1]
  exact .no (by decide) (by decide)
set_option maxHeartbeats 1000000 in
theorem op_sound (hg : goodNames P = true) (hcall : CallSound P N call) (hrel : Rel G₀ σ₀ w₀ N n fr σ a w) (hd : ∀ d,o.dst = some d → d < n)
  (hnext : ∀ fr' σ' a' w',K fr' σ' → Rel G₀ σ₀ w₀ N n fr' σ' a' w' → next a' w')
  (hpan : ∀ x v fr' σ' w',X x fr' σ' → (∃ G lam,Inv G N σ' w' ∧ FrRel G σ' w' (max N.n w₀.heap.size) n lam fr' a ∧ Ext G₀ σ₀ w₀ G σ' w' ∧ RelV G x v) → Q (.panic [{ v,recovered := false }]) a w')
  (h : opC (algP call) P locs clean strict o fr σ K X) : o.wp P a w next Q := by
 obtain ⟨G,lam,hI,hF,hE⟩ := hrel
 obtain ⟨dst,op,type,pos,after,guard⟩ := o
 have other : opV (algP call) P clean strict ⟨dst,op,type,pos,after,guard⟩ fr σ (fun e σ => K (fr.put dst e) σ) (fun v σ => X v fr σ) → Oper.wp P ⟨dst,op,type,pos,after,guard⟩ a w next Q := fun h =>
  opV_sound hg hcall hI hF (fun e v σ' w' G' hK hI' hE' hv => hnext _ _ _ _ hK ⟨G',lam,hI',(hF.step hE').put hd hv,hE.trans hE'⟩)
   (fun x v σ' w' G' hX hI' hE' hv => hpan _ _ _ _ _ hX ⟨G',lam,hI',hF.step hE',hE.trans hE',hv⟩) h
 cases op with
 | alloc t =>
  obtain ⟨sz,hsz,h1⟩ := bindO_some h
  obtain ⟨z,hz,h2⟩ := bindO_some h1
  obtain ⟨z',hzb,h3⟩ := bindO_some h2
  clear h h1 h2
  have h := h3
  clear h3
  obtain ⟨zv,hzv,hzr⟩ := zeroOf_run (P := P) w hz
  have rz : RelV G z zv := hzr ▸ rel_ofVal G zv
  obtain ⟨rfl,zc,hc,hcl⟩ := vBox_some hzb
  have hzs : zv.cells.size = sz := by have := (rz.cells hc).1; omega
  have hrun : (execOp a.eval ⟨dst,.alloc t,type,pos,after,guard⟩).run P w = .ok (.value (.pointer (some ⟨w.heap.size,0,none⟩))) (World.more w (.cells zv.cells t)) := by
   simp only [execOp,Instr.alloc,Sem.run_bind,hzv,Result.andThen_ok,newVar,newRow,newObj,Sem.run_new,Sem.run_pure,Sem.run_pure']
   rfl
  cases hdst : dst with
  | none => subst hdst; exact h.elim
  | some d =>
   subst hdst
   simp only at h
   split at h
   ·obtain ⟨lam',q1,q2,q3⟩ := newLoc_sound (el := t) hI hF (Nat.max_le.2 ⟨hI.big,hE.size⟩) (hd d rfl) rz hc
    unfold Oper.wp
    rw [hrun]
    exact hnext _ _ _ _ h ⟨G,lam',q1,q2,hE.trans q3⟩
   ·split at h
    ·rename_i hpos
     obtain ⟨p1,p2,p3⟩ := push_soundT hI sz [z'] zv.cells t (tagOf P t) (tagOf_odd P t hzs.symm) hpos (by simp [hzs]) (row_one rz hc hzs)
     exact fin_val hF hE hnext hd hrun p1 p2 (by
      show RelV _ _ _
      have := RelV.ptr (G := G.newAt σ.length (tagOf P t) (w.heap.size,0,sz,zv.cells.size)) σ.length (tagOf P t) 0 0 w.heap.size 0 sz _ (Gh.newAt_at _ _ _ _)
      simpa using this) h
    ·exact h.elim
 | box t x =>
  obtain ⟨z,hz,h⟩ := bindO_some h
  have rx := evP_rel hF x
  obtain ⟨zc,hc,hz1⟩ : ∃ zc,(evP fr x).cells? = some zc ∧ z = (zc.length,evP fr x) := by
   unfold opC.vBoxAny at hz
   split at hz
   ·rename_i cs hcs
    simp only [Option.some.injEq] at hz
    exact ⟨cs,hcs,hz.symm⟩
   ·simp at hz
  subst hz1
  have hzs : (a.eval x).cells.size = zc.length := (rx.cells hc).1.symm
  have hrun : (execOp a.eval ⟨dst,.box t x,type,pos,after,guard⟩).run P w = .ok (.value (.pointer (some ⟨w.heap.size,0,none⟩))) (World.more w (.cells (a.eval x).cells t)) := by
   simp only [execOp,Instr.box,Sem.run_bind,Result.andThen_ok,newVar,newRow,newObj,Sem.run_new,Sem.run_pure,Sem.run_pure']
   rfl
  cases hdst : dst with
  | none => subst hdst; exact h.elim
  | some d =>
   subst hdst
   simp only at h
   split at h
   ·obtain ⟨lam',q1,q2,q3⟩ := newLoc_sound (el := t) hI hF (Nat.max_le.2 ⟨hI.big,hE.size⟩) (hd d rfl) rx hc
    unfold Oper.wp
    rw [hrun]
    exact hnext _ _ _ _ h ⟨G,lam',q1,q2,hE.trans q3⟩
   ·split at h
    ·rename_i hpos
     obtain ⟨p1,p2,p3⟩ := push_sound hI zc.length [evP fr x] (a.eval x).cells t hpos (by simp [hzs]) (row_one rx hc hzs)
     exact fin_val hF hE hnext hd hrun p1 p2 (by
      show RelV _ _ _
      have := RelV.ptr (G := G.newAt σ.length 0 (w.heap.size,0,zc.length,(a.eval x).cells.size)) σ.length 0 0 0 w.heap.size 0 zc.length _ (Gh.newAt_at _ _ _ _)
      simpa using this) h
    ·exact h.elim
 | buildSlice t m parts =>
  cases hdst : dst with
  | none => subst hdst; exact other h
  | some d =>
   subst hdst
   simp only [opC] at h
   split at h
   ·obtain ⟨e,he,h⟩ := bindO_some h
    obtain ⟨sz,hs,h⟩ := bindO_some h
    obtain ⟨z,hz,h⟩ := bindO_some h
    split at h
    ·rename_i hc
     obtain ⟨z',hb,h⟩ := bindO_some h
     obtain ⟨xs,hx,h⟩ := bindO_some h
     obtain ⟨cells,q1,q2,q3,q4⟩ := buildSlB_sound _ hI he hs hz hc.1 hc.2.1 hc.2.2 hb (fun x => evP_rel hF x) hx
     have hrun : (execOp a.eval ⟨some d,.buildSlice t m parts,type,pos,after,guard⟩).run P w = .ok (.value (.slice (some ⟨w.heap.size,0,none⟩) m m)) (World.more w (.cells cells e)) := by
      simp only [execOp,Sem.run_bind,q1,Result.andThen_ok,Sem.run_pure]
     obtain ⟨p1,p2,p3⟩ := push_sound hI sz xs cells e hc.2.1 q3 q2
     exact fin_val hF hE hnext hd hrun p1 p2 (by
      show RelV _ _ _
      have := RelV.sref (G := G.newAt σ.length 0 (w.heap.size,0,sz,cells.size)) σ.length 0 sz 0 m w.heap.size 0 cells.size m (Gh.newAt_at _ _ _ _) (Nat.le_refl _) (by rw [q4]; simp)
      simpa using this) h
    ·exact h.elim
   ·exact other h
 | store t x y =>
  obtain ⟨sz,hsz,h⟩ := bindO_some h
  cases he : evE fr x with
  | loc s off =>
   rw [he] at h
   cases clean with
   | true => exact h.elim
   | false =>
   obtain ⟨z,hz,hK⟩ := bindO_some (heldG_in h).2
   obtain ⟨B,hl,hx⟩ := evE_loc hF he
   obtain ⟨w',q1,q2,q3,e1,e2,e3,e4,e5⟩ := setLoc_sound (P := P) hI hF (Nat.le_max_left _ _) hl hsz (evP_rel hF y) hz
   unfold Oper.wp
   have hrun : (execOp a.eval ⟨dst,.store t x y,type,pos,after,guard⟩).run P w = .ok .skip w' := by
    simp only [execOp,hx,Sem.run_bind,q1,Result.andThen_ok,Sem.run_pure]
   rw [hrun]
   obtain ⟨hM,hno,hi0,_⟩ := hF.loc s B hl
   refine hnext _ _ _ _ hK ⟨G,lam,q2,q3.put hd (show EvRel G lam (.v .any) _ from .any _),?_⟩
   refine ⟨hE.le,e1.trans hE.os,e2.trans hE.tape,e3.trans hE.output,by rw [e4]; exact hE.size,fun k hk hn hI' => ?_,hE.own,hE.imm,hE.len⟩
   rw [e5 k (by omega),hE.keep k hk hn hI']
  | v p =>
   rw [he] at h
   cases strict with
   | true => exact h.elim
   | false =>
   obtain ⟨σ',hs,hK⟩ := bindO_some (heldG_in h).2
   obtain ⟨w',q1,q2,q3,q4,q5⟩ := store_sound (P := P) hI hsz (evE_v hF he) (evP_rel hF y) hs
   unfold Oper.wp
   have hrun : (execOp a.eval ⟨dst,.store t x y,type,pos,after,guard⟩).run P w = .ok .skip w' := by
    simp only [execOp,Sem.run_bind,q1,Result.andThen_ok,Sem.run_pure]
   rw [hrun]
   exact hnext _ _ _ _ hK ⟨G,lam,q2,(hF.step q3).put hd (show EvRel G lam (.v .any) _ from .any _),hE.trans q3⟩
 | defer q =>
  obtain ⟨callee,args,argTypes⟩ := q
  simp only [opC] at h
  split at h
  ·rename_i f hargs
   split at h
   ·rename_i g caps hf
    have rf := evP_rel hF f
    rw [hf] at rf
    cases hv : a.eval f <;> rw [hv] at rf <;> cases rf
    rename_i fs vs hk hl hr
    obtain rfl : fs = #[] := Array.eq_empty_of_size_eq_zero hk
    obtain rfl : args = #[] := by apply Array.ext'; simpa using hargs
    unfold Oper.wp
    have hrun : (execOp a.eval ⟨dst,.defer ⟨.value f,#[],argTypes⟩,type,pos,after,guard⟩).run P w = .ok (.defer { target := .fn (.func g) vs,args := #[] }) w := by
     simp [execOp,resolve,hv,Deferred.ofValue,Sem.run_bind,Sem.run_pure,Result.andThen_ok]
    rw [hrun]
    have hF' := hF.put (dst := dst) hd (show EvRel G lam (.v .any) undef from .any _)
    refine hnext _ _ _ _ h ⟨G,lam,hI,⟨?_,fun s B hs => by
     have := hF.loc s B hs
     cases dst <;> exact this,hF.inj,?_,?_,hF.glb⟩,hE⟩
    ·intro t
     have := hF'.env t
     cases dst <;> exact this
    ·have := hF'.size
     cases dst <;> exact this
    ·have hdf : (fr.put dst (.v .any)).dfr = fr.dfr := by cases dst <;> rfl
     have := DfrRel.cons g caps vs fr.dfr a.defers (by simpa using hl) (by simpa using hr) hF.dfr
     cases dst <;> exact this
   ·exact h.elim
  ·exact h.elim
 | call q =>
  simp only [opC] at h
  split at h
  ·exact other (heldG_in h).2
  ·exact other h
 | _ => exact other h
end
end Go.Abs
namespace Go.Abs
section
variable {P : Program} {N : Base} {call : CallP} {G₀ : Gh} {σ₀ : St} {w₀ : World} {n : Nat}
theorem mem_dstL {o : Oper} {d : Nat} (hd : o.dst = some d) : ∀ (os : List Oper),o ∈ os → (dstL os).contains d = true
 | [],h => by simp at h
 | o' :: os,h => by
  simp only [dstL]
  rcases List.mem_cons.1 h with rfl | h
  ·rw [hd]; simp
  ·have := mem_dstL hd os h
   split
   ·simp at this ⊢; exact .inr this
   ·exact this
def Off (D : List Nat) (base fr : Fr) : Prop := ∀ t,D.contains t = false → (fr.env t).pv = (base.env t).pv
theorem Off.put {D : List Nat} {base fr : Fr} {dst : Option Nat} {e : EV} (h : Off D base fr) (hd : ∀ d,dst = some d → D.contains d = true) : Off D base (fr.put dst e) := by
 intro t ht
 rw [Fr.put_env _ _ _ _ (fun he => by rw [hd t he] at ht; cases ht)]
 exact h t ht
theorem Off.newLoc {D : List Nat} {base fr : Fr} {d : Nat} {z : PV} (h : Off D base fr) (hd : D.contains d = true) : Off D base (fr.newLoc d z) := by
 intro t ht
 rw [← h t ht]
 simp only [Fr.newLoc]
 rw [if_neg (fun he => by subst he; rw [hd] at ht; cases ht)]
 cases fr.env t with
 | v x => rfl
 | loc s o => simp only; split <;> rfl
theorem Off.setLoc {D : List Nat} {base fr : Fr} {d : Nat} {z : PV} (h : Off D base fr) : Off D base (fr.setLoc d z) := h
theorem FrRel.mask {G : Gh} {σ : St} {w : World} {M n : Nat} {lam : Nat → Option Nat} {fr base : Fr} {a : Act} {D : List Nat} (h : FrRel G σ w M n lam fr a) (ho : Off D base fr) : FrRel G σ w M n lam (fr.mask D base) a :=
 ⟨fun t => by
  simp only [Fr.mask]
  split
  ·exact RelV.any _
  ·rename_i ht
   rw [← ho t (by simpa using ht)]
   have := h.env t
   cases he : fr.env t with
   | v x => rw [he] at this; exact this
   | loc s o => exact RelV.any _,h.loc,h.inj,h.size,h.dfr,h.glb⟩
theorem bindO_imp {α : Type} {o : Option α} {K K' : α → Prop} (hK : ∀ a,K a → K' a) (h : bindO False o K) : bindO False o K' := by
 cases o with
 | none => exact h
 | some a => exact hK _ h
theorem opC_off (hm : CallMono call) {locs : List Nat} {D : List Nat} {base : Fr} {c s : Bool} {o : Oper} {fr : Fr} {σ : St} {K : Fr → St → Prop} {X : PV → Fr → St → Prop} (hd : ∀ d,o.dst = some d → D.contains d = true) (hf : Off D base fr)
  (h : opC (algP call) P locs c s o fr σ K X) : opC (algP call) P locs c s o fr σ (fun fr' σ' => Off D base fr' ∧ K fr' σ') (fun v fr' σ' => Off D base fr' ∧ X v fr' σ') := by
 obtain ⟨dst,op,type,pos,after,guard⟩ := o
 have other : opV (algP call) P c s ⟨dst,op,type,pos,after,guard⟩ fr σ (fun e σ => K (fr.put dst e) σ) (fun v σ => X v fr σ) →
   opV (algP call) P c s ⟨dst,op,type,pos,after,guard⟩ fr σ (fun e σ => Off D base (fr.put dst e) ∧ K (fr.put dst e) σ) (fun v σ => Off D base fr ∧ X v fr σ) :=
  fun h => opV_mono hm (fun e σ hk => ⟨hf.put hd,hk⟩) (fun v σ hx => ⟨hf,hx⟩) h
 cases op with
 | alloc t =>
  refine bindO_imp (fun sz h => bindO_imp (fun z h => bindO_imp (fun z h => ?_) h) h) h
  revert h
  cases dst with
  | none => exact fun h => h
  | some d =>
   simp only
   split
   ·exact fun h => ⟨hf.newLoc (hd d rfl),h⟩
   ·split
    ·exact fun h => ⟨hf.put hd,h⟩
    ·exact fun h => h
 | box t x =>
  refine bindO_imp (fun z h => ?_) h
  revert h
  cases dst with
  | none => exact fun h => h
  | some d =>
   simp only
   split
   ·exact fun h => ⟨hf.newLoc (hd d rfl),h⟩
   ·split
    ·exact fun h => ⟨hf.put hd,h⟩
    ·exact fun h => h
 | buildSlice t n parts =>
  cases dst with
  | none => exact other h
  | some d =>
   revert h
   simp only [opC]
   split
   ·intro h
    refine bindO_imp (fun e h => bindO_imp (fun sz h => bindO_imp (fun z h => ?_) h) h) h
    by_cases hc : n * sz ≤ 16777216 ∧ 0 < sz ∧ 0 < n
    ·rw [if_pos hc] at h ⊢
     exact bindO_imp (fun z h => bindO_imp (fun xs h => ⟨hf.put hd,h⟩) h) h
    ·rw [if_neg hc] at h ⊢
     exact h
   ·exact other
 | store t x y =>
  refine bindO_imp (fun sz h => ?_) h
  revert h
  cases evE fr x with
  | loc s' off => cases c with
   | true => exact fun h => h
   | false => exact heldG_imp fun h => bindO_imp (fun z h => ⟨Off.put hf.setLoc hd,h⟩) h
  | v p => cases s with
   | true => exact fun h => h
   | false => exact heldG_imp fun h => bindO_imp (fun z h => ⟨hf.put hd,h⟩) h
 | defer q =>
  revert h
  simp only [opC]
  split
  ·split
   ·exact fun h => ⟨hf.put (e := .v .any) hd,h⟩
   ·exact fun h => h
  ·exact fun h => h
 | call q =>
  revert h
  simp only [opC]
  split
  ·exact heldG_imp other
  ·exact other
 | _ => exact other h
theorem run1_off (hm : CallMono call) {locs : List Nat} {all : List Oper} {t : Task} {D : List Nat} {base fr : Fr} {σ : St} {K : Fr → St → Prop} {X : PV → Fr → St → Prop} (hd : ∀ d,t.o.dst = some d → D.contains d = true) (hf : Off D base fr)
  (h : run1 call P locs all t fr σ K X) : run1 call P locs all t fr σ (fun fr' σ' => Off D base fr' ∧ K fr' σ') (fun v fr' σ' => Off D base fr' ∧ X v fr' σ') := by
 revert h
 unfold run1
 cases t.o.guard with
 | none => exact fun h => opC_off hm hd hf h
 | some g =>
  simp only
  cases all[g.1]? with
  | none => exact fun h => h
  | some oj =>
   simp only
   cases oj.dst with
   | none => exact fun h => h
   | some d =>
    simp only
    split
    ·cases hb : gOk (fr.env d).pv g.2 with
     | none => exact fun h => h
     | some b =>
      cases b with
      | true => exact fun h => opV_mono hm (fun _ _ hk => ⟨hf.put hd,hk⟩) (fun _ _ hx => ⟨hf,hx⟩) h
      | false => exact fun h => ⟨hf.put hd,h⟩
    ·exact fun h => h
def QHat (G₀ : Gh) (σ₀ : St) (w₀ : World) (N : Base) (n : Nat) (Q : Out → Fr → St → Prop) : Exit → Act → World → Prop
 | .normal,a,w => ∃ fr σ,Q .normal fr σ ∧ Rel G₀ σ₀ w₀ N n fr σ a w
 | .exit id,a,w => ∃ fr σ,Q (.exit id) fr σ ∧ Rel G₀ σ₀ w₀ N n fr σ a w
 | .ret,a,w => ∃ fr σ,Q .ret fr σ ∧ Rel G₀ σ₀ w₀ N n fr σ a w
 | .panic chain,a,w => ∃ x v fr σ,Q (.pan x) fr σ ∧ chain = [{ v,recovered := false }] ∧ ∃ G lam,Inv G N σ w ∧ FrRel G σ w (max N.n w₀.heap.size) n lam fr a ∧ Ext G₀ σ₀ w₀ G σ w ∧ RelV G x v
 | _,_,_ => False
theorem lookP_map (f : Nat → PV) (rest : List (Nat × PV)) : ∀ (l : List Nat) (t : Nat),l.contains t = true → lookP (l.map (fun t => (t,f t)) ++ rest) t = f t
 | [],t,h => by simp at h
 | k :: l,t,h => by
  simp only [List.map_cons,List.cons_append,lookP]
  split
  ·rename_i he; subst he; rfl
  ·rename_i he
   exact lookP_map f rest l t (by simpa [he] using h)
theorem wanted_of {fr : Fr} {σ : St} {a : Act} {w : World} {ops : Array Oper} {o oj : Oper} {g : Nat × Bool} {d : Nat} {b : Bool} (hr : Rel G₀ σ₀ w₀ N n fr σ a w) (hgd : o.guard = some g) (hoj : ops[g.1]? = some oj) (hdj : oj.dst = some d) (hb : gOk (fr.env d).pv g.2 = some b) :
  Region.wanted o (yielded ops a.tmps) = b := by
 obtain ⟨G,lam,hI,hF,hE⟩ := hr
 obtain ⟨j,want⟩ := g
 simp only at hoj hb
 have h1 := hF.env d
 have hv : RelV G (fr.env d).pv (a.tmps.getD d undef) := by
  cases he : fr.env d with
  | loc s off => exact .any _
  | v x => rw [he] at h1; exact h1
 unfold gOk at hb
 split at hb
 ·rename_i b' hpv
  rw [hpv] at hv
  have hv := hv.bool_inv
  have hval : a.tmps[d]? = some (.bool b') := by
   rw [Array.getD_eq_getD_getElem?] at hv
   cases hq : a.tmps[d]? with
   | none => rw [hq] at hv; simp [undef] at hv
   | some u => rw [hq] at hv; simpa using hv
  simp only [Option.some.injEq] at hb
  subst hb
  simp only [Region.wanted,hgd,yielded,hoj,Option.bind_some,hdj,hval]
  cases b' <;> cases want <;> rfl
 ·rename_i hpv
  rw [hpv] at hv
  simp only [Option.some.injEq] at hb
  subst hb
  have hnb : ∀ b',a.tmps[d]? ≠ some (.bool b') := by
   intro b' hq
   rw [Array.getD_eq_getD_getElem?,hq] at hv
   cases hv
  simp only [Region.wanted,hgd,yielded,hoj,Option.bind_some,hdj]
  first
   | rfl
   | (split
      · rename_i b' hq; exact absurd hq (hnb b')
      · rfl)
 ·cases hb
theorem undef_rel (G : Gh) (lam : Nat → Option Nat) : EvRel G lam (.v (.tuple [])) undef := RelV.tuple [] #[] rfl (by simp)
def panX (Q : Out → Fr → St → Prop) (D : List Nat) (base : Fr) (v : PV) (fr : Fr) (σ : St) : Prop := Q (.pan v) (fr.mask D base) σ
theorem panX_env (Q : Out → Fr → St → Prop) (D : List Nat) (base : Fr) : ∀ v fr fr' σ,fr.noEnv = fr'.noEnv → panX Q D base v fr σ → panX Q D base v fr' σ := by
 intro v fr fr' σ h hx
 have : fr.mask D base = fr'.mask D base := Fr.ext' (fun _ => rfl) (Fr.noEnv_loc h) (Fr.noEnv_dfr h)
 unfold panX at *
 rw [← this]
 exact hx
theorem run1_wp (hg : goodNames P = true) (hcall : CallSound P N call) (hm : CallMono call) {locs : List Nat} {ops : Array Oper} {t : Task} {D : List Nat} {base fr : Fr} {σ : St} {a : Act} {w : World} {K : Fr → St → Prop} {X : PV → Fr → St → Prop} {Q : Exit → Act → World → Prop} {next : Act → World → Prop}
  (hd : ∀ d,t.o.dst = some d → d < n) (hD : ∀ d,t.o.dst = some d → D.contains d = true) (hoff : Off D base fr) (hrel : Rel G₀ σ₀ w₀ N n fr σ a w)
  (hnext : ∀ fr' σ' a' w',K fr' σ' → Off D base fr' → Rel G₀ σ₀ w₀ N n fr' σ' a' w' → next a' w')
  (hpan : ∀ x v fr' σ' w',X x fr' σ' → Off D base fr' → (∃ G lam,Inv G N σ' w' ∧ FrRel G σ' w' (max N.n w₀.heap.size) n lam fr' a ∧ Ext G₀ σ₀ w₀ G σ' w' ∧ RelV G x v) → Q (.panic [{ v,recovered := false }]) a w')
  (h : run1 call P locs ops.toList t fr σ K X) : if Region.wanted t.o (yielded ops a.tmps) = true then t.o.wp P a w next Q else next (a.put t.o.dst undef) w := by
 have h := run1_off hm hD hoff h
 unfold run1 at h
 cases hgd : t.o.guard with
 | none =>
  have : Region.wanted t.o (yielded ops a.tmps) = true := by simp [Region.wanted,hgd]
  rw [if_pos this]
  rw [hgd] at h
  exact op_sound hg hcall hrel hd (fun fr' σ' a' w' hK hr => hnext fr' σ' a' w' hK.2 hK.1 hr) (fun x v fr' σ' w' hX hr => hpan x v fr' σ' w' hX.2 hX.1 hr) h
 | some g =>
  rw [hgd] at h
  simp only at h
  split at h
  ·rename_i oj hoj
   split at h
   ·rename_i d hdj
    split at h
    ·split at h
     ·rename_i hb
      have hy := wanted_of hrel hgd (show ops[g.1]? = some oj by simpa using hoj) hdj hb
      rw [hy,if_pos rfl]
      obtain ⟨G,lam,hI,hF,hE⟩ := hrel
      exact opV_sound hg hcall hI hF (fun e v σ' w' G' hK hI' hE' hv => hnext _ _ _ _ hK.2 hK.1 ⟨G',lam,hI',(hF.step hE').put hd hv,hE.trans hE'⟩)
       (fun x v σ' w' G' hX hI' hE' hv => hpan _ _ _ _ _ hX.2 hX.1 ⟨G',lam,hI',hF.step hE',hE.trans hE',hv⟩) h
     ·rename_i hb
      have hy := wanted_of hrel hgd (show ops[g.1]? = some oj by simpa using hoj) hdj hb
      rw [hy,if_neg (by simp)]
      obtain ⟨G,lam,hI,hF,hE⟩ := hrel
      exact hnext _ _ _ _ h.2 h.1 ⟨G,lam,hI,hF.put hd (undef_rel G lam),hE⟩
     ·exact h.elim
    ·exact h.elim
   ·exact h.elim
  ·exact h.elim
theorem run1_sound (hg : goodNames P = true) (hcall : CallSound P N call) (hm : CallMono call) {locs : List Nat} {ops : Array Oper} {t : Task} {D : List Nat} {base fr : Fr} {σ : St} {a : Act} {w : World} {K : Fr → St → Prop} {Q : Out → Fr → St → Prop} {next : Act → World → Prop}
  (hi : ops[t.i]? = some t.o) (hd : ∀ d,t.o.dst = some d → d < n) (hD : ∀ d,t.o.dst = some d → D.contains d = true) (hoff : Off D base fr) (hrel : Rel G₀ σ₀ w₀ N n fr σ a w)
  (hnext : ∀ fr' σ' a' w',K fr' σ' → Off D base fr' → Rel G₀ σ₀ w₀ N n fr' σ' a' w' → next a' w')
  (h : run1 call P locs ops.toList t fr σ K (panX Q D base)) : wpOp P ops (QHat G₀ σ₀ w₀ N n Q) t.i next a w := by
 have := run1_wp (Q := QHat G₀ σ₀ w₀ N n Q) hg hcall hm hd hD hoff hrel hnext (by
  rintro x v fr' σ' w' hX ho ⟨G,lam,h1,h2,h3,h4⟩
  exact ⟨x,v,_,σ',hX,rfl,G,lam,h1,h2.mask ho,h3,h4⟩) h
 unfold wpOp
 rw [hi]
 simp only
 split
 ·rename_i hw
  rw [if_pos hw] at this
  exact .inl this
 ·rename_i hw
  rw [if_neg hw] at this
  exact this
theorem runL_ops (hg : goodNames P = true) (hcall : CallSound P N call) (hm : CallMono call) {locs : List Nat} {ops : Array Oper} {D : List Nat} {base : Fr} {Q : Out → Fr → St → Prop} : ∀ (ts : List Task) (fr : Fr) (σ : St) (a : Act) (w : World),
  (∀ t ∈ ts,ops[t.i]? = some t.o ∧ (∀ d,t.o.dst = some d → d < n) ∧ ∀ d,t.o.dst = some d → D.contains d = true) → Off D base fr → Rel G₀ σ₀ w₀ N n fr σ a w → runL call P locs ops.toList ts fr σ (Q .normal) (panX Q D base) → wpOps P ops (QHat G₀ σ₀ w₀ N n Q) (ts.map (·.i)) a w
 | [],fr,σ,a,w,ht,ho,hr,h => ⟨fr,σ,h,hr⟩
 | t :: ts,fr,σ,a,w,ht,ho,hr,h => by
  rw [List.map_cons,wpOps_cons]
  obtain ⟨t1,t2,t3⟩ := ht t (by simp)
  exact run1_sound hg hcall hm t1 t2 t3 ho hr (fun fr' σ' a' w' hK ho' hr' => runL_ops hg hcall hm ts fr' σ' a' w' (fun t' ht' => ht t' (by simp [ht'])) ho' hr' hK) h
theorem runL_opsS (hg : goodNames P = true) (hcall : CallSound P N call) (hm : CallMono call) {locs : List Nat} {ops : Array Oper} {cs : List Frame} {K : Fr → St → Prop} {X : PV → Fr → St → Prop} {Q : Exit → Act → List Frame → World → Prop}
  (hK : ∀ fr σ a w,K fr σ → Rel G₀ σ₀ w₀ N n fr σ a w → Q .normal a cs w) (hX : ∀ v fr σ,¬ X v fr σ) : ∀ (ts : List Task) (fr : Fr) (σ : St) (a : Act) (w : World),
  (∀ t ∈ ts,ops[t.i]? = some t.o ∧ (∀ d,t.o.dst = some d → d < n)) → Rel G₀ σ₀ w₀ N n fr σ a w → runL call P locs ops.toList ts fr σ K X → wpOpsS P ops Q (ts.map (·.i)) a cs w
 | [],fr,σ,a,w,ht,hr,h => hK fr σ a w h hr
 | t :: ts,fr,σ,a,w,ht,hr,h => by
  obtain ⟨t1,t2⟩ := ht t (by simp)
  have := run1_wp (D := t.o.dst.toList) (base := fr) (Q := fun e a' w' => Q e a' cs w') hg hcall hm t2 (fun d hd => by simp [hd]) (fun _ _ => rfl) hr
   (fun fr' σ' a' w' hK' _ hr' => runL_opsS hg hcall hm hK hX ts fr' σ' a' w' (fun t' ht' => ht t' (by simp [ht'])) hr' hK') (fun x v fr' σ' w' hx => absurd hx (hX _ _ _)) h
  simp only [List.map_cons,wpOpsS,t1]
  split
  ·rename_i hw
   rw [if_pos hw] at this
   unfold Oper.wp at this
   split
   ·rename_i w' hrun
    rw [hrun] at this
    exact this.elim
   ·exact this
  ·rename_i hw
   rw [if_neg hw] at this
   exact this
theorem mem_uniN {k : Nat} : ∀ (xs l : List Nat),k ∈ uniN l xs → k ∈ l ∨ k ∈ xs
 | [],l,h => .inl h
 | x :: xs,l,h => by
  simp only [uniN] at h
  split at h
  ·exact (mem_uniN xs l h).imp id (List.mem_cons_of_mem _)
  ·rcases mem_uniN xs _ h with h | h
   ·rcases List.mem_cons.1 h with rfl | h
    ·exact .inr (by simp)
    ·exact .inl h
   ·exact .inr (List.mem_cons_of_mem _ h)
theorem mem_foldU {acc : List (Nat × List Nat)} {k : Nat} : ∀ (ds l : List Nat),k ∈ ds.foldl (fun l d => uniN l (lookN acc d)) l → k ∈ l ∨ ∃ d ∈ ds,k ∈ lookN acc d
 | [],l,h => .inl h
 | d :: ds,l,h => by
  rw [List.foldl_cons] at h
  rcases mem_foldU ds _ h with h | ⟨d',h1,h2⟩
  ·rcases mem_uniN _ _ h with h | h
   ·exact .inl h
   ·exact .inr ⟨d,by simp,h⟩
  ·exact .inr ⟨d',List.mem_cons_of_mem _ h1,h2⟩
theorem preT_good {ops : Array Oper} {L : Nat → Prop} (hL : ∀ j,L j → ∀ d ∈ depsAt ops j,L d) : ∀ (js : List Nat) (acc : List (Nat × List Nat)),
  (∀ j,(∀ d ∈ depsAt ops j,L d) → ∀ k ∈ lookN acc j,L k) → ∀ j,(∀ d ∈ depsAt ops j,L d) → ∀ k ∈ lookN (preT ops js acc) j,L k
 | [],acc,h => h
 | i :: js,acc,h => by
  refine preT_good hL js _ fun j hj k hk => ?_
  simp only [lookN] at hk
  split at hk
  ·rename_i hji
   subst hji
   rcases mem_foldU _ _ hk with hk | ⟨d,h1,h2⟩
   ·exact hj k hk
   ·exact h d (hL d (hj d h1)) k h2
  ·exact h j hj k hk
def Stand (locs : List Nat) (ops : Array Oper) (T : List (Nat × List Nat)) (but : Option (Nat × Nat)) (x y : Task) : Prop := y.i ∉ depsAt ops x.i ∧ y.i ≠ x.i ∧ (x.i ∈ lookN T y.i ∨ comm locs ops x y = true ∨ butIs T but x.i y.i = true)
theorem pairsOk_spec {locs : List Nat} {ops : Array Oper} {T : List (Nat × List Nat)} {but : Option (Nat × Nat)} : ∀ (ts : List Task),pairsOk locs ops T but ts = true → ts.Pairwise (Stand locs ops T but) ∧ ∀ x ∈ ts,x.i ∉ depsAt ops x.i ∧ ∀ d ∈ depsAt ops x.i,d < ops.size
 | [],h => ⟨.nil,by simp⟩
 | x :: ts,h => by
  simp only [pairsOk,Bool.and_eq_true,List.all_eq_true] at h
  obtain ⟨⟨⟨h1,h2⟩,h3⟩,h4⟩ := h
  obtain ⟨i1,i2⟩ := pairsOk_spec ts h4
  refine ⟨.cons (fun y hy => ?_) i1,fun x' hx' => ?_⟩
  ·have := h3 y hy
   simp only [Bool.and_eq_true,Bool.or_eq_true,Bool.not_eq_true',bne_iff_ne] at this
   refine ⟨by simpa using this.1.1,this.1.2,?_⟩
   rcases this.2 with (h | h) | h
   ·exact .inl (by simpa using h)
   ·exact .inr (.inl h)
   ·exact .inr (.inr h)
  ·rcases List.mem_cons.1 hx' with rfl | hx'
   ·exact ⟨by simpa using h1,fun d hd => by simpa using h2 d hd⟩
   ·exact i2 x' hx'
theorem tasksOf_spec {ops : List Oper} : ∀ (l : List (Nat × Bool × Bool)) (ts : List Task),tasksOf ops l = some ts → ts.map (·.i) = l.map (·.1) ∧ ∀ t ∈ ts,ops[t.i]? = some t.o
 | [],ts,h => by simp only [tasksOf,Option.some.injEq] at h; subst h; simp
 | (i,c,s) :: l,ts,h => by
   simp only [tasksOf] at h
   split at h
   · cases h
   · rename_i o ho
     split at h
     · cases h
     · rename_i ts' hts
       simp only [Option.some.injEq] at h
       subst h
       obtain ⟨h1,h2⟩ := tasksOf_spec l ts' hts
       refine ⟨by simp [h1],fun t ht => ?_⟩
       rcases List.mem_cons.1 ht with rfl | ht
       · exact ho
       · exact h2 t ht
theorem tasksOf_mem {ops : List Oper} : ∀ (l : List (Nat × Bool × Bool)) (ts : List Task),tasksOf ops l = some ts → ∀ e ∈ l,∃ o,∃ (c : Unit) (s : Unit),ops[e.1]? = some o ∧ ({ i := e.1,o,clean := e.2.1,strict := e.2.2 } : Task) ∈ ts
 | [],ts,h,e,he => by simp at he
 | (i,c,s) :: l,ts,h,e,he => by
   simp only [tasksOf] at h
   split at h
   · cases h
   · rename_i o ho
     split at h
     · cases h
     · rename_i ts' hts
       simp only [Option.some.injEq] at h
       subst h
       rcases List.mem_cons.1 he with rfl | he
       · exact ⟨o,(),(),ho,by simp⟩
       · obtain ⟨o',c',s',h1,h2⟩ := tasksOf_mem l ts' hts e he
         exact ⟨o',c',s',h1,by simp [h2]⟩
theorem mem_depsAt {ops : Array Oper} {j d : Nat} : d ∈ depsAt ops j ↔ ∃ o,ops[j]? = some o ∧ ∃ e ∈ o.after,Region.binds .any e = true ∧ e.on = d := by
 unfold depsAt
 cases ho : ops[j]? with
 | none => simp
 | some o =>
  simp only [depsOf,List.mem_map,List.mem_filter,Array.mem_toList_iff,Option.some.injEq,exists_eq_left']
  constructor
  ·rintro ⟨e,⟨h1,h2⟩,h3⟩; exact ⟨e,h1,h2,h3⟩
  ·rintro ⟨e,h1,h2,h3⟩; exact ⟨e,⟨h1,h2⟩,h3⟩
structure Left (locs : List Nat) (ops : Array Oper) (n : Nat) (D : List Nat) (T : List (Nat × List Nat)) (but : Option (Nat × Nat)) (listed : Array Bool) (ts : List Task) : Prop where
 ok : ∀ t ∈ ts,ops[t.i]? = some t.o ∧ (∀ d,t.o.dst = some d → d < n) ∧ ∀ d,t.o.dst = some d → D.contains d = true
 un : ∀ t ∈ ts,listed.getD t.i true = false
 cov : ∀ k,listed.getD k true = false → ∃ t ∈ ts,t.i = k
 pw : ts.Pairwise (Stand locs ops T but)
 self : ∀ x ∈ ts,x.i ∉ depsAt ops x.i ∧ ∀ d ∈ depsAt ops x.i,d < ops.size
section
variable {locs : List Nat} {ops : Array Oper} {D : List Nat} {T : List (Nat × List Nat)} {but : Option (Nat × Nat)} {listed : Array Bool} {ts pre post : List Task} {y : Task}
theorem Left.ne (h : Left locs ops n D T but listed (pre ++ y :: post)) : ∀ t ∈ pre ++ post,t.i ≠ y.i := by
 intro t ht
 rcases List.mem_append.1 ht with ht | ht
 ·exact Ne.symm ((List.pairwise_append.1 h.pw).2.2 t ht y (by simp)).2.1
 ·exact ((List.pairwise_cons.1 (List.pairwise_append.1 h.pw).2.1).1 t ht).2.1
theorem Left.take (h : Left locs ops n D T but listed (pre ++ y :: post)) (hys : y.i < listed.size) : Left locs ops n D T but (listed.setIfInBounds y.i true) (pre ++ post) := by
 have hsub : ∀ t ∈ pre ++ post,t ∈ pre ++ y :: post := by
  intro t ht
  rcases List.mem_append.1 ht with ht | ht <;> simp [ht]
 refine ⟨fun t ht => h.ok t (hsub t ht),fun t ht => ?_,fun k hk => ?_,h.pw.sublist (List.Sublist.append (List.Sublist.refl _) (List.sublist_cons_self _ _)),fun x hx => h.self x (hsub x hx)⟩
 ·rw [getD_set_ne true (Ne.symm (h.ne t ht))]
  exact h.un t (hsub t ht)
 ·by_cases hky : y.i = k
  ·subst hky
   simp [Array.getD_eq_getD_getElem?,hys] at hk
  ·rw [getD_set_ne true hky] at hk
   obtain ⟨t,ht,rfl⟩ := h.cov k hk
   refine ⟨t,?_,rfl⟩
   rcases List.mem_append.1 ht with ht | ht
   ·simp [ht]
   ·rcases List.mem_cons.1 ht with rfl | ht
    ·exact absurd rfl hky
    ·simp [ht]
theorem Left.less (h : Left locs ops n D T but listed ts) (hb : ∀ x ∈ ts,∀ y ∈ ts,¬ butIs T but x.i y.i = true) : Left locs ops n D T none listed ts :=
 ⟨h.ok,h.un,h.cov,h.pw.imp_of_mem fun {a b} ha hb' hs => ⟨hs.1,hs.2.1,hs.2.2.imp id fun h => .inl (h.resolve_right (hb a ha b hb'))⟩,h.self⟩
theorem listed_not {k : Nat} (hun : listed.getD k true = false) : ¬ listed.getD k false = true := by
 intro h
 rcases Nat.lt_or_ge k listed.size with h' | h'
 ·simp [Array.getD_eq_getD_getElem?,h'] at h hun
  rw [h] at hun
  cases hun
 ·simp [Array.getD_eq_getD_getElem?,Array.getElem?_eq_none h'] at h
theorem Left.front (hT : ∀ L : Nat → Prop,(∀ j,L j → ∀ d ∈ depsAt ops j,L d) → ∀ j,(∀ d ∈ depsAt ops j,L d) → ∀ k ∈ lookN T j,L k) (h : Left locs ops n D T but listed (pre ++ y :: post))
  (h3 : ∀ j,listed.getD j false = true → ∀ d ∈ depsAt ops j,listed.getD d false = true) (hdeps : ∀ d ∈ depsAt ops y.i,listed.getD d false = true) (hb : ∀ x ∈ pre,¬ butIs T but x.i y.i = true) : ∀ x ∈ pre,comm locs ops x y = true := by
 intro x hx
 refine ((((List.pairwise_append.1 h.pw).2.2 x hx y (by simp)).2.2).resolve_left fun hmem => ?_).resolve_right (hb x hx)
 exact listed_not (h.un x (by simp [hx])) (hT (fun k => listed.getD k false = true) h3 y.i hdeps _ hmem)
theorem Left.ready (h : Left locs ops n D T but listed ts) (hsz : listed.size = ops.size) (hne : ts ≠ []) : Region.ready .any ops listed ≠ [] := by
 have on_of : ∀ k,k < ops.size → (∀ t ∈ ts,t.i ≠ k) → listed.getD k false = true := by
  intro k hk hno
  cases hl : listed.getD k true with
  | false => obtain ⟨t,ht,hti⟩ := h.cov k hl; exact absurd hti (hno t ht)
  | true =>
   have hk' : k < listed.size := by omega
   simp only [Array.getD_eq_getD_getElem?,Array.getElem?_eq_getElem hk',Option.getD_some] at hl ⊢
   exact hl
 cases ts with
 | nil => exact absurd rfl hne
 | cons x ts =>
  have hx : x.i ∈ Region.ready .any ops listed := by
   refine mem_ready.2 ⟨h.un x (by simp),x.o,(h.ok x (by simp)).1,fun e he hb => ?_⟩
   have hd : e.on ∈ depsAt ops x.i := mem_depsAt.2 ⟨x.o,(h.ok x (by simp)).1,e,he,hb,rfl⟩
   refine on_of e.on ((h.self x (by simp)).2 _ hd) fun t ht hti => ?_
   rcases List.mem_cons.1 ht with rfl | ht
   ·rw [← hti] at hd; exact (h.self t (by simp)).1 hd
   ·rw [← hti] at hd; exact ((List.pairwise_cons.1 h.pw).1 t ht).1 hd
  intro hre
  rw [hre] at hx
  cases hx
theorem Left.none_ready (h : Left locs ops n D T but listed []) : Region.ready .any ops listed = [] := by
 cases hre : Region.ready .any ops listed with
 | nil => rfl
 | cons j js =>
  have : j ∈ Region.ready .any ops listed := by rw [hre]; simp
  obtain ⟨t,ht,_⟩ := h.cov j (mem_ready.1 this).1
  simp at ht
theorem deps_listed {j : Nat} (hj : j ∈ Region.ready .any ops listed) : ∀ d ∈ depsAt ops j,listed.getD d false = true := by
 obtain ⟨hun,o,ho,hall⟩ := mem_ready.1 hj
 intro d hd
 obtain ⟨o',ho',e,he,hb,rfl⟩ := mem_depsAt.1 hd
 rw [ho] at ho'
 cases ho'
 exact hall e he hb
theorem ready_lt {j : Nat} (hsz : listed.size = ops.size) (hj : j ∈ Region.ready .any ops listed) : j < listed.size := by
 obtain ⟨hun,o,ho,hall⟩ := mem_ready.1 hj
 have := (Array.getElem?_eq_some_iff.1 ho).1
 omega
theorem closed_set (h3 : ∀ j,listed.getD j false = true → ∀ d ∈ depsAt ops j,listed.getD d false = true) {k : Nat} (hdeps : ∀ d ∈ depsAt ops k,listed.getD d false = true) :
  ∀ j,(listed.setIfInBounds k true).getD j false = true → ∀ d ∈ depsAt ops j,(listed.setIfInBounds k true).getD d false = true := by
 intro j hj d hd
 by_cases hky : k = j
 ·subst hky
  exact getD_set_true (hdeps d hd)
 ·rw [getD_set_ne false hky] at hj
  exact getD_set_true (h3 j hj d hd)
end
theorem runL_any (hg : goodNames P = true) (hcall : CallSound P N call) (hm : CallMono call) {locs : List Nat} {ops : Array Oper} {D : List Nat} {base : Fr} {Q : Out → Fr → St → Prop} {T : List (Nat × List Nat)}
  (hT : ∀ L : Nat → Prop,(∀ j,L j → ∀ d ∈ depsAt ops j,L d) → ∀ j,(∀ d ∈ depsAt ops j,L d) → ∀ k ∈ lookN T j,L k) :
  ∀ (fuel : Nat) (ts : List Task) (listed : Array Bool) (fr : Fr) (σ : St) (a : Act) (w : World),ts.length = fuel → listed.size = ops.size → Left locs ops n D T none listed ts → Off D base fr →
   (∀ j,listed.getD j false = true → ∀ d ∈ depsAt ops j,listed.getD d false = true) →
   Rel G₀ σ₀ w₀ N n fr σ a w → runL call P locs ops.toList ts fr σ (Q .normal) (panX Q D base) → wpAny P .any ops (QHat G₀ σ₀ w₀ N n Q) fuel listed a w := by
 intro fuel
 induction fuel with
 | zero =>
  intro ts listed fr σ a w hlen hsz hL hoff h3 hr h
  obtain rfl : ts = [] := List.length_eq_zero_iff.1 hlen
  exact wpAny_done hL.none_ready ⟨fr,σ,h,hr⟩ 0
 | succ fuel ih =>
  intro ts listed fr σ a w hlen hsz hL hoff h3 hr h
  refine ⟨fun hre => absurd hre (hL.ready hsz (by rintro rfl; simp at hlen)),fun j hj => ?_⟩
  obtain ⟨y,hy,rfl⟩ := hL.cov j (mem_ready.1 hj).1
  obtain ⟨pre,post,rfl⟩ := List.append_of_mem hy
  have hdeps := deps_listed hj
  have hys := ready_lt hsz hj
  obtain ⟨o1,o2,o3⟩ := hL.ok y hy
  refine run1_sound hg hcall hm o1 o2 o3 hoff hr (fun fr' σ' a' w' hK hoff' hr' => ?_) (runL_front hm (panX_env Q D base) pre fr σ (hL.front hT h3 hdeps (fun _ _ h => by simp [butIs] at h)) h)
  exact ih (pre ++ post) _ fr' σ' a' w' (by simp at hlen ⊢; omega) (by simpa using hsz) (hL.take hys) hoff' (closed_set h3 hdeps) hr' hK
theorem run1_app {locs : List Nat} {all : List Oper} {t : Task} {fr : Fr} {σ : St} {K K' : Fr → St → Prop} {X : PV → Fr → St → Prop} (ha : isApp t.o = true)
  (h : run1 call P locs all t fr σ K X) (h' : run1 call P locs all t fr σ K' X) : run1 call P locs all t fr σ (fun fr σ => K fr σ ∧ K' fr σ) X := by
 obtain ⟨i,⟨dst,op,type,pos,after,guard⟩,c,s⟩ := t
 simp only [isApp,Bool.and_eq_true] at ha
 obtain ⟨h1,h3⟩ := ha
 cases guard with
 | some g => simp at h3
 | none =>
  cases op with
  | call q =>
   cases hq : q.callee with
   | builtin b =>
    cases b with
    | append =>
     have hap : ∃ a,appOf (.call q) = some a ∨ appOf (.call q) = none := by
      cases h0 : appOf (.call q) with
      | none => exact ⟨.global 0,.inr rfl⟩
      | some a => exact ⟨a,.inl rfl⟩
     obtain ⟨a0,hap⟩ := hap
     have key : ∀ (A B C : Prop) (b : Bool),heldG (algP call) b A → heldG (algP call) b B → (A → B → C) → heldG (algP call) b C := by
      intro A B C b hA hB hC
      obtain ⟨hb,hA⟩ := heldG_in hA
      exact heldG_of hb (hC hA (heldG_in hB).2)
     have fin : ∀ (h : opV (algP call) P c s ⟨dst,.call q,type,pos,after,none⟩ fr σ (fun e σ => K (fr.put dst e) σ) (fun v σ => X v fr σ))
       (h' : opV (algP call) P c s ⟨dst,.call q,type,pos,after,none⟩ fr σ (fun e σ => K' (fr.put dst e) σ) (fun v σ => X v fr σ)),
       opV (algP call) P c s ⟨dst,.call q,type,pos,after,none⟩ fr σ (fun e σ => K (fr.put dst e) σ ∧ K' (fr.put dst e) σ) (fun v σ => X v fr σ) := ?_
     ·simp only [run1,opC] at h h' ⊢
      rcases hap with hap | hap
      ·simp only [hap] at h h' ⊢
       exact key _ _ _ _ h h' fin
      ·simp only [hap] at h h' ⊢
       exact fin h h'
     clear h h'
     intro h h'
     simp only [opV,hq] at h h' ⊢
     split at h
     ·rename_i s y t t2 he1 he2
      simp only [he1,he2] at h' ⊢
      cases h4 : elemOf? P t with
      | none => rw [h4] at h; exact h.elim
      | some e =>
      cases h5 : szOf P e with
      | none => rw [h4] at h; simp only [bindO,h5] at h; exact h.elim
      | some sz =>
      cases h6 : bytesOf P e with
      | none => rw [h4] at h; simp only [bindO,h5,h6] at h; exact h.elim
      | some by_ =>
      cases h7 : zeroOf P e with
      | none => rw [h4] at h; simp only [bindO,h5,h6,h7] at h; exact h.elim
      | some z =>
      cases h8 : vBox sz z with
      | none => rw [h4] at h; simp only [bindO,h5,h6,h7,h8] at h; exact h.elim
      | some z' =>
      simp only [h4,h5,h6,h7,h8,bindO] at h h' ⊢
      split at h
      ·rename_i hc
       simp only [if_pos hc] at h' ⊢
       split at h
       ·rename_i r hr
        simp only [hr] at h' ⊢
        exact ⟨h,h'⟩
       ·exact h.elim
      ·rename_i hc
       simp only [if_neg hc] at h' ⊢
       split at h
       ·rename_i hc2
        simp only [if_pos hc2] at h' ⊢
        split at h
        ·rename_i r hr
         simp only [hr] at h' ⊢
         exact ⟨h,h'⟩
        ·exact h.elim
       ·exact h.elim
     ·exact h.elim
    | _ => simp [hq] at h1
   | _ => simp [hq] at h1
  | _ => simp at h1
theorem predOf_ne {i : Nat} : ∀ (l : List (Nat × Bool × Bool)) (p : Nat),i ≠ p → i ≠ predOf i p l
 | [],p,h => h
 | x :: l,p,h => by
  simp only [predOf]
  split
  ·exact h
  ·rename_i hne
   exact predOf_ne l x.1 fun e => hne e.symm
theorem pairOf_ne : ∀ {l l' : List (Nat × Bool × Bool)} {i j : Nat},pairOf l l' = some (i,j) → i ≠ j
 | [],_,_,_,h => by simp [pairOf] at h
 | _ :: _,[],_,_,h => by simp [pairOf] at h
 | x :: l,y :: l',i,j,h => by
  simp only [pairOf] at h
  split at h
  ·exact pairOf_ne h
  ·rename_i hne
   simp only [Option.some.injEq,Prod.mk.injEq] at h
   obtain ⟨rfl,rfl⟩ := h
   exact predOf_ne l' y.1 hne
theorem runL_any2 (hg : goodNames P = true) (hcall : CallSound P N call) (hm : CallMono call) {locs : List Nat} {ops : Array Oper} {D : List Nat} {base : Fr} {Q : Out → Fr → St → Prop} {T T' : List (Nat × List Nat)} {i j : Nat}
  (hT : ∀ L : Nat → Prop,(∀ j,L j → ∀ d ∈ depsAt ops j,L d) → ∀ j,(∀ d ∈ depsAt ops j,L d) → ∀ k ∈ lookN T j,L k)
  (hT' : ∀ L : Nat → Prop,(∀ j,L j → ∀ d ∈ depsAt ops j,L d) → ∀ j,(∀ d ∈ depsAt ops j,L d) → ∀ k ∈ lookN T' j,L k) :
  ∀ (fuel : Nat) (ts ts' : List Task) (listed : Array Bool) (fr : Fr) (σ : St) (a : Act) (w : World),ts.length = fuel → ts'.length = fuel → listed.size = ops.size → Left locs ops n D T (some (i,j)) listed ts → Left locs ops n D T' (some (j,i)) listed ts' → Off D base fr →
   (∀ j,listed.getD j false = true → ∀ d ∈ depsAt ops j,listed.getD d false = true) → listed.getD i true = false → listed.getD j true = false → i ≠ j →
   (∀ x ∈ ts,x.i = i ∨ x.i = j ∨ i ∈ lookN T x.i ∨ j ∈ lookN T x.i ∨ (((isP x.o = true ∨ newsLoc locs x.o = true) ∨ isApp x.o = true) ∧ blkLit locs x.o = false ∧ x ∈ ts')) →
   Rel G₀ σ₀ w₀ N n fr σ a w → runL call P locs ops.toList ts fr σ (Q .normal) (panX Q D base) → runL call P locs ops.toList ts' fr σ (Q .normal) (panX Q D base) → wpAny P .any ops (QHat G₀ σ₀ w₀ N n Q) fuel listed a w := by
 intro fuel
 induction fuel with
 | zero =>
  intro ts ts' listed fr σ a w hlen hlen' hsz hL hL' hoff h3 hui huj hij hkind hr h h'
  obtain rfl : ts = [] := List.length_eq_zero_iff.1 hlen
  exact wpAny_done hL.none_ready ⟨fr,σ,h,hr⟩ 0
 | succ fuel ih =>
  intro ts ts' listed fr σ a w hlen hlen' hsz hL hL' hoff h3 hui huj hij hkind hr h h'
  refine ⟨fun hre => absurd hre (hL.ready hsz (by rintro rfl; simp at hlen)),fun k hk => ?_⟩
  have hdeps := deps_listed hk
  have hys := ready_lt hsz hk
  by_cases hki : k = i
  ·subst hki
   obtain ⟨y,hy,rfl⟩ := hL.cov k (mem_ready.1 hk).1
   obtain ⟨pre,post,rfl⟩ := List.append_of_mem hy
   obtain ⟨o1,o2,o3⟩ := hL.ok y hy
   have hne := hL.ne
   refine run1_sound hg hcall hm o1 o2 o3 hoff hr (fun fr' σ' a' w' hK hoff' hr' => ?_) (runL_front hm (panX_env Q D base) pre fr σ (hL.front hT h3 hdeps (fun x hx h => ?_)) h)
   ·refine runL_any hg hcall hm hT fuel (pre ++ post) _ fr' σ' a' w' (by simp at hlen ⊢; omega) (by simpa using hsz) ((hL.take hys).less fun x hx z hz h => ?_) hoff' (closed_set h3 hdeps) hr' hK
    simp only [butIs,Bool.and_eq_true,Bool.or_eq_true,beq_iff_eq] at h
    rcases h.2 with h | h
    ·exact hne x hx h
    ·exact listed_not (hL.un x (by rcases List.mem_append.1 hx with hx | hx <;> simp [hx])) (hT (fun k => listed.getD k false = true) h3 y.i hdeps _ (by simpa using h))
   ·simp only [butIs,Bool.and_eq_true,Bool.or_eq_true,beq_iff_eq] at h
    exact hij h.1
  ·by_cases hkj : k = j
   ·subst hkj
    obtain ⟨y,hy,rfl⟩ := hL'.cov k (mem_ready.1 hk).1
    obtain ⟨pre,post,rfl⟩ := List.append_of_mem hy
    obtain ⟨o1,o2,o3⟩ := hL'.ok y hy
    have hne := hL'.ne
    refine run1_sound hg hcall hm o1 o2 o3 hoff hr (fun fr' σ' a' w' hK hoff' hr' => ?_) (runL_front hm (panX_env Q D base) pre fr σ (hL'.front hT' h3 hdeps (fun x hx h => ?_)) h')
    ·refine runL_any hg hcall hm hT' fuel (pre ++ post) _ fr' σ' a' w' (by simp at hlen' ⊢; omega) (by simpa using hsz) ((hL'.take hys).less fun x hx z hz h => ?_) hoff' (closed_set h3 hdeps) hr' hK
     simp only [butIs,Bool.and_eq_true,Bool.or_eq_true,beq_iff_eq] at h
     rcases h.2 with h | h
     ·exact hne x hx h
     ·exact listed_not (hL'.un x (by rcases List.mem_append.1 hx with hx | hx <;> simp [hx])) (hT' (fun k => listed.getD k false = true) h3 y.i hdeps _ (by simpa using h))
    ·simp only [butIs,Bool.and_eq_true,Bool.or_eq_true,beq_iff_eq] at h
     exact hij h.1.symm
   ·obtain ⟨y,hy,rfl⟩ := hL.cov k (mem_ready.1 hk).1
    obtain ⟨hpn,hbl,hy'⟩ : ((isP y.o = true ∨ newsLoc locs y.o = true) ∨ isApp y.o = true) ∧ blkLit locs y.o = false ∧ y ∈ ts' := by
     rcases hkind y hy with h | h | h | h | h
     ·exact absurd h hki
     ·exact absurd h hkj
     ·exact absurd (hT (fun k => listed.getD k false = true) h3 y.i hdeps _ h) (listed_not hui)
     ·exact absurd (hT (fun k => listed.getD k false = true) h3 y.i hdeps _ h) (listed_not huj)
     ·exact h
    obtain ⟨pre,post,rfl⟩ := List.append_of_mem hy
    obtain ⟨pre',post',rfl⟩ := List.append_of_mem hy'
    obtain ⟨o1,o2,o3⟩ := hL.ok y hy
    have f1 := runL_front hm (panX_env Q D base) pre fr σ (hL.front hT h3 hdeps (fun x hx h => by
     simp only [butIs,Bool.and_eq_true,Bool.or_eq_true,beq_iff_eq] at h
     exact hkj h.1)) h
    have f2 := runL_front hm (panX_env Q D base) pre' fr σ (hL'.front hT' h3 hdeps (fun x hx h => by
     simp only [butIs,Bool.and_eq_true,Bool.or_eq_true,beq_iff_eq] at h
     exact hki h.1)) h'
    have f3 : run1 call P locs ops.toList y fr σ (fun fr σ => runL call P locs ops.toList (pre ++ post) fr σ (Q .normal) (panX Q D base) ∧ runL call P locs ops.toList (pre' ++ post') fr σ (Q .normal) (panX Q D base)) (panX Q D base) := by
     rcases hpn with (hp | hn) | ha
     ·rw [run1_val hp hbl] at f1 f2 ⊢
      obtain ⟨e,e1,e2⟩ := f1
      obtain ⟨e',e1',e2'⟩ := f2
      rw [e1] at e1'
      cases e1'
      exact ⟨e,e1,e2,e2'⟩
     ·obtain ⟨d,Z,hd,hZ,hZc⟩ := run1_new (P := P) (call := call) (all := ops.toList) hn
      rw [hZ] at f1 f2 ⊢
      obtain ⟨e,e1,e2⟩ := f1
      obtain ⟨e',e1',e2'⟩ := f2
      rw [e1] at e1'
      cases e1'
      exact ⟨e,e1,e2,e2'⟩
     ·exact run1_app ha f1 f2
    refine run1_sound hg hcall hm o1 o2 o3 hoff hr (fun fr' σ' a' w' hK hoff' hr' => ?_) f3
    refine ih (pre ++ post) (pre' ++ post') _ fr' σ' a' w' (by simp at hlen ⊢; omega) (by simp at hlen' ⊢; omega) (by simpa using hsz) (hL.take hys) (hL'.take hys) hoff' (closed_set h3 hdeps) ?_ ?_ hij (fun x hx => ?_) hr' hK.1 hK.2
    ·rw [getD_set_ne true hki]; exact hui
    ·rw [getD_set_ne true hkj]; exact huj
    ·have hx' : x ∈ pre ++ y :: post := by rcases List.mem_append.1 hx with hx | hx <;> simp [hx]
     rcases hkind x hx' with h | h | h | h | ⟨h1,hb1,h2⟩
     ·exact .inl h
     ·exact .inr (.inl h)
     ·exact .inr (.inr (.inl h))
     ·exact .inr (.inr (.inr (.inl h)))
     ·refine .inr (.inr (.inr (.inr ⟨h1,hb1,?_⟩)))
      rcases List.mem_append.1 h2 with h2 | h2
      ·simp [h2]
      ·rcases List.mem_cons.1 h2 with rfl | h2
       ·exact absurd rfl (hL.ne x hx)
       ·simp [h2]
theorem textTasks_map : ∀ (os : List Oper) (i : Nat),(textTasks i os).map (·.i) = List.range' i os.length
 | [],i => rfl
 | o :: os,i => by simp only [textTasks,List.map_cons,List.length_cons,List.range'_succ,textTasks_map os (i + 1)]
theorem textTasks_spec : ∀ (os : List Oper) (i : Nat) (t : Task),t ∈ textTasks i os → i ≤ t.i ∧ os[t.i - i]? = some t.o
 | [],i,t,h => by simp [textTasks] at h
 | o :: os,i,t,h => by
  simp only [textTasks] at h
  rcases List.mem_cons.1 h with rfl | h
  ·simp
  ·obtain ⟨h1,h2⟩ := textTasks_spec os (i + 1) t h
   refine ⟨by omega,?_⟩
   rw [show t.i - i = (t.i - (i + 1)) + 1 by omega]
   simpa using h2
theorem Rel.drew {fr : Fr} {σ : St} {a : Act} {w : World} {k : Nat} (h : Rel G₀ σ₀ w₀ N n fr σ a w) : Rel G₀ σ₀ w₀ N n fr σ a { w with drawn := k } := by
 obtain ⟨G,lam,hI,hF,hE⟩ := h
 exact ⟨G,lam,hI.drawn,⟨hF.env,hF.loc,hF.inj,hF.size,hF.dfr,hF.glb⟩,⟨hE.le,hE.os,hE.tape,hE.output,hE.size,hE.keep,hE.own,hE.imm,hE.len⟩⟩
theorem region_sound (hg : goodNames P = true) (hmix : P.follows .mixedOrders = true) (hcall : CallSound P N call) (hm : CallMono call) {an : Ann} {id : Nat} {ops : Array Oper} {draw : Bool} {fr : Fr} {σ : St} {Q : Out → Fr → St → Prop} {a : Act} {w : World}
  (ok : codeOk an n (.region id ops draw) = true) (hr : Rel G₀ σ₀ w₀ N n fr σ a w) (h : codeC (algP call) P an (.region id ops draw) fr σ Q) : (Code.region id ops draw).wp P (QHat G₀ σ₀ w₀ N n Q) a w := by
 simp only [codeOk,Bool.and_eq_true,List.all_eq_true] at ok
 obtain ⟨ok1,ok2⟩ := ok
 have hd : ∀ o ∈ ops.toList,∀ d,o.dst = some d → d < n := by
  intro o ho d hdst
  have := ok1 o ho
  simpa [hdst] using this
 have hD : ∀ o ∈ ops.toList,∀ d,o.dst = some d → (dstL ops.toList).contains d = true := fun o ho d hd => mem_dstL hd _ ho
 have hoff : Off (dstL ops.toList) fr fr := fun _ _ => rfl
 have toL : ∀ {m ts},opsC (algP call) P an.locs ops.toList m ts fr σ (Q .normal) (fun v fr' => Q (.pan v) (fr'.mask (dstL ops.toList) fr)) → runL call P an.locs ops.toList ts fr σ (Q .normal) (panX Q (dstL ops.toList) fr) := by
  intro m ts h
  exact opsC_runL hm (panX_env Q _ _) m ts fr σ h
 cases draw with
 | false =>
  simp only [codeC] at h
  refine wp_region ?_
  rw [List.range_eq_range']
  have := runL_ops hg hcall hm (textTasks 0 ops.toList) fr σ a w (fun t ht => ?_) hoff hr (toL h)
  ·rw [textTasks_map] at this
   simpa using this
  ·have := (textTasks_spec _ _ t ht).2
   simp only [Nat.sub_zero] at this
   exact ⟨by simpa using this,hd _ (List.mem_of_getElem? this),hD _ (List.mem_of_getElem? this)⟩
 | true =>
  simp only [codeC,drawC] at h
  have left : ∀ (l : List (Nat × Bool × Bool)) (ts : List Task) (but : Option (Nat × Nat)),tasksOf ops.toList l = some ts → drawOk an.locs ops but l = true →
    ts.length = ops.size ∧ Left an.locs ops n (dstL ops.toList) (preT ops (l.map (·.1)) []) but (Array.replicate ops.size false) ts := by
   intro l ts but hts hok
   simp only [drawOk,hts,Bool.and_eq_true,beq_iff_eq] at hok
   obtain ⟨⟨hlen,hcov⟩,hpo⟩ := hok
   obtain ⟨hpw,hself⟩ := pairsOk_spec ts hpo
   obtain ⟨hmi,htk⟩ := tasksOf_spec l ts hts
   have hlt : ∀ t ∈ ts,t.i < ops.size := fun t ht => by
    have := htk t ht
    simpa using (List.getElem?_eq_some_iff.1 this).1
   refine ⟨hlen,⟨fun t ht => ⟨by simpa using htk t ht,hd _ (List.mem_of_getElem? (htk t ht)),hD _ (List.mem_of_getElem? (htk t ht))⟩,fun t ht => ?_,fun k hk => ?_,hpw,hself⟩⟩
   ·simp [Array.getD_eq_getD_getElem?,hlt t ht]
   ·have hk' : k < ops.size := by
     rcases Nat.lt_or_ge k ops.size with h' | h'
     ·exact h'
     ·simp [Array.getD_eq_getD_getElem?,Nat.not_lt.2 h'] at hk
    rw [List.all_eq_true] at hcov
    have := hcov k (List.mem_range.2 hk')
    simp only [List.any_eq_true,beq_iff_eq] at this
    exact this
  have closed0 : ∀ j,(Array.replicate ops.size false).getD j false = true → ∀ d ∈ depsAt ops j,(Array.replicate ops.size false).getD d false = true := by
   intro j hj
   exfalso
   rcases Nat.lt_or_ge j ops.size with h' | h'
   ·simp [Array.getD_eq_getD_getElem?,h'] at hj
   ·simp [Array.getD_eq_getD_getElem?,Nat.not_lt.2 h'] at hj
  split at h
  ·rename_i l hl
   split at h
   ·rename_i ts hts
    simp only [hl] at ok2
    split at h
    ·rename_i hal
     simp only [hal] at ok2
     obtain ⟨hlen,hL⟩ := left l ts none hts ok2
     refine wp_region_any hmix ?_
     exact runL_any hg hcall hm (T := preT ops (l.map (·.1)) []) (fun L hL j hj k hk => preT_good hL _ _ (fun j hj k hk => by simp [lookN] at hk) j hj k hk) ops.size ts _ fr σ a _ hlen (by simp) hL hoff closed0 hr.drew (toL h)
    ·rename_i l' hal
     split at h
     ·rename_i ts' hts'
      simp only [hal,Bool.and_eq_true] at ok2
      obtain ⟨⟨ok3,ok4⟩,ok5⟩ := ok2
      obtain ⟨hlen,hL⟩ := left l ts _ hts ok3
      obtain ⟨hlen',hL'⟩ := left l' ts' _ hts' ok4
      cases hij : pairOf l l' with
      | none => simp [altOk,hij] at ok5
      | some ij =>
       obtain ⟨i,j⟩ := ij
       rw [hij] at hL hL' ok5
       simp only [altOk,hts,Bool.and_eq_true,decide_eq_true_eq,List.all_eq_true,Bool.or_eq_true,beq_iff_eq] at ok5
       obtain ⟨⟨hi,hj⟩,hk⟩ := ok5
       refine wp_region_any hmix ?_
       refine runL_any2 hg hcall hm (T := preT ops (l.map (·.1)) []) (T' := preT ops (l'.map (·.1)) []) (i := i) (j := j) (fun L hL j hj k hk => preT_good hL _ _ (fun j hj k hk => by simp [lookN] at hk) j hj k hk) (fun L hL j hj k hk => preT_good hL _ _ (fun j hj k hk => by simp [lookN] at hk) j hj k hk)
        ops.size ts ts' _ fr σ a _ hlen hlen' (by simp) hL hL' hoff closed0 (by simp [Array.getD_eq_getD_getElem?,hi]) (by simp [Array.getD_eq_getD_getElem?,hj]) (pairOf_ne hij) (fun x hx => ?_) hr.drew (toL h.1) (toL h.2)
       rcases hk x hx with (((h | h) | h) | h) | h
       ·exact .inl h
       ·exact .inr (.inl h)
       ·exact .inr (.inr (.inl (by simpa using h)))
       ·exact .inr (.inr (.inr (.inl (by simpa using h))))
       ·refine .inr (.inr (.inr (.inr ⟨h.1.1,by simpa using h.1.2,?_⟩)))
        obtain ⟨o,c,s,ho,hm⟩ := tasksOf_mem l' ts' hts' (x.i,x.clean,x.strict) (by simpa using h.2)
        have ho' := (tasksOf_spec l ts hts).2 x hx
        simp only at ho hm
        rw [ho] at ho'
        cases ho'
        exact hm
     ·exact h.elim
   ·exact h.elim
  ·exact h.elim
theorem lookP_miss (f : Nat → PV) (rest : List (Nat × PV)) : ∀ (l : List Nat) (t : Nat),l.contains t = false → lookP (l.map (fun t => (t,f t)) ++ rest) t = lookP rest t
 | [],t,h => rfl
 | k :: l,t,h => by
  simp only [List.contains_cons,Bool.or_eq_false_iff] at h
  have he : ¬ t = k := by simpa using h.1
  simp only [List.map_cons,List.cons_append,lookP,if_neg he]
  exact lookP_miss f rest l t h.2
theorem locsThere_spec {fr : Fr} {p : Prop} : ∀ (l : List Nat),locsThere (algP call) fr p l → p ∧ ∀ s ∈ l,fr.env s = .loc s 0
 | [],h => ⟨h,by simp⟩
 | s :: l,h => by
  simp only [locsThere] at h
  split at h
  ·rename_i s' he
   split at h
   ·rename_i hs
    subst hs
    obtain ⟨h1,h2⟩ := locsThere_spec l h
    exact ⟨h1,fun t ht => by
     rcases List.mem_cons.1 ht with rfl | ht
     ·exact he
     ·exact h2 t ht⟩
   ·exact h.elim
  ·exact h.elim
theorem pack_sound {kp : List Nat × List Nat} {fr : Fr} {σ : St} {a : Act} {w : World} {K : (Nat → PV) → Prop} (hr : Rel G₀ σ₀ w₀ N n fr σ a w) (h : toPack (algP call) kp fr K) :
  K (packF kp.1 kp.2 fr) ∧ Rel G₀ σ₀ w₀ N n (unpack kp.1 kp.2 (packF kp.1 kp.2 fr)) σ a w := by
 unfold toPack at h
 simp only [forceP_eq] at h
 split at h
 ·rename_i hdfr
  obtain ⟨h1,h2⟩ := locsThere_spec _ h
  refine ⟨h1,?_⟩
  obtain ⟨G,lam,hI,hF,hE⟩ := hr
  have hpk : ∀ t,(kp.1.contains t = true → packF kp.1 kp.2 fr t = (fr.env t).pv) ∧ (kp.1.contains t = false → kp.2.contains t = true → packF kp.1 kp.2 fr t = fr.loc t) := by
   intro t
   refine ⟨fun ht => ?_,fun ht ht2 => ?_⟩
   ·exact lookP_map (fun t => (fr.env t).pv) _ kp.1 t ht
   ·unfold packF
    unfold packL
    rw [lookP_miss (fun t => (fr.env t).pv) _ kp.1 t ht]
    have := lookP_map fr.loc [] kp.2 t ht2
    simpa using this
  have hpv : ∀ t,RelV G (fr.env t).pv (a.tmps.getD t undef) := by
   intro t
   have := hF.env t
   cases he : fr.env t with
   | v p => rw [he] at this; exact this
   | loc s off => exact .any _
  refine ⟨G,lam,hI,⟨fun t => ?_,fun s B hs => ?_,hF.inj,hF.size,?_,hF.glb⟩,hE⟩
  ·simp only [unpack]
   split
   ·rename_i ht
    have := hF.env t
    rw [h2 t (by simpa using ht)] at this
    exact this
   ·split
    ·rename_i ht
     rw [(hpk t).1 ht]
     exact hpv t
    ·exact RelV.any _
  ·obtain ⟨q1,q2,q3,cs,el,ve,q4,q5,q6,q7⟩ := hF.loc s B hs
   refine ⟨q1,q2,q3,cs,el,ve,q4,q5,?_,q7⟩
   simp only [unpack]
   split
   ·rename_i ht
    by_cases hl : kp.1.contains s = true
    ·rw [(hpk s).1 hl,h2 s (by simpa using ht)]
     exact .any _
    ·rw [(hpk s).2 (by simpa using hl) ht]
     exact q6
   ·exact .any _
  ·simp only [unpack]
   have := hF.dfr
   rw [hdfr] at this
   exact this
 ·exact h.elim
noncomputable def Gh.less (G : Gh) (D : Nat → Prop) : Gh := open Classical in { G with μ := fun b g => if D b then none else G.μ b g,H := fun b g => if D b then none else G.H b g }
noncomputable def Gh.kill (G : Gh) (σ : St) (w : World) (D : Nat → Prop) : Gh := open Classical in
 {I := fun B o => if (∃ b k,D b ∧ σ[b]? = some k ∧ baseOf G b k = some B) then (match w.heap[B]? with | some (.cells cs _ _) => cs[o]? | _ => none) else G.I B o
  μ := fun b g => if D b then none else G.μ b g
  H := fun b g => if D b then none else G.H b g
  n0 := G.n0 }
theorem kill_imm {G : Gh} {σ : St} {w : World} (hI : Inv G N σ w) (D : Nat → Prop) (B o : Nat) (v : Value) (h : G.I B o = some v) : (G.kill σ w D).I B o = some v := by
 simp only [Gh.kill]
 split
 ·rename_i hb
  obtain ⟨b,k,hm,hk,hB⟩ := hb
  rw [hI.sep B o ⟨b,k,hk,hB⟩] at h
  simp at h
 ·exact h
theorem RelV.less {G : Gh} {D : Nat → Prop} {x : PV} {v : Value} (r : RelV G x v) (hu : Free D x) : RelV (G.less D) x v := by
 induction r with
 | any v => exact .any v
 | bool b => exact .bool b
 | int k n => exact .int k n
 | str s => exact .str s
 | nilptr => exact .nilptr
 | ptr b g i off B O z m hm => cases hu with | ptr _ _ _ _ hb => exact .ptr b g i off B O z m (by simp [Gh.less,hb,hm])
 | eptr e off B O ve _ hc ih => cases hu with | eptr _ _ he => exact .eptr e off B O ve (ih he) hc
 | nillist => exact .nillist
 | emptyl a c => exact .emptyl a c
 | list k xs B O z cap vs h1 h2 h3 _ hc ih => cases hu with | list _ _ hx => exact .list k xs B O z cap vs h1 h2 h3 (fun i x hi => ih i x hi (hx i x hi)) hc
 | sref b g z off len B O m cap hm h1 h2 => cases hu with | sref _ _ _ _ _ hb => exact .sref b g z off len B O m cap (by simp [Gh.less,hb,hm]) h1 h2
 | nilmap => exact .nilmap
 | mref b B hm => cases hu with | mref _ hb => exact .mref b B (by simp [Gh.less,hb,hm])
 | func f k cs fs vs hk hl _ ih => cases hu with | func _ _ _ hx => exact .func f k cs fs vs hk hl fun i x v hi hv => ih i x v hi hv (hx i x hi)
 | nilfunc => exact .nilfunc
 | iface t x v _ ih => cases hu with | iface _ _ hx => exact .iface t x v (ih hx)
 | nilIface => exact .nilIface
 | agg cs vs hl _ hc ih => cases hu with | agg _ hx => exact .agg cs vs hl (fun i x v hi hv => ih i x v hi hv (hx i x hi)) hc
 | tuple cs vs hl _ ih => cases hu with | tuple _ hx => exact .tuple cs vs hl fun i x v hi hv => ih i x v hi hv (hx i x hi)
theorem RelV.free {G : Gh} {σ : St} {w : World} (hI : Inv G N σ w) {D : Nat → Prop} {x : PV} {v : Value} (h : RelV G x v) (hu : Free D x) : RelV (G.kill σ w D) x v :=
 RelV.mono (G := G.less D) ⟨fun B o u hv => kill_imm hI D B o u hv,fun _ _ _ hy => hy,fun _ _ _ hy => hy,rfl⟩ (h.less hu)
theorem frzD_sound {G : Gh} {σ : St} {w : World} (hI : Inv G N σ w) {D : Nat → Prop} {x x' : PV} (h : FrzD σ D x x') : ∀ {v : Value},RelV G x v → RelV (G.kill σ w D) x' v := by
 induction h with
 | gone x => intro v r; exact .any v
 | base x hu => intro v r; exact r.free hI hu
 | sref b g z o l g' z' xs ys hb hg hm hyl hol hfz ih =>
  intro v r
  subst hg
  cases r with
  | sref _ _ _ _ _ B O n cap hμ hcap hsz =>
   obtain ⟨B',O',n',cs,el,hm',hN,⟨fz,hfz,hheap⟩,hn,hxsz,hpos,vs,hrel,hcell⟩ := hI.blk b _ hb
   rw [hμ] at hm'
   simp only [Option.some.injEq,Prod.mk.injEq] at hm'
   obtain ⟨rfl,rfl,rfl,rfl⟩ := hm'
   have hIB : ∀ q u,cs[q]? = some u → (G.kill σ w D).I B q = some u := by
    intro q u hq
    simp only [Gh.kill]
    rw [if_pos ⟨b,_,hm,hb,by simp [baseOf,hμ]⟩,hheap]
    exact hq
   have := RelV.list (G := G.kill σ w D) .part ys B (O + o * z) z cap (fun i => vs (o + i)) (fun h => by cases h) (fun h => by cases h) (by omega)
    (fun i y hy => by
     have hil : i < l := by rw [← hyl]; exact (List.getElem?_eq_some_iff.1 hy).1
     have hx : xs[o + i]? = some (xs[o + i]'(by omega)) := List.getElem?_eq_getElem (by omega)
     exact ih i _ y hil hx hy (hrel _ _ hx))
    (fun i hi => by
     obtain ⟨q1,q2⟩ := hcell (o + i) (by omega)
     refine ⟨q1,fun j u hj => ⟨(q2 j u hj).1,?_⟩⟩
     rw [show O + o * z + i * z + j = O + (o + i) * z + j by rw [Nat.add_mul]; omega]
     exact hIB _ _ (q2 j u hj).2)
   rw [hyl] at this
   exact this
 | ptr b g i off z' xs x y hb hm hx hfz ih =>
  intro v r
  cases r with
  | ptr _ _ _ _ B O z n hμ =>
   obtain ⟨B',O',n',cs,el,hm',hN,⟨fz,hfz,hheap⟩,hn,hxsz,hpos,vs,hrel,hcell⟩ := hI.blk b _ hb
   rw [hμ] at hm'
   simp only [Option.some.injEq,Prod.mk.injEq] at hm'
   obtain ⟨rfl,rfl,rfl,rfl⟩ := hm'
   have hil : i < xs.length := (List.getElem?_eq_some_iff.1 hx).1
   obtain ⟨q1,q2⟩ := hcell i hil
   refine .eptr y off B (O + i * z) (vs i) (ih (hrel i x hx)) fun j u hj => ⟨(q2 j u hj).1,?_⟩
   simp only [Gh.kill]
   rw [if_pos ⟨b,_,hm,hb,by simp [baseOf,hμ]⟩,hheap]
   exact (q2 j u hj).2
 | list k xs ys hl _ ih =>
  intro v r
  cases r with
  | nillist =>
   obtain rfl : ys = [] := List.length_eq_zero_iff.1 (by simpa using hl)
   exact .nillist
  | emptyl a c =>
   obtain rfl : ys = [] := List.length_eq_zero_iff.1 (by simpa using hl)
   exact .emptyl a c
  | list _ _ B O z cap vs h1 h2 h3 hr hc =>
   have := RelV.list (G := G.kill σ w D) k ys B O z cap vs h1 (fun h => by rw [hl]; exact ⟨(h2 h).1,fun hne => (h2 h).2 fun hx0 => hne (List.length_eq_zero_iff.1 (by rw [hl,hx0]; rfl))⟩) (by omega)
    (fun i y hy => by
     have hil : i < xs.length := by rw [← hl]; exact (List.getElem?_eq_some_iff.1 hy).1
     have hx : xs[i]? = some xs[i] := List.getElem?_eq_getElem hil
     exact ih i _ y hx hy (hr _ _ hx))
    (fun i hi => by
     obtain ⟨q1,q2⟩ := hc i (by omega)
     exact ⟨q1,fun j u hj => ⟨(q2 j u hj).1,kill_imm hI _ _ _ _ (q2 j u hj).2⟩⟩)
   rw [hl] at this
   exact this
 | func f k xs ys hl _ ih =>
  intro v r
  cases r with
  | func _ _ _ fs vs hk h1 hr =>
   refine .func f k _ _ _ hk (by omega) (fun i y u hy hu => ?_)
   have hil : i < xs.length := by rw [← hl]; exact (List.getElem?_eq_some_iff.1 hy).1
   have hx : xs[i]? = some xs[i] := List.getElem?_eq_getElem hil
   exact ih i _ y hx hy (hr i _ u hx hu)
 | iface t x y _ ih =>
  intro v r
  cases r with
  | iface _ _ v hr => exact .iface t _ _ (ih hr)
 | agg xs ys hl _ ih =>
  intro v r
  cases r with
  | agg _ vs h1 hr hc =>
   refine .agg _ _ (by omega) (fun i y u hy hu => ?_) hc
   have hil : i < xs.length := by rw [← hl]; exact (List.getElem?_eq_some_iff.1 hy).1
   have hx : xs[i]? = some xs[i] := List.getElem?_eq_getElem hil
   exact ih i _ y hx hy (hr i _ u hx hu)
 | tuple xs ys hl _ ih =>
  intro v r
  cases r with
  | tuple _ vs h1 hr =>
   refine .tuple _ _ (by omega) (fun i y u hy hu => ?_)
   have hil : i < xs.length := by rw [← hl]; exact (List.getElem?_eq_some_iff.1 hy).1
   have hx : xs[i]? = some xs[i] := List.getElem?_eq_getElem hil
   exact ih i _ y hx hy (hr i _ u hx hu)
theorem free_of_under {n : Nat} {D : Nat → Prop} (hd : ∀ b,D b → n ≤ b) {x : PV} (h : Under n x) : Free D x := by
 induction h with
 | any => exact .any
 | bool b => exact .bool b
 | int k i => exact .int k i
 | str l => exact .str l
 | nilptr => exact .nilptr
 | ptr b g i o hb => exact .ptr b g i o fun h => by have := hd b h; omega
 | eptr e o _ ih => exact .eptr e o ih
 | list k xs _ ih => exact .list k xs ih
 | sref b g z o l hb => exact .sref b g z o l fun h => by have := hd b h; omega
 | nilmap => exact .nilmap
 | mref b hb => exact .mref b fun h => by have := hd b h; omega
 | func f k c _ ih => exact .func f k c ih
 | nilfunc => exact .nilfunc
 | iface t v _ ih => exact .iface t v ih
 | nilIface => exact .nilIface
 | agg cs _ ih => exact .agg cs ih
 | tuple cs _ ih => exact .tuple cs ih
theorem kill_sound {G : Gh} {σ σ' : St} {w : World} {D : Nat → Prop} (hI₀ : Inv G₀ N σ₀ w₀) (hI : Inv G N σ w) (hE : Ext G₀ σ₀ w₀ G σ w) (hk : Kill σ₀ D σ σ') :
  Inv (G.kill σ w D) N σ' w ∧ Ext G₀ σ₀ w₀ (G.kill σ w D) σ' w ∧ ∀ B,ownB (G.kill σ w D) σ' B → ownB G σ B ∧ ¬ ∃ b k,D b ∧ σ[b]? = some k ∧ baseOf G b k = some B := by
 have hget : ∀ b k',σ'[b]? = some k' → k' ≠ .dead → ¬ D b ∧ ∃ k,σ[b]? = some k ∧ FrzB σ D k k' ∧ baseOf (G.kill σ w D) b k' = baseOf G b k := by
  intro b k' hb hne
  rcases hk.blk b k' hb with h1 | ⟨h1,k,h2,h3⟩
  ·exact absurd h1 hne
  ·have h3 : FrzB σ D k k' := by
    rcases h3 with h3 | ⟨rfl,h3⟩
    ·exact h3
    refine .inr ?_
    have hr := hI₀.blk b k' h3
    cases k' with
    | arr g' z xs =>
     obtain ⟨B,O,n',cs,el,hm,hN,hh,hn,hle,hz,vs,q1,q2⟩ := hr
     exact ⟨xs,rfl,rfl,fun i x y hx hy => by
      rw [hx] at hy
      cases hy
      exact .base _ (free_of_under hk.low ((q1 i x hx).under hI₀.dom))⟩
    | map v es =>
     obtain ⟨B,ents,clock,hm,hN,hh,hl,q,_⟩ := hr
     refine ⟨es,rfl,rfl,fun i e e' he he' => ?_⟩
     rw [he] at he'
     cases he'
     have hlt : i < ents.size := by rw [hl]; exact (List.getElem?_eq_some_iff.1 he).1
     have := q i e ents[i] he (by simp [hlt])
     exact ⟨.base _ (free_of_under hk.low (this.1.under hI₀.dom)),.base _ (free_of_under hk.low (this.2.under hI₀.dom))⟩
    | iter m s l =>
     refine ⟨rfl,fun k hkm hd => ?_⟩
     subst hkm
     obtain ⟨B,mr,since,seen,stepped,hm,hN,hh,MB,ents,clock,q1,_⟩ := hr
     have := hI₀.dom _ _ _ q1
     have := hk.low _ hd
     omega
    | dead => exact absurd rfl hne
   refine ⟨h1,k,h2,h3,?_⟩
   rcases h3 with h3 | h3
   ·exact absurd h3 hne
   cases k with
   | arr g z xs => obtain ⟨ys,rfl,_⟩ := h3; simp [baseOf,Gh.kill,h1]
   | map v es => obtain ⟨ys,rfl,_⟩ := h3; simp [baseOf,Gh.kill,h1]
   | iter m l r => obtain ⟨rfl,_⟩ := h3; simp [baseOf,Gh.kill,h1]
   | dead => exact h3.elim
 have hnd : ∀ b k' B,baseOf (G.kill σ w D) b k' = some B → k' ≠ .dead := by
  rintro b k' B hB rfl
  simp [baseOf] at hB
 have hown : ∀ B,ownB (G.kill σ w D) σ' B → ownB G σ B ∧ ¬ ∃ b k,D b ∧ σ[b]? = some k ∧ baseOf G b k = some B := by
  rintro B ⟨b,k',hb,hB⟩
  obtain ⟨h1,k,h2,h3,h4⟩ := hget b k' hb (hnd b k' B hB)
  rw [h4] at hB
  refine ⟨⟨b,k,h2,hB⟩,?_⟩
  rintro ⟨b',k2,hd,hk2,hB2⟩
  have := hI.inj b b' k k2 B h2 hk2 hB hB2
  subst this
  exact h1 hd
 have hμ : ∀ b g,¬ D b → (G.kill σ w D).μ b g = G.μ b g := fun b g h => by simp [Gh.kill,h]
 have hH : ∀ b g,¬ D b → (G.kill σ w D).H b g = G.H b g := fun b g h => by simp [Gh.kill,h]
 have hdom : ∀ b,¬ D b → b < σ.length → b < σ'.length := fun b h1 h2 => by
  rcases Nat.lt_or_ge b σ'.length with h3 | h3
  ·exact h3
  ·exact absurd (hk.out b h3 h2) h1
 have hlen : σ₀.length ≤ σ'.length := by
  rcases Nat.lt_or_ge σ'.length σ.length with h1 | h1
  ·exact hk.low _ (hk.out _ (Nat.le_refl _) h1)
  ·have := hE.len; omega
 have hfrz : ∀ {x x' : PV} {v : Value},FrzD σ D x x' → RelV G x v → RelV (G.kill σ w D) x' v := fun h r => frzD_sound hI h r
 have hle : G₀.le (G.kill σ w D) := by
  refine ⟨fun B o v hv => kill_imm hI _ B o v (hE.le.imm B o v hv),fun b g' y hy => ?_,fun b g' y hy => ?_,hE.le.n0⟩
  ·have hd : ¬ D b := fun h => by have := hI₀.dom b g' y hy; have := hk.low b h; omega
   rw [hμ b _ hd]
   exact hE.le.at_ b g' y hy
  ·have hd : ¬ D b := fun h => by have := hI₀.domH b g' y hy; have := hk.low b h; omega
   rw [hH b _ hd]
   exact hE.le.his b g' y hy
 refine ⟨⟨?_,?_,?_,?_,?_,hI.big,?_,?_,?_,hI.old,hI₀.bas.trans hle⟩,⟨hle,hE.os,hE.tape,hE.output,hE.size,hE.keep,fun B hB => hE.own B (hown B hB).1,?_,hlen⟩,hown⟩
 ·intro B o v hv
  simp only [Gh.kill] at hv
  split at hv
  ·split at hv
   ·rename_i cs el fz hh
    simp [World.cell?,hh,hv]
   ·simp at hv
  ·exact hI.imm B o v hv
 ·intro b g' y hy
  by_cases hd : D b
  ·simp [Gh.kill,hd] at hy
  ·rw [hμ b g' hd] at hy
   exact hdom b hd (hI.dom b g' y hy)
 ·intro b k' hb
  by_cases hne : k' = .dead
  ·subst hne; trivial
  obtain ⟨h1,k,h2,h3,h4⟩ := hget b k' hb hne
  rcases h3 with h3 | h3
  ·exact absurd h3 hne
  have hr := hI.blk b k h2
  cases k with
  | arr g' z xs =>
   obtain ⟨ys,rfl,hyl,hfz⟩ := h3
   obtain ⟨B,O,n',cs,el,hm,hN,hh,hn,hle,hz,vs,q1,q2⟩ := hr
   refine ⟨B,O,n',cs,el,by rw [hμ b _ h1]; exact hm,hN,hh,hn,by rw [hyl]; exact hle,hz,vs,fun i y hy => ?_,fun i hi => q2 i (by omega)⟩
   have hil : i < xs.length := by rw [← hyl]; exact (List.getElem?_eq_some_iff.1 hy).1
   have hx : xs[i]? = some xs[i] := List.getElem?_eq_getElem hil
   exact hfrz (hfz i _ y hx hy) (q1 i _ hx)
  | map v es =>
   obtain ⟨es',rfl,hyl,hfz⟩ := h3
   obtain ⟨B,ents,clock,hm,hN,hh,hl,q,hHH,hok⟩ := hr
   refine ⟨B,ents,clock,by rw [hμ b _ h1]; exact hm,hN,hh,by omega,fun i e m he hm' => ?_,by rw [hH b _ h1]; exact hHH,hok⟩
   have hil : i < es.length := by rw [← hyl]; exact (List.getElem?_eq_some_iff.1 he).1
   have hx : es[i]? = some es[i] := List.getElem?_eq_getElem hil
   obtain ⟨f1,f2⟩ := hfz i _ e hx he
   exact ⟨hfrz f1 (q i _ m hx hm').1,hfrz f2 (q i _ m hx hm').2⟩
  | iter m s l =>
   obtain ⟨rfl,hfz⟩ := h3
   obtain ⟨B,mr,since,seen,stepped,hm,hN,hh,q⟩ := hr
   refine ⟨B,mr,since,seen,stepped,by rw [hμ b _ h1]; exact hm,hN,hh,?_⟩
   cases m with
   | none => exact q
   | some k =>
    obtain ⟨MB,ents,clock,q1,q2,q3,q4⟩ := q
    have hk := hfz k rfl
    exact ⟨MB,ents,clock,by rw [hμ _ _ hk]; exact q1,q2,by rw [hH _ _ hk]; exact q3,q4⟩
  | dead => exact h3.elim
 ·intro b b' k k' B hb hb' hB hB'
  obtain ⟨h1,k1,h2,h3,h4⟩ := hget b k hb (hnd b k B hB)
  obtain ⟨h5,k2,h6,h7,h8⟩ := hget b' k' hb' (hnd b' k' B hB')
  rw [h4] at hB
  rw [h8] at hB'
  exact hI.inj b b' _ _ B h2 h6 hB hB'
 ·intro B o ho
  obtain ⟨h1,h2⟩ := hown B ho
  simp only [Gh.kill]
  rw [if_neg h2]
  exact hI.sep B o h1
 ·intro b g' z xs hb g'' hlt'
  obtain ⟨h1,k,h2,h3,h4⟩ := hget b _ hb (fun h => by cases h)
  rcases h3 with h3 | h3
  ·cases h3
  rw [hμ b _ h1]
  cases k with
  | arr g2 z2 xs2 => obtain ⟨ys,he,_⟩ := h3; cases he; exact hI.gen b _ _ _ h2 g'' hlt'
  | map v es => obtain ⟨ys,he,_⟩ := h3; cases he
  | iter m l r => obtain ⟨he,_⟩ := h3; cases he
  | dead => exact h3.elim
 ·intro b v y hy
  by_cases hd : D b
  ·simp [Gh.kill,hd] at hy
  ·rw [hH b v hd] at hy
   exact hdom b hd (hI.domH b v y hy)
 ·intro b v es hb v' hlt'
  obtain ⟨h1,k,h2,h3,h4⟩ := hget b _ hb (fun h => by cases h)
  rcases h3 with h3 | h3
  ·cases h3
  rw [hH b _ h1]
  cases k with
  | arr g2 z2 xs2 => obtain ⟨ys,he,_⟩ := h3; cases he
  | map v es => obtain ⟨ys,he,_⟩ := h3; cases he; exact hI.genH b _ _ h2 v' hlt'
  | iter m l r => obtain ⟨he,_⟩ := h3; cases he
  | dead => exact h3.elim
 ·intro B o v hv
  simp only [Gh.kill] at hv
  split at hv
  ·rename_i hb
   obtain ⟨b,k,hd,hkb,hB⟩ := hb
   rcases hE.own B ⟨b,k,hkb,hB⟩ with h1 | h1
   ·exact .inr (.inl h1)
   ·exact .inr (.inr h1)
  ·exact hE.imm B o v hv
theorem weakX_sound {kp : List Nat × List Nat} {x x' : Nat → PV} {σ σ' : St} {a : Act} {w : World} (hI₀ : Inv G₀ N σ₀ w₀) (hr : Rel G₀ σ₀ w₀ N n (unpack kp.1 kp.2 x) σ a w) (hw : WeakX σ₀ x σ x' σ') :
  Rel G₀ σ₀ w₀ N n (unpack kp.1 kp.2 x') σ' a w := by
 obtain ⟨G,lam,hI,hF,hE⟩ := hr
 obtain ⟨D,hk,hf⟩ := hw
 obtain ⟨p1,p2,p3⟩ := kill_sound hI₀ hI hE hk
 refine ⟨_,lam,p1,⟨fun t => ?_,fun s B hs => ?_,hF.inj,hF.size,?_,fun g => (N.glb g).mono p1.bas⟩,p2⟩
 ·have := hF.env t
  simp only [unpack] at this ⊢
  split
  ·rename_i ht
   rw [if_pos ht] at this
   exact this
  ·rename_i ht
   rw [if_neg ht] at this
   split
   ·rename_i ht2
    rw [if_pos ht2] at this
    exact frzD_sound hI (hf t) this
   ·exact RelV.any _
 ·obtain ⟨q1,q2,q3,cs,el,ve,q4,q5,q6,q7⟩ := hF.loc s B hs
  refine ⟨q1,fun ho => q2 (p3 B ho).1,fun o => ?_,cs,el,ve,q4,q5,?_,q7⟩
  ·simp only [Gh.kill]
   rw [if_neg ?_]
   ·exact q3 o
   ·rintro ⟨b,k,hd,hkb,hB⟩
    exact q2 ⟨b,k,hkb,hB⟩
  ·simp only [unpack] at q6 ⊢
   split
   ·rename_i ht
    rw [if_pos ht] at q6
    exact frzD_sound hI (hf s) q6
   ·exact .any _
 ·have := hF.dfr
  simp only [unpack] at this ⊢
  generalize a.defers = l at this ⊢
  cases this with
  | nil => exact .nil
theorem codeOk_base {an : Ann} {k : St} {n : Nat} : ∀ c : Code,codeOk { an with base := k } n c = codeOk an n c
 | .region _ _ _ => rfl
 | .seq a b => by simp only [codeOk,codeOk_base a,codeOk_base b]
 | .cond _ a b => by simp only [codeOk,codeOk_base a,codeOk_base b]
 | .block _ a => by simp only [codeOk,codeOk_base a]
 | .loop a => by simp only [codeOk,codeOk_base a]
 | .scope a => by simp only [codeOk,codeOk_base a]
 | .skip => rfl
 | .label _ => rfl
 | .exit _ => rfl
 | .ret => rfl
 | .rangeFunc _ _ _ _ => rfl
 | .goto _ => rfl
 | .refuse _ => rfl
theorem code_sound (hg : goodNames P = true) (hmix : P.follows .mixedOrders = true) (hcall : CallSound P N call) (hm : CallMono call) {an : Ann} (hI₀ : Inv G₀ N σ₀ w₀) (hbase : an.base = σ₀) : ∀ (c : Code) (fr : Fr) (σ : St) (Q : Out → Fr → St → Prop) (a : Act) (w : World),codeOk an n c = true → Rel G₀ σ₀ w₀ N n fr σ a w →
  codeC (algP call) P an c fr σ Q → c.wp P (QHat G₀ σ₀ w₀ N n Q) a w
 | .skip,fr,σ,Q,a,w,ok,hr,h => wp_skip ⟨fr,σ,h,hr⟩
 | .label _,fr,σ,Q,a,w,ok,hr,h => wp_label ⟨fr,σ,h,hr⟩
 | .exit id,fr,σ,Q,a,w,ok,hr,h => wp_exit ⟨fr,σ,h,hr⟩
 | .ret,fr,σ,Q,a,w,ok,hr,h => wp_ret ⟨fr,σ,h,hr⟩
 | .region id ops draw,fr,σ,Q,a,w,ok,hr,h => region_sound hg hmix hcall hm ok hr h
 | .seq x y,fr,σ,Q,a,w,ok,hr,h => by
  simp only [codeOk,Bool.and_eq_true] at ok
  simp only [codeC] at h
  split at h
  ·split at h
   ·rename_i kp hkp
    obtain ⟨J,hJ,h⟩ := h
    refine wp_seq (wp_mono (code_sound hg hmix hcall hm hI₀ hbase x fr σ _ a w ok.1 hr h) ?_)
    intro e a' w' hq
    cases e with
    | normal =>
     obtain ⟨fr',σ',h1,h2⟩ := hq
     obtain ⟨h3,h4⟩ := pack_sound h2 h1
     rcases hJ _ _ h3 with h5 | ⟨x',σ'',hw,h5⟩
     ·exact code_sound hg hmix hcall hm hI₀ hbase y _ _ Q a' w' ok.2 h4 h5
     ·rw [hbase] at hw
      exact code_sound hg hmix hcall hm hI₀ hbase y _ _ Q a' w' ok.2 (weakX_sound hI₀ h4 hw) h5
    | _ => exact hq
   ·exact h.elim
  ·refine wp_seq (wp_mono (code_sound hg hmix hcall hm hI₀ hbase x fr σ _ a w ok.1 hr h) ?_)
   intro e a' w' hq
   cases e with
   | normal =>
    obtain ⟨fr',σ',h1,h2⟩ := hq
    exact code_sound hg hmix hcall hm hI₀ hbase y _ _ Q a' w' ok.2 h2 h1
   | _ => exact hq
 | .cond c x y,fr,σ,Q,a,w,ok,hr,h => by
  simp only [codeOk,Bool.and_eq_true] at ok
  simp only [codeC] at h
  have hr' := hr
  obtain ⟨G,lam,hI,hF,hE⟩ := hr'
  have rc := evP_rel hF c
  split at h
  ·rename_i hc
   rw [hc] at rc
   exact wp_cond_true rc.bool_inv (code_sound hg hmix hcall hm hI₀ hbase x fr σ Q a w ok.1 hr h)
  ·rename_i hc
   rw [hc] at rc
   exact wp_cond_false rc.bool_inv (code_sound hg hmix hcall hm hI₀ hbase y fr σ Q a w ok.2 hr h)
  ·exact h.elim
 | .block id x,fr,σ,Q,a,w,ok,hr,h => by
  simp only [codeOk] at ok
  simp only [codeC] at h
  refine wp_block (wp_mono (code_sound hg hmix hcall hm hI₀ hbase x fr σ _ a w ok hr h) ?_)
  intro e a' w' hq
  cases e with
  | exit id' =>
   obtain ⟨fr',σ',h1,h2⟩ := hq
   simp only at h1
   simp only [Exit.inBlock]
   split
   ·rename_i hid; rw [if_pos hid] at h1; exact ⟨fr',σ',h1,h2⟩
   ·rename_i hid; rw [if_neg hid] at h1; exact ⟨fr',σ',h1,h2⟩
  | _ => exact hq
 | .loop x,fr,σ,Q,a,w,ok,hr,h => by
  simp only [codeOk] at ok
  simp only [codeC] at h
  split at h
  ·rename_i kp hkp
   obtain ⟨h0,hr0⟩ := pack_sound hr h
   have key := h0 (fun y σ => ∀ a w,Rel G₀ σ₀ w₀ N n (unpack kp.1 kp.2 y) σ a w → ∀ (b : Frame) (k : List Item) (cs : List Frame),
    ∃ e a' w',QHat G₀ σ₀ w₀ N n Q e a' w' ∧ Arrives P (lone (b.at a (.code x :: .inLoop x :: k)) cs w) b k cs e a' w') (by
    intro y σ h a w hr b k cs
    obtain ⟨e,a₁,w₁,hq,harr⟩ := code_sound hg hmix hcall hm hI₀ hbase x _ σ _ a w ok hr h b (.inLoop x :: k) cs
    cases e with
    | normal =>
     obtain ⟨fr',σ',h1,h2⟩ := hq
     obtain ⟨h3,h4⟩ := pack_sound h2 h1
     obtain ⟨e₂,a₂,w₂,hq₂,harr₂⟩ := h3 a₁ w₁ h4 b k cs
     exact ⟨e₂,a₂,w₂,hq₂,.of_steps (Steps.trans harr (.one step_inLoop)) harr₂⟩
    | exit id => exact ⟨.exit id,a₁,w₁,hq,.pass (x := .inLoop x) rfl (fun _ _ => .inl (by simp)) harr⟩
    | goto l => exact hq.elim
    | ret => exact ⟨.ret,a₁,w₁,hq,.pass (x := .inLoop x) rfl (fun _ _ => .inl (by simp)) harr⟩
    | panic ch => exact ⟨.panic ch,a₁,w₁,hq,.pass (x := .inLoop x) rfl (fun _ _ => .inl (by simp)) harr⟩
    | outgrown => exact hq.elim) (fun y σ y' σ' hw h a w hr b k cs => h a w (weakX_sound hI₀ hr (hbase ▸ hw)) b k cs)
   intro b k cs
   obtain ⟨e,a',w',hq,harr⟩ := key a w hr0 b k cs
   exact ⟨e,a',w',hq,.of_steps (.one step_loop) harr⟩
  ·exact h.elim
 | .rangeFunc f p as bd,fr,σ,Q,a,w,ok,hr,h => h.elim
 | .scope x,fr,σ,Q,a,w,ok,hr,h => h.elim
 | .goto l,fr,σ,Q,a,w,ok,hr,h => h.elim
 | .refuse s,fr,σ,Q,a,w,ok,hr,h => h.elim
theorem resOne_sound {fr : Fr} {σ : St} {a : Act} {w : World} {G : Gh} {lam : Nat → Option Nat} {M : Nat} (hI : Inv G N σ w) (hF : FrRel G σ w M n lam fr a) {r : ResultVar} {x : PV} (h : resOne P fr σ r = some x) :
  ∃ v,((match r with
   | .tmp t => pure (a.tmps.getD t undef)
   | .cell s t => do loadVar t (← asAddr (a.tmps.getD s undef)) : Sem Value)).run P w = .ok v w ∧ RelV G x v := by
 cases r with
 | tmp t =>
  simp only [resOne,Option.some.injEq] at h
  subst h
  have := hF.env t
  refine ⟨_,rfl,?_⟩
  cases he : fr.env t with
  | v p => rw [he] at this; exact this
  | loc s off => exact .any _
 | cell s t =>
  simp only [resOne] at h
  split at h
  ·rename_i ag sz hag hsz
   have he0 := hF.env s
   cases he : fr.env s with
   | loc s' off =>
    rw [he] at h he0
    obtain ⟨B,hl,hx⟩ := he0
    obtain ⟨_,_,_,cs,el,ve,hh,hcs,rl,h1⟩ := hF.loc s' B hl
    obtain ⟨v,q1,q2⟩ := load_part (P := P) (w := w) (B := B) (O := 0) hag hsz rl (fun j u hu => by simp [World.cell?,hh,← hcs,hu]) h
    rw [Nat.zero_add] at q1
    exact ⟨v,by simp only [hx,Sem.run_bind,asAddr,Sem.run_pure,Result.andThen_ok,q1],q2⟩
   | v p =>
    rw [he] at h he0
    obtain ⟨v,q1,q2⟩ := load_sound (P := P) w hI hag hsz he0 h
    refine ⟨v,?_,q2⟩
    cases hp : a.tmps.getD s undef with
    | pointer ad =>
     rw [hp] at q1
     cases ad with
     | none => simp [Instr.loadAt,Instr.sureAddr,stuck] at q1
     | some ad =>
      simp only [Instr.loadAt,Instr.sureAddr,Sem.run_bind,Sem.run_pure,Result.andThen_ok] at q1
      simp only [hp,Sem.run_bind,asAddr,Sem.run_pure,Result.andThen_ok,q1]
    | _ => rw [hp] at q1; simp [Instr.loadAt,Instr.sureAddr,stuck] at q1
  ·simp at h
theorem resAll_sound {fr : Fr} {σ : St} {a : Act} {w : World} {G : Gh} {lam : Nat → Option Nat} {M : Nat} (hI : Inv G N σ w) (hF : FrRel G σ w M n lam fr a) : ∀ (rs : List ResultVar) (xs : List PV),resAll P fr σ rs = some xs →
  ∃ vs : List Value,(rs.mapM (fun r => (match r with
   | .tmp t => pure (a.tmps.getD t undef)
   | .cell s t => do loadVar t (← asAddr (a.tmps.getD s undef)) : Sem Value))).run P w = .ok vs w ∧ xs.length = vs.length ∧ ∀ (i : Nat) (x : PV) (v : Value),xs[i]? = some x → vs[i]? = some v → RelV G x v
 | [],xs,h => by
  simp [resAll] at h
  subst h
  exact ⟨[],rfl,rfl,by simp⟩
 | r :: rs,xs,h => by
  simp only [resAll,resCons] at h
  cases h1 : resOne P fr σ r with
  | none => simp [h1] at h
  | some x =>
   cases h2 : resAll P fr σ rs with
   | none => simp [h1,h2] at h
   | some ys =>
    simp only [h1,h2,Option.some.injEq] at h
    subst h
    obtain ⟨v,q1,q2⟩ := resOne_sound hI hF h1
    obtain ⟨vs,q3,q4,q5⟩ := resAll_sound hI hF rs ys h2
    refine ⟨v :: vs,?_,by simp [q4],fun i x' v' hx hv => ?_⟩
    ·simp only [List.mapM_cons,Sem.run_bind,q1,Result.andThen_ok,q3,Sem.run_pure]
    ·cases i with
     | zero => simp at hx hv; subst hx hv; exact q2
     | succ i => exact q5 i x' v' (by simpa using hx) (by simpa using hv)
theorem results_sound {fn : Func} {fr : Fr} {σ : St} {a : Act} {w : World} {G : Gh} {lam : Nat → Option Nat} {M : Nat} (hI : Inv G N σ w) (hF : FrRel G σ w M n lam fr a) {xs : List PV} (h : resAll P fr σ fn.results.toList = some xs) :
  ∃ v,(results fn a.tmps).run P w = .ok v w ∧ RelV G (vResults xs) v := by
 obtain ⟨vs,q1,q2,q3⟩ := resAll_sound (P := P) hI hF _ _ h
 have hm : (fn.results.mapM (fun r => (match r with
   | .tmp t => pure (a.tmps.getD t undef)
   | .cell s t => do loadVar t (← asAddr (a.tmps.getD s undef)) : Sem Value))).run P w = .ok vs.toArray w := by
  rw [Array.mapM_eq_mapM_toList,Sem.run_map,q1]
  rfl
 refine ⟨if h : vs.toArray.size = 1 then vs.toArray[0] else .tuple vs.toArray,?_,?_⟩
 ·unfold results
  rw [Sem.run_bind]
  refine (congrArg (fun r => Result.andThen r _) hm).trans ?_
  simp only [Result.andThen_ok,Sem.run_pure]
 ·by_cases h1 : vs.length = 1
  ·obtain ⟨v,rfl⟩ := List.length_eq_one_iff.1 h1
   obtain ⟨x,rfl⟩ := List.length_eq_one_iff.1 (q2.trans h1)
   simp [vResults]
   exact q3 0 x v rfl rfl
  ·have h2 : ¬ vs.toArray.size = 1 := by simpa using h1
   rw [dif_neg h2]
   have : vResults xs = .tuple xs := by
    unfold vResults
    split
    ·rename_i x; exact absurd q2.symm (by simpa using h1)
    ·rfl
   rw [this]
   exact .tuple _ _ (by simpa using q2) (fun i x v hx hv => q3 i x v hx (by simpa using hv))
noncomputable def Gh.freeze (G : Gh) (σ : St) (w : World) (n : Nat) : Gh :=
 {I := fun B o => open Classical in if (∃ b k,n ≤ b ∧ σ[b]? = some k ∧ baseOf G b k = some B) then (match w.heap[B]? with | some (.cells cs _ _) => cs[o]? | _ => none) else G.I B o
  μ := fun b g => if b < n then G.μ b g else none
  H := fun b g => if b < n then G.H b g else none
  n0 := G.n0 }
theorem freeze_imm {G : Gh} {σ : St} {w : World} (hI : Inv G N σ w) (m : Nat) (B o : Nat) (v : Value) (h : G.I B o = some v) : (G.freeze σ w m).I B o = some v := by
 simp only [Gh.freeze]
 split
 ·rename_i hb
  obtain ⟨b,k,hm,hk,hB⟩ := hb
  rw [hI.sep B o ⟨b,k,hk,hB⟩] at h
  simp at h
 ·exact h
theorem RelV.freeze {G : Gh} {σ : St} {w : World} (hI : Inv G N σ w) {m : Nat} {x : PV} {v : Value} (h : RelV G x v) (hu : Under m x) : RelV (G.freeze σ w m) x v := by
 have := h.upto hu
 have le : (G.upto m).le (G.freeze σ w m) := ⟨fun B o u hv => freeze_imm hI m B o u hv,fun b g y hy => hy,fun b g y hy => hy,rfl⟩
 exact RelV.mono le this
theorem frz_sound {G : Gh} {σ : St} {w : World} (hI : Inv G N σ w) {m : Nat} {x x' : PV} {v : Value} (h : Frz σ m x x') : ∀ {v : Value},RelV G x v → RelV (G.freeze σ w m) x' v := by
 induction h with
 | base x hu => intro v r; exact r.freeze hI hu
 | sref b g z o l g' z' xs ys hb hg hm hyl hol hfz ih =>
  intro v r
  subst hg
  cases r with
  | sref _ _ _ _ _ B O n cap hμ hcap hsz =>
   obtain ⟨B',O',n',cs,el,hm',hN,⟨fz,hfz,hheap⟩,hn,hxsz,hpos,vs,hrel,hcell⟩ := hI.blk b _ hb
   rw [hμ] at hm'
   simp only [Option.some.injEq,Prod.mk.injEq] at hm'
   obtain ⟨rfl,rfl,rfl,rfl⟩ := hm'
   have hIB : ∀ q u,cs[q]? = some u → (G.freeze σ w m).I B q = some u := by
    intro q u hq
    simp only [Gh.freeze]
    rw [if_pos ⟨b,_,hm,hb,by simp [baseOf,hμ]⟩,hheap]
    exact hq
   have := RelV.list (G := G.freeze σ w m) .part ys B (O + o * z) z cap (fun i => vs (o + i)) (fun h => by cases h) (fun h => by cases h) (by omega)
    (fun i y hy => by
     have hil : i < l := by rw [← hyl]; exact (List.getElem?_eq_some_iff.1 hy).1
     have hx : xs[o + i]? = some (xs[o + i]'(by omega)) := List.getElem?_eq_getElem (by omega)
     exact ih i _ y hil hx hy (hrel _ _ hx))
    (fun i hi => by
     obtain ⟨q1,q2⟩ := hcell (o + i) (by omega)
     refine ⟨q1,fun j u hj => ⟨(q2 j u hj).1,?_⟩⟩
     rw [show O + o * z + i * z + j = O + (o + i) * z + j by rw [Nat.add_mul]; omega]
     exact hIB _ _ (q2 j u hj).2)
   rw [hyl] at this
   exact this
 | list k xs ys hl _ ih =>
  intro v r
  cases r with
  | nillist =>
   obtain rfl : ys = [] := List.length_eq_zero_iff.1 (by simpa using hl)
   exact .nillist
  | emptyl a c =>
   obtain rfl : ys = [] := List.length_eq_zero_iff.1 (by simpa using hl)
   exact .emptyl a c
  | list _ _ B O z cap vs h1 h2 h3 hr hc =>
   have := RelV.list (G := G.freeze σ w m) k ys B O z cap vs h1 (fun h => by rw [hl]; exact ⟨(h2 h).1,fun hne => (h2 h).2 fun hx0 => hne (List.length_eq_zero_iff.1 (by rw [hl,hx0]; rfl))⟩) (by omega)
    (fun i y hy => by
     have hil : i < xs.length := by rw [← hl]; exact (List.getElem?_eq_some_iff.1 hy).1
     have hx : xs[i]? = some xs[i] := List.getElem?_eq_getElem hil
     exact ih i _ y hx hy (hr _ _ hx))
    (fun i hi => by
     obtain ⟨q1,q2⟩ := hc i (by omega)
     exact ⟨q1,fun j u hj => ⟨(q2 j u hj).1,freeze_imm hI m _ _ _ (q2 j u hj).2⟩⟩)
   rw [hl] at this
   exact this
 | agg xs ys hl _ ih =>
  intro v r
  cases r with
  | agg _ vs h1 hr hc =>
   refine .agg _ _ (by omega) (fun i y u hy hu => ?_) hc
   have hil : i < xs.length := by rw [← hl]; exact (List.getElem?_eq_some_iff.1 hy).1
   have hx : xs[i]? = some xs[i] := List.getElem?_eq_getElem hil
   exact ih i _ y hx hy (hr i _ u hx hu)
 | tuple xs ys hl _ ih =>
  intro v r
  cases r with
  | tuple _ vs h1 hr =>
   refine .tuple _ _ (by omega) (fun i y u hy hu => ?_)
   have hil : i < xs.length := by rw [← hl]; exact (List.getElem?_eq_some_iff.1 hy).1
   have hx : xs[i]? = some xs[i] := List.getElem?_eq_getElem hil
   exact ih i _ y hx hy (hr i _ u hx hu)
theorem cut_sound {G : Gh} {σ₁ g : St} {w : World} (hI : Inv G N (σ₁ ++ g) w) (hE : Ext G₀ σ₀ w₀ G (σ₁ ++ g) w) (hlen : σ₀.length ≤ σ₁.length) (hd : ∀ b g y,G₀.μ b g = some y → b < σ₀.length) (hdH : ∀ b g y,G₀.H b g = some y → b < σ₀.length)
  (hlt : ∀ B,ownB G₀ σ₀ B → B < w₀.heap.size)
  (hu : ∀ (i : Nat) (b : Blk),σ₁[i]? = some b → UnderB σ₁.length b) (hnew : ∀ b k B,σ₁.length ≤ b → (σ₁ ++ g)[b]? = some k → baseOf G b k = some B → ownB G₀ σ₀ B ∨ w₀.heap.size ≤ B) (hb0 : N.g0.le G₀) :
  Inv (G.freeze (σ₁ ++ g) w σ₁.length) N σ₁ w ∧ Ext G₀ σ₀ w₀ (G.freeze (σ₁ ++ g) w σ₁.length) σ₁ w := by
 have hget : ∀ b k,σ₁[b]? = some k → b < σ₁.length ∧ (σ₁ ++ g)[b]? = some k := by
  intro b k hk
  have := (List.getElem?_eq_some_iff.1 hk).1
  exact ⟨this,by rw [List.getElem?_append_left this]; exact hk⟩
 have hbase : ∀ b k,b < σ₁.length → baseOf (G.freeze (σ₁ ++ g) w σ₁.length) b k = baseOf G b k := by
  intro b k hb
  cases k <;> simp [baseOf,Gh.freeze,hb]
 have hown : ∀ B,ownB (G.freeze (σ₁ ++ g) w σ₁.length) σ₁ B → ownB G (σ₁ ++ g) B := by
  rintro B ⟨b,k,hk,hB⟩
  obtain ⟨h1,h2⟩ := hget b k hk
  exact ⟨b,k,h2,by rw [← hbase b k h1]; exact hB⟩
 have hnot : ∀ B,ownB (G.freeze (σ₁ ++ g) w σ₁.length) σ₁ B → ¬ ∃ b k,σ₁.length ≤ b ∧ (σ₁ ++ g)[b]? = some k ∧ baseOf G b k = some B := by
  rintro B ⟨b,k,hk,hB⟩ ⟨b',k',hle,hk',hB'⟩
  obtain ⟨h1,h2⟩ := hget b k hk
  rw [hbase b k h1] at hB
  have := hI.inj b b' k k' B h2 hk' hB hB'
  omega
 have hle : G₀.le (G.freeze (σ₁ ++ g) w σ₁.length) := by
  refine ⟨fun B o v hv => freeze_imm hI _ B o v (hE.le.imm B o v hv),fun b g' y hy => ?_,fun b g' y hy => ?_,hE.le.n0⟩
  ·have := hd b g' y hy
   simp only [Gh.freeze]
   rw [if_pos (by omega)]
   exact hE.le.at_ b g' y hy
  ·have := hdH b g' y hy
   simp only [Gh.freeze]
   rw [if_pos (by omega)]
   exact hE.le.his b g' y hy
 refine ⟨⟨?_,?_,?_,?_,?_,hI.big,?_,?_,?_,hI.old,hb0.trans hle⟩,⟨hle,hE.os,hE.tape,hE.output,hE.size,hE.keep,fun B hB => hE.own B (hown B hB),?_,hlen⟩⟩
 ·intro B o v hv
  simp only [Gh.freeze] at hv
  split at hv
  ·rename_i hb
   split at hv
   ·rename_i cs el fz hh
    simp [World.cell?,hh,hv]
   ·simp at hv
  ·exact hI.imm B o v hv
 ·intro b g' y hy
  simp only [Gh.freeze] at hy
  split at hy
  ·assumption
  ·simp at hy
 ·intro b k hk
  obtain ⟨h1,h2⟩ := hget b k hk
  have hub := hu b k hk
  have hr := hI.blk b k h2
  cases k with
  | arr g' z xs =>
   obtain ⟨B,O,n',cs,el,hm,hN,hh,hn,hle,hz,vs,q1,q2⟩ := hr
   exact ⟨B,O,n',cs,el,by simp [Gh.freeze,h1,hm],hN,hh,hn,hle,hz,vs,fun i x hx => (q1 i x hx).freeze hI (hub i x hx),q2⟩
  | map v es =>
   obtain ⟨B,ents,clock,hm,hN,hh,hl,q,hH,hok⟩ := hr
   exact ⟨B,ents,clock,by simp [Gh.freeze,h1,hm],hN,hh,hl,fun i e m he hm => ⟨(q i e m he hm).1.freeze hI (hub i e he).1,(q i e m he hm).2.freeze hI (hub i e he).2⟩,by simp [Gh.freeze,h1,hH],hok⟩
  | iter m s l =>
   obtain ⟨B,mr,since,seen,stepped,hm,hN,hh,q⟩ := hr
   refine ⟨B,mr,since,seen,stepped,by simp [Gh.freeze,h1,hm],hN,hh,?_⟩
   cases m with
   | none => exact q
   | some k =>
    obtain ⟨MB,ents,clock,q1,q2,q3,q4⟩ := q
    have hk : k.1 < σ₁.length := hub k rfl
    exact ⟨MB,ents,clock,by simp [Gh.freeze,hk,q1],q2,by simp [Gh.freeze,hk,q3],q4⟩
  | dead => trivial
 ·intro b b' k k' B hk hk' hB hB'
  obtain ⟨h1,h2⟩ := hget b k hk
  obtain ⟨h3,h4⟩ := hget b' k' hk'
  rw [hbase b k h1] at hB
  rw [hbase b' k' h3] at hB'
  exact hI.inj b b' k k' B h2 h4 hB hB'
 ·intro B o ho
  simp only [Gh.freeze]
  rw [if_neg (hnot B ho)]
  exact hI.sep B o (hown B ho)
 ·intro b g' z xs hk g'' hlt'
  obtain ⟨h1,h2⟩ := hget b _ hk
  simp only [Gh.freeze,h1,if_true]
  exact hI.gen b g' z xs h2 g'' hlt'
 ·intro b v y hy
  simp only [Gh.freeze] at hy
  split at hy
  ·assumption
  ·simp at hy
 ·intro b v es hk v' hlt'
  obtain ⟨h1,h2⟩ := hget b _ hk
  simp only [Gh.freeze,h1,if_true]
  exact hI.genH b v es h2 v' hlt'
 ·intro B o v hv
  simp only [Gh.freeze] at hv
  split at hv
  ·rename_i hb
   obtain ⟨b,k,hle,hk,hB⟩ := hb
   rcases hnew b k B hle hk hB with h1 | h1
   ·exact .inr (.inl h1)
   ·exact .inr (.inr h1)
  ·exact hE.imm B o v hv
theorem weak_sound {G : Gh} {σ' σ'' : St} {w : World} {x x' : PV} {v : Value} (hI₀ : Inv G₀ N σ₀ w₀) (hI : Inv G N σ' w) (hE : Ext G₀ σ₀ w₀ G σ' w) (rx : RelV G x v) (h : Weak σ₀ x σ' x' σ'') :
  ∃ G'',Inv G'' N σ'' w ∧ Ext G₀ σ₀ w₀ G'' σ'' w ∧ RelV G'' x' v := by
 have hown : ∀ b k B,σ'[b]? = some k → baseOf G b k = some B → ownB G₀ σ₀ B ∨ w₀.heap.size ≤ B := fun b k B hk hB => hE.own B ⟨b,k,hk,hB⟩
 cases h with
 | keep => exact ⟨G,hI,hE,rx⟩
 | clean g _ hσ hf =>
  subst hσ
  obtain ⟨p1,p2⟩ := cut_sound hI hE (Nat.le_refl _) hI₀.dom hI₀.domH (fun B hB => (hI₀.lt_of_own hB).1) (fun i b hb => by
   have hr := hI₀.blk i b hb
   cases b with
   | arr g' z xs =>
    obtain ⟨B,O,n',cs,el,hm,hN,hh,hn,hle,hz,vs,q1,q2⟩ := hr
    exact fun i x hx => (q1 i x hx).under hI₀.dom
   | map v es =>
    obtain ⟨B,ents,clock,hm,hN,hh,hl,q,_⟩ := hr
    intro i e he
    have hlt : i < ents.size := by rw [hl]; exact (List.getElem?_eq_some_iff.1 he).1
    have := q i e ents[i] he (by simp [hlt])
    exact ⟨this.1.under hI₀.dom,this.2.under hI₀.dom⟩
   | iter m s l =>
    intro k hk
    subst hk
    obtain ⟨B,mr,since,seen,stepped,hm,hN,hh,MB,ents,clock,q1,_⟩ := hr
    exact hI₀.dom _ _ _ q1
   | dead => trivial) (fun b k B _ hk hB => hown b k B hk hB) hI₀.bas
  exact ⟨_,p1,p2,frz_sound (x := x) (v := v) hI hf rx⟩
 | drop σ₁ g _ hσ hlen hu hf =>
  subst hσ
  obtain ⟨p1,p2⟩ := cut_sound hI hE hlen hI₀.dom hI₀.domH (fun B hB => (hI₀.lt_of_own hB).1) hu (fun b k B _ hk hB => hown b k B hk hB) hI₀.bas
  exact ⟨_,p1,p2,frz_sound (x := x) (v := v) hI hf rx⟩
 | kill D _ _ hk hf =>
  obtain ⟨p1,p2,_⟩ := kill_sound hI₀ hI hE hk
  exact ⟨_,p1,p2,frzD_sound hI hf rx⟩
theorem DfrRel.nil_inv {G : Gh} {l : List Deferred} (h : DfrRel G [] l) : l = [] := by
 cases h with
 | nil => rfl
theorem envOf_get : ∀ (args : List PV) (i t : Nat),(∃ x,args[t - i]? = some x ∧ i ≤ t ∧ envOf i args t = .v x) ∨ envOf i args t = .v .any
 | [],i,t => .inr rfl
 | x :: xs,i,t => by
  simp only [envOf]
  split
  ·rename_i h; subst h; exact .inl ⟨x,by simp,Nat.le_refl _,rfl⟩
  ·rename_i h
   rcases envOf_get xs (i + 1) t with ⟨y,h1,h2,h3⟩ | h1
   ·refine .inl ⟨y,?_,by omega,h3⟩
    rw [show t - i = (t - (i + 1)) + 1 by omega]
    simpa using h1
   ·exact .inr h1
theorem start_rel {G : Gh} {σ : St} {w : World} {args : List PV} {vs : Array Value} (hI : Inv G N σ w) (h1 : args.length = vs.size) (h2 : ∀ (i : Nat) (x : PV) (v : Value),args[i]? = some x → vs[i]? = some v → RelV G x v) (m : Nat) :
  Rel G σ w N m (fr0 args) σ { tmps := vs ++ Array.replicate (m - vs.size) undef,defers := [] } w := by
 refine ⟨G,fun _ => none,hI,⟨fun t => ?_,fun s B h => by simp at h,fun s s' B h => by simp at h,by simp; omega,.nil,fun g => (N.glb g).mono hI.bas⟩,.refl _ _ _⟩
 simp only [fr0]
 rcases envOf_get args 0 t with ⟨x,e1,e2,e3⟩ | e
 ·rw [e3]
  simp only [Nat.sub_zero] at e1
  have hlt : t < vs.size := by rw [← h1]; exact (List.getElem?_eq_some_iff.1 e1).1
  have hv : vs[t]? = some vs[t] := by simp [hlt]
  have : (vs ++ Array.replicate (m - vs.size) undef).getD t undef = vs[t] := by
   rw [Array.getD_eq_getD_getElem?,Array.getElem?_append_left hlt,hv]
   rfl
  show RelV G x _
  rw [this]
  exact h2 t x _ e1 hv
 ·rw [e]
  exact RelV.any _
def ModeRel (G : Gh) (m : Option PV) (u : FrameMode) : Prop :=
 match m with
 | none => u = .returning
 | some x => ∃ v,RelV G x v ∧ u = .panicking [{ v,recovered := false }]
theorem recover_run {o : Oper} (h : deferC.isRecover o.op = true) (a : Act) (w : World) : (execOp a.eval o).run P w = .ok .recover w := by
 obtain ⟨dst,op,type,pos,after,guard⟩ := o
 simp only at h
 unfold deferC.isRecover at h
 split at h
 ·rename_i c
  split at h
  ·rename_i hc
   obtain ⟨callee,args,argTypes⟩ := c
   simp only at hc
   subst hc
   simp only [execOp,resolve,Sem.run_bind,Sem.run_pure,Result.andThen_ok,invoke,builtin]
  ·cases h
 ·cases h
def ExtOk (P : Program) (N : Base) (ann : FuncId → Ann) : Prop :=
 ∀ f g,(ann f).ext = some g → ∀ args σ r,g args σ = some r → ∀ G w (vs : Array Value),Inv G N σ w → args.length = vs.size → (∀ (i : Nat) (x : PV) (v : Value),args[i]? = some x → vs[i]? = some v → RelV G x v) →
  Calls P f vs w fun e w' => ∃ G' v,Inv G' N r.2 w' ∧ Ext G σ w G' r.2 w' ∧ RelV G' r.1 v ∧ e = .returned v
theorem defer_sound (hg : goodNames P = true) {ann : FuncId → Ann} (hok : progOk P ann = true) (hcall : CallSound P N call) (hm : CallMono call) {g : FuncId} {caps : List PV} {m : Option PV} {K : Option PV → St → Prop} {G : Gh} {σ : St} {w : World} {vs : Array Value} {u : FrameMode}
  (hI : Inv G N σ w) (h1 : caps.length = vs.size) (h2 : ∀ (i : Nat) (x : PV) (v : Value),caps[i]? = some x → vs[i]? = some v → RelV G x v) (hu : ModeRel G m u) (h : deferC (algP call) P ann g caps m σ K) :
  (∃ fn c,P.funcs[g]? = some fn ∧ fn.body = some c) ∧ CallsD P g vs u w fun e u' w' => ∃ G' σ' m',K m' σ' ∧ Inv G' N σ' w' ∧ Ext G σ w G' σ' w' ∧
   match e with
   | .returned _ => ModeRel G' m' (settle u')
   | .panicked chain => ModeRel G' m' (raised u' chain)
   | .outgrown => False := by
 unfold deferC at h
 split at h
 ·rename_i fn hfn
  split at h
  ·rename_i id ops rest hbody
   split at h
   ·rename_i o os hops
    split at h
    ·rename_i hh
     obtain ⟨hgd,hrec,hres⟩ := hh
     refine ⟨⟨fn,_,hfn,hbody⟩,?_⟩
     have hok1 : codeOk (ann g) fn.ntmps (.seq (.region id ops false) rest) = true := by
      simp only [progOk,Bool.and_eq_true,List.all_eq_true] at hok
      have := hok.2 g (List.mem_range.2 (Array.getElem?_eq_some_iff.1 hfn).1)
      rw [hfn] at this
      simp only [hbody] at this
      exact this
     have hmix : P.follows .mixedOrders = true := by
      simp only [progOk,Bool.and_eq_true] at hok
      exact hok.1
     simp only [codeOk,Bool.and_eq_true,List.all_eq_true] at hok1
     obtain ⟨⟨hdst,_⟩,hokr⟩ := hok1
     have hd : ∀ o ∈ ops.toList,∀ d,o.dst = some d → d < fn.ntmps := by
      intro o ho d hdst'
      have := hdst o ho
      simpa [hdst'] using this
     refine callsD_of_wpS hfn hbody fun c₀ cs hmode => ?_
     refine wpS_seq (wpS_region ?_)
     have hsz : ops.size = os.length + 1 := by rw [← Array.length_toList,hops]; rfl
     have ho0 : ops[0]? = some o := by rw [← Array.getElem?_toList,hops]; rfl
     rw [List.range_eq_range',hsz,List.range'_succ]
     have hw0 : Region.wanted o (yielded ops (vs ++ Array.replicate (fn.ntmps - vs.size) undef)) = true := by simp [Region.wanted,hgd]
     have hr0 := start_rel hI h1 h2 fn.ntmps
     simp only [wpOpsS,ho0,hw0,if_true,recover_run hrec]
     
     have key : ∃ rv u',RelV G (recV m) rv ∧ (match m with | none => u' = .returning | some _ => settle u' = .returning ∧ ∃ x,u' = .panicking x) ∧
       (match recoverD (c₀ :: cs) with
       | some (v,cs') => wpOpsS P ops (Exit.thenS (rest.wpS P (bodyPostS P fn c₀ cs fun e u' w' => ∃ G' σ' m',K m' σ' ∧ Inv G' N σ' w' ∧ Ext G σ w G' σ' w' ∧
          match e with
          | .returned _ => ModeRel G' m' (settle u')
          | .panicked chain => ModeRel G' m' (raised u' chain)
          | .outgrown => False)) (bodyPostS P fn c₀ cs fun e u' w' => ∃ G' σ' m',K m' σ' ∧ Inv G' N σ' w' ∧ Ext G σ w G' σ' w' ∧
          match e with
          | .returned _ => ModeRel G' m' (settle u')
          | .panicked chain => ModeRel G' m' (raised u' chain)
          | .outgrown => False)) (List.range' 1 os.length) (Act.put { tmps := vs ++ Array.replicate (fn.ntmps - vs.size) undef,defers := [] } o.dst v) cs' w
       | none => wpOpsS P ops (Exit.thenS (rest.wpS P (bodyPostS P fn c₀ cs fun e u' w' => ∃ G' σ' m',K m' σ' ∧ Inv G' N σ' w' ∧ Ext G σ w G' σ' w' ∧
          match e with
          | .returned _ => ModeRel G' m' (settle u')
          | .panicked chain => ModeRel G' m' (raised u' chain)
          | .outgrown => False)) (bodyPostS P fn c₀ cs fun e u' w' => ∃ G' σ' m',K m' σ' ∧ Inv G' N σ' w' ∧ Ext G σ w G' σ' w' ∧
          match e with
          | .returned _ => ModeRel G' m' (settle u')
          | .panicked chain => ModeRel G' m' (raised u' chain)
          | .outgrown => False)) (List.range' 1 os.length) (Act.put { tmps := vs ++ Array.replicate (fn.ntmps - vs.size) undef,defers := [] } o.dst .nilIface) (c₀ :: cs) w) := by
      have run : ∀ (rv : Value) (u' : FrameMode),RelV G (recV m) rv → (match m with | none => u' = .returning | some _ => settle u' = .returning) →
        wpOpsS P ops (Exit.thenS (rest.wpS P (bodyPostS P fn c₀ cs fun e u' w' => ∃ G' σ' m',K m' σ' ∧ Inv G' N σ' w' ∧ Ext G σ w G' σ' w' ∧
          match e with
          | .returned _ => ModeRel G' m' (settle u')
          | .panicked chain => ModeRel G' m' (raised u' chain)
          | .outgrown => False)) (bodyPostS P fn c₀ cs fun e u' w' => ∃ G' σ' m',K m' σ' ∧ Inv G' N σ' w' ∧ Ext G σ w G' σ' w' ∧
          match e with
          | .returned _ => ModeRel G' m' (settle u')
          | .panicked chain => ModeRel G' m' (raised u' chain)
          | .outgrown => False)) (List.range' 1 os.length) (Act.put { tmps := vs ++ Array.replicate (fn.ntmps - vs.size) undef,defers := [] } o.dst rv) ({ c₀ with mode := u' } :: cs) w := by
       intro rv u' hrv hu'
       have hrel : Rel G σ w N fn.ntmps ((fr0 caps).put o.dst (.v (recV m))) σ (Act.put { tmps := vs ++ Array.replicate (fn.ntmps - vs.size) undef,defers := [] } o.dst rv) w := by
        obtain ⟨G1,lam,q1,q2,q3⟩ := hr0
        refine ⟨G1,lam,q1,q2.put (fun d hdd => hd o (by rw [hops]; simp) d hdd) (show EvRel G1 lam (.v _) _ from hrv.mono q3.le),q3⟩
       have hrun := opsC_runL hm (X := fun _ _ _ => False) (fun _ _ _ _ _ h => h) _ (textTasks 1 os) _ σ h
       have := runL_opsS (n := fn.ntmps) (G₀ := G) (σ₀ := σ) (w₀ := w) (cs := { c₀ with mode := u' } :: cs) hg hcall hm (Q := Exit.thenS (rest.wpS P (bodyPostS P fn c₀ cs fun e u' w' => ∃ G' σ' m',K m' σ' ∧ Inv G' N σ' w' ∧ Ext G σ w G' σ' w' ∧
          match e with
          | .returned _ => ModeRel G' m' (settle u')
          | .panicked chain => ModeRel G' m' (raised u' chain)
          | .outgrown => False)) (bodyPostS P fn c₀ cs fun e u' w' => ∃ G' σ' m',K m' σ' ∧ Inv G' N σ' w' ∧ Ext G σ w G' σ' w' ∧
          match e with
          | .returned _ => ModeRel G' m' (settle u')
          | .panicked chain => ModeRel G' m' (raised u' chain)
          | .outgrown => False)) (fun fr σ₁ a₁ w₁ hc hr₁ => ?_) (fun _ _ _ h => h) (textTasks 1 os) _ σ _ w (fun t ht => ?_) hrel hrun
       ·rw [textTasks_map] at this
        exact this
       ·refine wpS_of_wp (wp_mono (code_sound (an := { ann g with base := σ }) hg hmix hcall hm hI rfl rest fr σ₁ _ a₁ w₁ ((codeOk_base rest).trans hokr) hr₁ hc) ?_)
        intro e a₂ w₂ hq
        have fin : ∀ {fr₂ : Fr} {σ₂ : St} {m₂ : Option PV} {e : Ending},fr₂.dfr = [] → K m₂ σ₂ → Rel G σ w N fn.ntmps fr₂ σ₂ a₂ w₂ → a₂.defers = [] ∧ ∃ v,(results fn a₂.tmps).run P w₂ = .ok v w₂ ∧ True := by
         intro fr₂ σ₂ m₂ e hdf hK hr₂
         obtain ⟨G₂,lam,i1,i2,i3⟩ := hr₂
         have hdfr := i2.dfr
         rw [hdf] at hdfr
         have hres' : fn.results.toList = [] := by
          have : fn.results = #[] := Array.eq_empty_of_size_eq_zero hres
          rw [this]
         obtain ⟨v,q1,_⟩ := results_sound (P := P) (fn := fn) i1 i2 (xs := []) (by rw [hres']; rfl)
         exact ⟨hdfr.nil_inv,v,q1,trivial⟩
        cases e with
        | normal =>
         obtain ⟨fr₂,σ₂,hQ,hr₂⟩ := hq
         split at hQ
         ·rename_i hdf
          obtain ⟨d1,v,d2,_⟩ := fin (e := .outgrown) hdf hQ hr₂
          obtain ⟨G₂,lam,i1,i2,i3⟩ := hr₂
          refine ⟨d1,u',rfl,v,d2,G₂,σ₂,none,hQ,i1,i3,?_⟩
          show settle u' = .returning
          cases m with
          | none => simp only at hu'; subst hu'; rfl
          | some x => exact hu'
         ·exact hQ.elim
        | ret =>
         obtain ⟨fr₂,σ₂,hQ,hr₂⟩ := hq
         split at hQ
         ·rename_i hdf
          obtain ⟨d1,v,d2,_⟩ := fin (e := .outgrown) hdf hQ hr₂
          obtain ⟨G₂,lam,i1,i2,i3⟩ := hr₂
          refine ⟨d1,u',rfl,v,d2,G₂,σ₂,none,hQ,i1,i3,?_⟩
          show settle u' = .returning
          cases m with
          | none => simp only at hu'; subst hu'; rfl
          | some x => exact hu'
         ·exact hQ.elim
        | exit id =>
         obtain ⟨fr₂,σ₂,hQ,hr₂⟩ := hq
         split at hQ
         ·exact hQ.elim
         ·exact hQ.elim
        | panic chain =>
         obtain ⟨x,v,fr₂,σ₂,hQ,hch,G₂,lam,i1,i2,i3,i4⟩ := hq
         split at hQ
         ·rename_i hdf
          have hdfr := i2.dfr
          rw [hdf] at hdfr
          cases m with
          | none =>
           simp only at hu' hQ
           subst hu'
           refine ⟨hdfr.nil_inv,.returning,rfl,G₂,σ₂,some x,hQ,i1,i3,v,i4,?_⟩
           rw [hch]
           rfl
          | some y => exact hQ.elim
         ·exact hQ.elim
        | goto l => exact hq.elim
        | outgrown => exact hq.elim
       ·obtain ⟨t1,t2⟩ := textTasks_spec os 1 t ht
        have hti : ops[t.i]? = some t.o := by
         rw [← Array.getElem?_toList,hops,show t.i = (t.i - 1) + 1 by omega]
         simpa using t2
        exact ⟨hti,hd _ (List.mem_of_getElem? (i := t.i) (by simpa using hti))⟩
      cases m with
      | none =>
       simp only [ModeRel] at hu
       have hc0 : recoverD (c₀ :: cs) = none := by simp [recoverD,hmode,hu]
       refine ⟨.nilIface,.returning,.nilIface,rfl,?_⟩
       rw [hc0]
       have hcc : ({ c₀ with mode := .returning } : Frame) = c₀ := by rw [← hu,← hmode]
       have := run .nilIface .returning .nilIface rfl
       rw [hcc] at this
       exact this
      | some x =>
       obtain ⟨v,rv,hu2⟩ := hu
       have hc0 : recoverD (c₀ :: cs) = some (v,{ c₀ with mode := .panicking [{ v,recovered := true }] } :: cs) := by simp [recoverD,hmode,hu2]
       refine ⟨v,.panicking [{ v,recovered := true }],rv,⟨rfl,_,rfl⟩,?_⟩
       rw [hc0]
       exact run v (.panicking [{ v,recovered := true }]) rv rfl
     obtain ⟨_,_,_,_,hfin⟩ := key
     exact hfin
    ·exact h.elim
   ·exact h.elim
  ·exact h.elim
 ·exact h.elim
theorem leave_sound (hg : goodNames P = true) {ann : FuncId → Ann} (hok : progOk P ann = true) (hcall : CallSound P N call) (hm : CallMono call) {fn : Func} {fr : Fr} {R : Res → St → Prop} {a : Act} (hI₀ : Inv G₀ N σ₀ w₀) :
  ∀ (l : List (FuncId × List PV)) (l' : List Deferred) (m : Option PV) (u : FrameMode) (σ : St) (w : World) (G : Gh) (lam : Nat → Option Nat),Inv G N σ w → FrRel G σ w (max N.n w₀.heap.size) n lam fr a → Ext G₀ σ₀ w₀ G σ w → DfrRel G l l' → ModeRel G m u →
   leaveC (algP call) P ann σ₀ R fn fr l m σ → Leaves P fn a.tmps (fun e w' => ∃ G' σ' r,R r σ' ∧ Inv G' N σ' w' ∧ Ext G₀ σ₀ w₀ G' σ' w' ∧
    match r,e with
    | .ret x,.returned v => RelV G' x v
    | .pan x,.panicked chain => ∃ v,RelV G' x v ∧ chain = [{ v,recovered := false }]
    | _,_ => False) l' u w
 | [],l',none,u,σ,w,G,lam,hI,hF,hE,hD,hu,h => by
  obtain rfl := hD.nil_inv
  obtain rfl : u = .returning := hu
  obtain ⟨xs,hxs,hfin⟩ := bindO_some h
  obtain ⟨x',σ'',hw,hR⟩ := hfin
  obtain ⟨v,q1,q2⟩ := results_sound (P := P) hI hF hxs
  obtain ⟨G'',p1,p2,p3⟩ := weak_sound hI₀ hI hE q2 hw
  exact ⟨v,q1,G'',σ'',.ret x',hR,p1,p2,p3⟩
 | [],l',some x,u,σ,w,G,lam,hI,hF,hE,hD,hu,h => by
  obtain rfl := hD.nil_inv
  obtain ⟨v,rv,rfl⟩ := hu
  exact ⟨G,σ,.pan x,h,hI,hE,v,rv,rfl⟩
 | d :: ds,l',m,u,σ,w,G,lam,hI,hF,hE,hD,hu,h => by
  cases hD with
  | cons g caps vs _ ds' hl hr hD' =>
   obtain ⟨⟨fng,cg,hfg,hbg⟩,hcd⟩ := defer_sound hg hok hcall hm hI hl hr hu h
   have hrun : u ≠ .run := by
    rintro rfl
    cases m with
    | none => cases hu
    | some x => obtain ⟨v,_,hh⟩ := hu; cases hh
   refine ⟨hrun,.func g,vs,g,vs,rfl,?_,?_⟩
   ·simp only [invoke,Array.empty_append]
    exact callFunc_run hg hfg hbg _ _
   ·intro c cs hc
    obtain ⟨e,u',w',frx,⟨G',σ',m',hK,hI',hE',hm'⟩,hcomes,hk,hgo⟩ := hcd c cs hc
    refine ⟨e,u',w',frx,?_,hcomes,hk,hgo⟩
    have hF' := hF.step hE'
    cases e with
    | returned v => exact leave_sound hg hok hcall hm hI₀ ds ds' m' _ σ' w' G' lam hI' hF' (hE.trans hE') (hD'.mono hE'.le) hm' hK
    | panicked chain => exact leave_sound hg hok hcall hm hI₀ ds ds' m' _ σ' w' G' lam hI' hF' (hE.trans hE') (hD'.mono hE'.le) hm' hK
    | outgrown => exact hm'.elim
theorem body_sound (hg : goodNames P = true) {ann : FuncId → Ann} (hok : progOk P ann = true) (hext : ExtOk P N ann) (hcall : CallSound P N call) (hm : CallMono call) {f : FuncId} {args : List PV} {σ : St} {R : Res → St → Prop} (h : bodyC (algP call) P ann f args σ R)
  (G : Gh) (w : World) (vs : Array Value) (hI : Inv G N σ w) (h1 : args.length = vs.size) (h2 : ∀ (i : Nat) (x : PV) (v : Value),args[i]? = some x → vs[i]? = some v → RelV G x v) :
  Calls P f vs w fun e w' => ∃ G' σ' r,R r σ' ∧ Inv G' N σ' w' ∧ Ext G σ w G' σ' w' ∧
   match r,e with
   | .ret x,.returned v => RelV G' x v
   | .pan x,.panicked chain => ∃ v,RelV G' x v ∧ chain = [{ v,recovered := false }]
   | _,_ => False := by
 unfold bodyC at h
 split at h
 ·rename_i g hgx
  obtain ⟨r,hr,hR⟩ := bindO_some h
  refine Calls.mono (hext f g hgx args σ r hr G w vs hI h1 h2) ?_
  rintro e w' ⟨G',v,q1,q2,q3,rfl⟩
  exact ⟨G',r.2,.ret r.1,hR,q1,q2,q3⟩
 ·split at h
  ·rename_i fn hfn
   split at h
   ·rename_i c hc
    have hok' := hok
    simp only [progOk,Bool.and_eq_true,List.all_eq_true] at hok'
    have hok2 : codeOk (ann f) fn.ntmps c = true := by
     have := hok'.2 f (List.mem_range.2 (Array.getElem?_eq_some_iff.1 hfn).1)
     rw [hfn] at this
     simp only [hc] at this
     exact this
    refine calls_of_wp_defers hfn hc (wp_mono (code_sound (G₀ := G) (σ₀ := σ) (w₀ := w) (n := fn.ntmps) (an := { ann f with base := σ }) hg hok'.1 hcall hm hI rfl c _ _ _ _ _ ((codeOk_base c).trans hok2) (start_rel hI h1 h2 fn.ntmps) h) ?_)
    intro e a' w' hq
    cases e with
    | normal =>
     obtain ⟨fr,σ',hfin,G',lam,hI',hF,hE⟩ := hq
     exact leave_sound hg hok hcall hm hI fr.dfr a'.defers none .returning σ' w' G' lam hI' hF hE hF.dfr rfl hfin
    | ret =>
     obtain ⟨fr,σ',hfin,G',lam,hI',hF,hE⟩ := hq
     exact leave_sound hg hok hcall hm hI fr.dfr a'.defers none .returning σ' w' G' lam hI' hF hE hF.dfr rfl hfin
    | exit id => obtain ⟨fr,σ',hfin,hr⟩ := hq; exact hfin.elim
    | goto l => exact hq.elim
    | outgrown => exact hq.elim
    | panic chain =>
     obtain ⟨x,v,fr,σ',hfin,hch,G',lam,hI',hF,hE,rx⟩ := hq
     exact leave_sound hg hok hcall hm hI fr.dfr a'.defers (some x) (.panicking chain) σ' w' G' lam hI' hF hE hF.dfr ⟨v,rx,by rw [hch]⟩ hfin
   ·exact h.elim
  ·exact h.elim
def callSem (P : Program) (N : Base) : CallP := fun f args σ R => ∀ G w (vs : Array Value),Inv G N σ w → args.length = vs.size → (∀ (i : Nat) (x : PV) (v : Value),args[i]? = some x → vs[i]? = some v → RelV G x v) →
  Calls P f vs w fun e w' => ∃ G' σ' r,R r σ' ∧ Inv G' N σ' w' ∧ Ext G σ w G' σ' w' ∧
   match r,e with
   | .ret x,.returned v => RelV G' x v
   | .pan x,.panicked chain => ∃ v,RelV G' x v ∧ chain = [{ v,recovered := false }]
   | _,_ => False
theorem callSem_mono (P : Program) (N : Base) : CallMono (callSem P N) where
 mono := by
  intro f args σ R R' hR h G w vs hI h1 h2
  refine Calls.mono (h G w vs hI h1 h2) ?_
  rintro e w' ⟨G',σ',r,hr,rest⟩
  exact ⟨G',σ',r,hR _ _ hr,rest⟩
theorem call_sound (hg : goodNames P = true) (ann : FuncId → Ann) (hok : progOk P ann = true) (N : Base) (hext : ExtOk P N ann) : CallSound P N (callW P ann) := by
 intro f args σ R h
 refine h (callSem P N) ?_
 intro f args σ R hb G w vs hI h1 h2
 exact body_sound hg hok hext (call := callSem P N) (fun f args σ R h => h) (callSem_mono P N) hb G w vs hI h1 h2
end
end Go.Abs
