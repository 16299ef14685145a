/- Frames, and: what an operation of the abstract machine comes to, the operation comes to in the world. -/
import Derived.Test.YtiniifbmeobmgaaGreatDoorAbsMaps
set_option linter.unusedVariables false
set_option linter.unusedSimpArgs false
namespace Go.Abs

/-- What stands in a slot. -/
def EvRel (G : Gh) (lam : Nat → Option Nat) (e : EV) (v : Value) : Prop :=
  match e with
  | .v x => RelV G x v
  | .loc s off => ∃ B, lam s = some B ∧ v = .pointer (some ⟨B, off, none⟩)

inductive DfrRel (G : Gh) : List (FuncId × List PV) → List Deferred → Prop where
  | nil : DfrRel G [] []
  | cons (f : FuncId) (caps : List PV) (vs : Array Value) (l l') : caps.length = vs.size → (∀ (i : Nat) (x : PV) (v : Value), caps[i]? = some x → vs[i]? = some v → RelV G x v) → DfrRel G l l' →
      DfrRel G ((f, caps) :: l) ({ target := .fn (.func f) vs, args := #[] } :: l')

theorem DfrRel.mono {G G' : Gh} (le : G.le G') {l : List (FuncId × List PV)} {l' : List Deferred} (h : DfrRel G l l') : DfrRel G' l l' := by
  induction h with
  | nil => exact .nil
  | cons f caps vs l l' h1 h2 _ ih => exact .cons f caps vs l l' h1 (fun i x v hx hv => (h2 i x v hx hv).mono le) ih

structure FrRel (G : Gh) (σ : St) (w : World) (M n : Nat) (lam : Nat → Option Nat) (fr : Fr) (a : Act) : Prop where
  env : ∀ t, EvRel G lam (fr.env t) (a.tmps.getD t undef)
  loc : ∀ s B, lam s = some B → M ≤ B ∧ ¬ ownB G σ B ∧ (∀ o, G.I B o = none) ∧ ∃ cs el ve, w.heap[B]? = some (.cells cs el (0, 0)) ∧ ve.cells = cs ∧ RelV G (fr.loc s) ve ∧ ∀ (j : Nat) (v : Value), cs[j]? = some v → v.oneCell' = true
  inj : ∀ s s' B, lam s = some B → lam s' = some B → s = s'
  size : n ≤ a.tmps.size
  dfr : DfrRel G fr.dfr a.defers

theorem EvRel.mono {G G' : Gh} (le : G.le G') {lam : Nat → Option Nat} {e : EV} {v : Value} (h : EvRel G lam e v) : EvRel G' lam e v := by
  cases e with
  | v x => exact RelV.mono le h
  | loc s off => exact h

theorem FrRel.loc_lt {G : Gh} {σ : St} {w : World} {M n : Nat} {lam : Nat → Option Nat} {fr : Fr} {a : Act} (h : FrRel G σ w M n lam fr a) {s B : Nat} (hl : lam s = some B) : B < w.heap.size := by
  obtain ⟨_, _, _, cs, el, ve, hh, _⟩ := h.loc s B hl
  exact (Array.getElem?_eq_some_iff.1 hh).1

theorem FrRel.step {G : Gh} {σ : St} {w : World} {G' : Gh} {σ' : St} {w' : World} {M n : Nat} {lam : Nat → Option Nat} {fr : Fr} {a : Act} (h : FrRel G σ w M n lam fr a) (e : Ext G σ w G' σ' w') : FrRel G' σ' w' M n lam fr a where
  env t := (h.env t).mono e.le
  loc s B hl := by
    have hlt := h.loc_lt hl
    obtain ⟨h1, h2, h3, cs, el, ve, hh, h4, h5, h6⟩ := h.loc s B hl
    refine ⟨h1, fun ho => ?_, fun o => ?_, cs, el, ve, by rw [e.keep B hlt h2]; exact hh, h4, h5.mono e.le, h6⟩
    · rcases e.own B ho with k | k
      · exact h2 k
      · omega
    · cases hi : G'.I B o with
      | none => rfl
      | some v =>
        rcases e.imm B o v hi with k | k | k
        · rw [h3] at k; simp at k
        · exact absurd k h2
        · omega
  inj := h.inj
  size := h.size
  dfr := h.dfr.mono e.le

theorem putE {a : Act} {d : Nat} {v : Value} (hd : d < a.tmps.size) (t : Nat) : (a.put (some d) v).tmps.getD t undef = if t = d then v else a.tmps.getD t undef := by
  simp only [Act.put, Array.getD_eq_getD_getElem?]
  by_cases h : t = d
  · subst h
    simp [hd]
  · rw [if_neg h, Array.getElem?_setIfInBounds_ne (Ne.symm h)]

theorem FrRel.put {G : Gh} {σ : St} {w : World} {M n : Nat} {lam : Nat → Option Nat} {fr : Fr} {a : Act} (h : FrRel G σ w M n lam fr a) {dst : Option Nat} (hd : ∀ d, dst = some d → d < n) {x : EV} {v : Value} (hx : EvRel G lam x v) :
    FrRel G σ w M n lam (fr.put dst x) (a.put dst v) := by
  cases dst with
  | none => exact h
  | some d =>
    have hlt : d < a.tmps.size := Nat.lt_of_lt_of_le (hd d rfl) h.size
    refine ⟨fun t => ?_, h.loc, h.inj, by simpa [Act.put] using h.size, h.dfr⟩
    rw [putE hlt]
    simp only [Fr.put]
    split
    · exact hx
    · exact h.env t

/-- All that is known at a point of a body: since (G₀, σ₀, w₀), the call's begin. -/
def Rel (G₀ : Gh) (σ₀ : St) (w₀ : World) (N : Base) (n : Nat) (fr : Fr) (σ : St) (a : Act) (w : World) : Prop :=
  ∃ G lam, Inv G N σ w ∧ FrRel G σ w (max N.n w₀.heap.size) n lam fr a ∧ Ext G₀ σ₀ w₀ G σ w

theorem ev_rel {G : Gh} {σ : St} {w : World} {M n : Nat} {lam : Nat → Option Nat} {fr : Fr} {a : Act} (h : FrRel G σ w M n lam fr a) (x : Operand) : EvRel G lam (evE fr x) (a.eval x) := by
  cases x with
  | tmp t => exact h.env t
  | const v => exact rel_ofVal G v
  | global g => exact .any _
  | func f => exact .func f [] #[] rfl (by simp)

theorem evP_rel {G : Gh} {σ : St} {w : World} {M n : Nat} {lam : Nat → Option Nat} {fr : Fr} {a : Act} (h : FrRel G σ w M n lam fr a) (x : Operand) : RelV G (evP fr x) (a.eval x) := by
  have := ev_rel h x
  unfold evP
  cases he : evE fr x with
  | v p => rw [he] at this; exact this
  | loc s off => exact .any _

theorem evE_v {G : Gh} {σ : St} {w : World} {M n : Nat} {lam : Nat → Option Nat} {fr : Fr} {a : Act} (h : FrRel G σ w M n lam fr a) {x : Operand} {p : PV} (he : evE fr x = .v p) : RelV G p (a.eval x) := by
  have := ev_rel h x
  rw [he] at this
  exact this

theorem evE_loc {G : Gh} {σ : St} {w : World} {M n : Nat} {lam : Nat → Option Nat} {fr : Fr} {a : Act} (h : FrRel G σ w M n lam fr a) {x : Operand} {s off : Nat} (he : evE fr x = .loc s off) : ∃ B, lam s = some B ∧ a.eval x = .pointer (some ⟨B, off, none⟩) := by
  have := ev_rel h x
  rw [he] at this
  exact this

/-- A variable of the frame gets another content. -/
theorem setLoc_sound {P : Program} {G : Gh} {N : Base} {σ : St} {w : World} {M n : Nat} {lam : Nat → Option Nat} {fr : Fr} {a : Act} {t : TypeId} {sz s off : Nat} {x z : PV} {v : Value} {B : Nat}
    (hI : Inv G N σ w) (hF : FrRel G σ w M n lam fr a) (hNM : N.n ≤ M) (hl : lam s = some B) (hs : szOf P t = some sz) (rx : RelV G x v) (h : vPut sz (fr.loc s) off x = some z) :
    ∃ w', (Instr.storeAt t (.pointer (some ⟨B, off, none⟩)) v).run P w = .ok () w' ∧ Inv G N σ w' ∧ FrRel G σ w' M n lam (fr.setLoc s z) a ∧ w'.os = w.os ∧ w'.tape = w.tape ∧ w'.output = w.output ∧ w'.heap.size = w.heap.size ∧ (∀ k, k ≠ B → w'.heap[k]? = w.heap[k]?) := by
  obtain ⟨hM, hno, hI0, cs, el, ve, hh, hcs, rl, h1⟩ := hF.loc s B hl
  obtain ⟨hvs, hv1, hfit, ve', re', hcells⟩ := put_part rl rx h
  have hrun := storeVar_run (P := P) (p := off) hs hh hvs hv1 (by rw [← hcs]; exact hfit)
  generalize hcs' : (cs.toList.take off ++ v.cells.toList ++ cs.toList.drop (off + v.cells.toList.length)).toArray = cs' at hrun
  have hne : ∀ k, k ≠ B → (w.setRow B cs').heap[k]? = w.heap[k]? := fun k hk => setRow_ext_heap w B _ k hk
  refine ⟨w.setRow B cs', by simp [Instr.storeAt, Instr.sureAddr, hrun], ?_, ?_, rfl, rfl, rfl, setRow_size _ _ _, hne⟩
  · obtain ⟨i1, i2, i3, i4, i5, i6, i7, i8, i9, i10⟩ := hI
    refine ⟨fun C o u hu => ?_, i2, fun b k hk => (i3 b k hk).step (.refl G) fun C hC => hne C ?_, i4, i5, by rw [setRow_size]; exact i6, i7, i8, i9, fun k hk => (hne k (by omega)).trans (i10 k hk)⟩
    · have : C ≠ B := by rintro rfl; rw [hI0] at hu; simp at hu
      rw [cell_of_heap_eq (hne C this)]
      exact i1 C o u hu
    · rintro rfl
      exact hno ⟨b, k, hk, hC⟩
  · refine ⟨hF.env, fun s' C hC => ?_, hF.inj, hF.size, hF.dfr⟩
    by_cases hss : s' = s
    · subst hss
      rw [hl] at hC
      obtain rfl := Option.some.inj hC
      refine ⟨hM, hno, hI0, _, el, ve', setRow_heap w B cs _ el (0, 0) hh, ?_, by simpa [Fr.setLoc] using re', fun j u hu => ?_⟩
      · apply Array.ext'
        rw [← hcs', hcells, hcs]
      · rw [← hcs', List.getElem?_toArray] at hu
        have := List.mem_of_getElem? hu
        simp only [List.mem_append] at this
        rcases this with (q | q) | q
        · obtain ⟨i, hi⟩ := List.getElem?_of_mem (List.mem_of_mem_take q)
          exact h1 i u (by simpa using hi)
        · exact hv1 u q
        · obtain ⟨i, hi⟩ := List.getElem?_of_mem (List.mem_of_mem_drop q)
          exact h1 i u (by simpa using hi)
    · obtain ⟨q1, q2, q3, cs', el', ve2, q4, q5, q6, q7⟩ := hF.loc s' C hC
      refine ⟨q1, q2, q3, cs', el', ve2, ?_, q5, by simpa [Fr.setLoc, hss] using q6, q7⟩
      rw [hne C (by rintro rfl; exact hss (hF.inj s' s C hC hl))]
      exact q4

/-- A variable of the frame is made. -/
theorem newLoc_sound {G : Gh} {N : Base} {σ : St} {w : World} {M n : Nat} {lam : Nat → Option Nat} {fr : Fr} {a : Act} {d : Nat} {z : PV} {ve : Value} {el : TypeId} {zc : List PV}
    (hI : Inv G N σ w) (hF : FrRel G σ w M n lam fr a) (hM : M ≤ w.heap.size) (hd : d < n) (rz : RelV G z ve) (hz : z.cells? = some zc) :
    ∃ lam', Inv G N σ (World.more w (.cells ve.cells el)) ∧ FrRel G σ (World.more w (.cells ve.cells el)) M n lam' (fr.newLoc d z) (a.put (some d) (.pointer (some ⟨w.heap.size, 0, none⟩))) ∧ Ext G σ w G σ (World.more w (.cells ve.cells el)) := by
  have hE : Ext G σ w G σ (World.more w (.cells ve.cells el)) := ⟨.refl G, rfl, rfl, rfl, by rw [more_size]; omega, fun k hk _ => more_heap_lt _ _ _ hk, fun _ h => .inl h, fun _ _ _ h => .inl h, Nat.le_refl _⟩
  have hlt : d < a.tmps.size := Nat.lt_of_lt_of_le hd hF.size
  have hF' := hF.step hE
  refine ⟨fun s => if s = d then some w.heap.size else lam s, ?_, ?_, hE⟩
  · obtain ⟨i1, i2, i3, i4, i5, i6, i7, i8, i9, i10⟩ := hI
    refine ⟨fun C o u hu => cell_more (i1 C o u hu), i2, fun b k hk => (i3 b k hk).step (.refl G) fun C hC => more_heap_lt _ _ _ ?_, i4, i5, by rw [more_size]; omega, i7, i8, i9, fun k hk => (more_heap_lt _ _ _ (by omega)).trans (i10 k hk)⟩
    have : Inv G N σ w := ⟨i1, i2, i3, i4, i5, i6, i7, i8, i9, i10⟩
    exact (this.lt_of_own ⟨b, k, hk, hC⟩).1
  · refine ⟨fun t => ?_, fun s B hs => ?_, fun s s' B hs hs' => ?_, by simpa [Act.put] using hF.size, hF.dfr⟩
    · rw [putE hlt]
      simp only [Fr.newLoc]
      split
      · exact ⟨w.heap.size, by simp, rfl⟩
      · have := hF.env t
        cases he : fr.env t with
        | v x => rw [he] at this; exact this
        | loc s off =>
          rw [he] at this
          simp only
          split
          · exact RelV.any _
          · rename_i hsd
            obtain ⟨B, h1, h2⟩ := this
            exact ⟨B, by simp only [hsd, if_false]; exact h1, h2⟩
    · split at hs
      · rename_i hsd
        subst hsd
        simp only [Option.some.injEq] at hs
        subst hs
        refine ⟨hM, fun ho => ?_, fun o => ?_, ve.cells, el, ve, by rw [more_heap, if_pos rfl], rfl, by simpa [Fr.newLoc] using rz, (rz.cells hz).2.2⟩
        · have := (hI.lt_of_own ho).1; omega
        · cases h : G.I w.heap.size o with
          | none => rfl
          | some u => have := hI.imm _ _ _ h; simp [World.cell?] at this
      · rename_i hsd
        obtain ⟨q1, q2, q3, cs', el', ve2, q4, q5, q6, q7⟩ := hF'.loc s B hs
        exact ⟨q1, q2, q3, cs', el', ve2, q4, q5, by simpa [Fr.newLoc, hsd] using q6, q7⟩
    · split at hs <;> split at hs'
      · rename_i h1 h2; rw [h1, h2]
      · rename_i h1 h2
        have := hF.loc_lt hs'
        simp only [Option.some.injEq] at hs
        omega
      · rename_i h1 h2
        have := hF.loc_lt hs
        simp only [Option.some.injEq] at hs'
        omega
      · exact hF.inj s s' B hs hs'

/-! ### One operation -/

/-- What is promised of calls. -/
def CallSound (P : Program) (N : Base) (call : CallP) : Prop :=
  ∀ f args σ R, call f args σ R → ∀ G w (vs : Array Value), Inv G N σ w → args.length = vs.size → (∀ (i : Nat) (x : PV) (v : Value), args[i]? = some x → vs[i]? = some v → RelV G x v) →
    Calls P f vs w fun e w' => ∃ G' σ' r, R r σ' ∧ Inv G' N σ' w' ∧ Ext G σ w G' σ' w' ∧
      match r, e with
      | .ret x, .returned v => RelV G' x v
      | .pan x, .panicked chain => ∃ v, RelV G' x v ∧ chain = [{ v, recovered := false }]
      | _, _ => False

theorem vLoad_rd {ag s : Bool} {sz : Nat} {p x : PV} {σ : St} (h : vLoad ag sz p (rdOf s σ) = some x) : vLoad ag sz p σ = some x := by
  cases s with
  | false => exact h
  | true =>
    cases p with
    | eptr e off => exact h
    | ptr b g i off => simp [rdOf, vLoad] at h
    | _ => simp [vLoad] at h

theorem vLookup_rd {k : EK1} {z m key r : PV} {ok s : Bool} {σ : St} (h : vLookup k z ok m key (rdOf s σ) = some r) : vLookup k z ok m key σ = some r := by
  cases s with
  | false => exact h
  | true =>
    cases m with
    | mref b => simp [rdOf, vLookup] at h
    | _ => exact h

theorem vEntry_rd {s : Bool} {x r : PV} {σ : St} (h : vEntry x (rdOf s σ) = some r) : vEntry x σ = some r := by
  cases s with
  | false => exact h
  | true =>
    unfold vEntry at h
    split at h
    · simp [rdOf] at h
    · cases h

theorem vLen_rd {k : LenK} {s : Bool} {x r : PV} {σ : St} (h : vLen k x (rdOf s σ) = some r) : vLen k x σ = some r := by
  cases s with
  | false => exact h
  | true =>
    cases k <;> cases x <;> first | exact h | simp [rdOf, vLen] at h

/-- The program's functions with a body are no doors of the model's. -/
def goodNames (P : Program) : Bool := P.funcs.all fun fn => fn.body.isNone || fn.name != "runtime.NumGoroutine"

theorem callFunc_run {P : Program} (hg : goodNames P = true) {f : FuncId} {fn : Func} {c : Code} (hf : P.funcs[f]? = some fn) (hb : fn.body = some c) (args : Array Value) (w : World) :
    (callFunc f args).run P w = .ok (.enter f args) w := by
  have : fn.name ≠ "runtime.NumGoroutine" := by
    simp only [goodNames, Array.all_eq_true_iff_forall_mem] at hg
    have := hg fn (Array.mem_of_getElem? hf)
    simpa [hb] using this
  simp [callFunc, program, Sem.run, hf, hb, this]

theorem map_rel {G : Gh} {σ : St} {w : World} {M n : Nat} {lam : Nat → Option Nat} {fr : Fr} {a : Act} (h : FrRel G σ w M n lam fr a) (l : Array Operand) :
    (l.toList.map (evP fr)).length = (l.map a.eval).size ∧ ∀ (i : Nat) (x : PV) (v : Value), (l.toList.map (evP fr))[i]? = some x → (l.map a.eval)[i]? = some v → RelV G x v := by
  refine ⟨by simp, fun i x v hx hv => ?_⟩
  simp only [List.getElem?_map, Option.map_eq_some_iff, Array.getElem?_map] at hx hv
  obtain ⟨o, ho, rfl⟩ := hx
  obtain ⟨o', ho', rfl⟩ := hv
  have : l.toList[i]? = l[i]? := by simp
  rw [this, ho'] at ho
  obtain rfl := Option.some.inj ho
  exact evP_rel h _

theorem append_rel {G : Gh} {xs ys : List PV} {vs us : Array Value} (h1 : xs.length = vs.size) (h2 : ∀ (i : Nat) (x : PV) (v : Value), xs[i]? = some x → vs[i]? = some v → RelV G x v)
    (k1 : ys.length = us.size) (k2 : ∀ (i : Nat) (x : PV) (v : Value), ys[i]? = some x → us[i]? = some v → RelV G x v) :
    (xs ++ ys).length = (vs ++ us).size ∧ ∀ (i : Nat) (x : PV) (v : Value), (xs ++ ys)[i]? = some x → (vs ++ us)[i]? = some v → RelV G x v := by
  refine ⟨by simp [h1, k1], fun i x v hx hv => ?_⟩
  rw [List.getElem?_append] at hx
  split at hx
  · rename_i hlt
    rw [Array.getElem?_append_left (by omega)] at hv
    exact h2 i x v hx hv
  · rename_i hlt
    rw [Array.getElem?_append_right (by omega)] at hv
    rw [h1] at hx
    exact k2 _ x v hx hv

theorem vBox_some {sz : Nat} {z z' : PV} (h : vBox sz z = some z') : z' = z ∧ ∃ zc, z.cells? = some zc ∧ zc.length = sz := by
  unfold vBox at h
  split at h
  · rename_i cs hc
    split at h
    · simp only [Option.some.injEq] at h
      exact ⟨h.symm, cs, hc, by assumption⟩
    · simp at h
  · simp at h

theorem row_one {G : Gh} {z : PV} {ve : Value} {zc : List PV} {sz : Nat} (rz : RelV G z ve) (hc : z.cells? = some zc) (hs : ve.cells.size = sz) : RowAt G ve.cells 0 sz [z] := by
  refine ⟨fun _ => ve, fun i x hx => ?_, fun i hi => ⟨hs, fun j v hj => ⟨(rz.cells hc).2.2 j v hj, ?_⟩⟩⟩
  · cases i with
    | zero => simp at hx; subst hx; exact rz
    | succ i => simp at hx
  · simp at hi
    subst hi
    simpa using hj

section
variable {P : Program} {N : Base} {call : CallP} {G₀ : Gh} {σ₀ : St} {w₀ : World} {n : Nat} {locs : List Nat} {clean strict : Bool} {o : Oper} {fr : Fr} {σ : St} {a : Act} {w : World}
  {K : Fr → St → Prop} {X : PV → Fr → St → Prop} {next : Act → World → Prop} {Q : Exit → Act → World → Prop}

set_option maxHeartbeats 1000000 in
/-- An operation that leaves a value alone. -/
theorem opV_sound {G : Gh} {lam : Nat → Option Nat} {M : Nat} {K : EV → St → Prop} {X : PV → St → Prop} (hg : goodNames P = true) (hcall : CallSound P N call) (hI : Inv G N σ w) (hF : FrRel G σ w M n lam fr a)
    (hnext : ∀ e v σ' w' G', K e σ' → Inv G' N σ' w' → Ext G σ w G' σ' w' → EvRel G' lam e v → next (a.put o.dst v) w')
    (hpan : ∀ x v σ' w' G', X x σ' → Inv G' N σ' w' → Ext G σ w G' σ' w' → RelV G' x v → Q (.panic [{ v, recovered := false }]) a w')
    (h : opV (algP call) P clean strict o fr σ K X) : o.wp P a w next Q := by
  obtain ⟨dst, op, type, pos, after, guard⟩ := o
  have fin : ∀ {e : EV} {v : Value} {σ' : St} {w' : World} {G' : Gh}, (execOp a.eval ⟨dst, op, type, pos, after, guard⟩).run P w = .ok (.value v) w' → Inv G' N σ' w' → Ext G σ w G' σ' w' → EvRel G' lam e v → K e σ' → Oper.wp P ⟨dst, op, type, pos, after, guard⟩ a w next Q := by
    intro e v σ' w' G' hrun hI' hE' hv hK
    unfold Oper.wp
    rw [hrun]
    exact hnext e v σ' w' G' hK hI' hE' hv
  have val : ∀ {x : EV} {v : Value}, (execOp a.eval ⟨dst, op, type, pos, after, guard⟩).run P w = .ok (.value v) w → EvRel G lam x v → K x σ → Oper.wp P ⟨dst, op, type, pos, after, guard⟩ a w next Q :=
    fun hrun hv hK => fin hrun hI (.refl _ _ _) hv hK
  cases op with
  | move x => exact val (by simp [execOp]) (ev_rel hF x) h
  | assign x => exact val (by simp [execOp]) (ev_rel hF x) h
  | pick c x y =>
    obtain ⟨r, hr, hK⟩ := bindO_some h
    have rc := evP_rel hF c
    unfold vPick at hr
    split at hr
    · rename_i hc
      rw [hc] at rc
      simp only [Option.some.injEq] at hr
      subst hr
      exact val (by simp [execOp, rc.bool_inv, asBool]) (show EvRel G lam (.v _) _ from evP_rel hF x) hK
    · rename_i hc
      rw [hc] at rc
      simp only [Option.some.injEq] at hr
      subst hr
      exact val (by simp [execOp, rc.bool_inv, asBool]) (show EvRel G lam (.v _) _ from evP_rel hF y) hK
    · simp at hr
  | build t parts =>
    obtain ⟨pl, hpl, h⟩ := bindO_some h
    obtain ⟨ps, hps, h⟩ := bindO_some h
    obtain ⟨z, hz, h⟩ := bindO_some h
    split at h
    · rename_i zs
      obtain ⟨cs, hcs, hK⟩ := bindO_some h
      obtain ⟨v, h1, h2⟩ := build_sound (P := P) (G := G) w (ρ := a.eval) hpl hps hz (fun x => evP_rel hF x) hcs
      exact val (by simp only [execOp, Sem.run_bind, h1, Result.andThen_ok, Sem.run_pure]) (show EvRel G lam (.v _) _ from h2) hK
    · exact h.elim
  | buildSlice t k parts =>
    obtain ⟨e, he, h⟩ := bindO_some h
    obtain ⟨sz, hsz, h⟩ := bindO_some h
    obtain ⟨z, hz, h⟩ := bindO_some h
    split at h
    · rename_i hh
      obtain ⟨z', hzb, h⟩ := bindO_some h
      obtain ⟨xs, hxs, hK⟩ := bindO_some h
      obtain ⟨v, cells, h1, h2⟩ := buildSl_sound (P := P) w (ρ := a.eval) (f := evP fr) hI he hsz hz hh.1 hh.2 hzb (fun x => evP_rel hF x) hxs
      obtain ⟨p1, p2, p3⟩ := imm_sound hI cells e
      exact fin (by simp only [execOp, Sem.run_bind, h1, Result.andThen_ok, Sem.run_pure]) p1 p2 (show EvRel _ lam (.v _) _ from h2) hK
    · exact h.elim
  | load t x =>
    obtain ⟨ag, hag, h⟩ := bindO_some h
    obtain ⟨sz, hsz, h⟩ := bindO_some h
    cases he : evE fr x with
    | loc s off =>
      rw [he] at h
      cases clean with
      | true => exact h.elim
      | false =>
      obtain ⟨r, hr, hK⟩ := bindO_some h
      obtain ⟨B, hl, hx⟩ := evE_loc hF he
      obtain ⟨_, _, _, cs, el, ve, hh, hcs, rl, h1⟩ := hF.loc s B hl
      obtain ⟨v, q1, q2⟩ := load_part (P := P) (w := w) (B := B) (O := 0) hag hsz rl (fun j u hu => by simp [World.cell?, hh, ← hcs, hu]) hr
      rw [Nat.zero_add] at q1
      exact val (by simp only [execOp, hx, Instr.loadAt, Instr.sureAddr, Sem.run_bind, Sem.run_pure, q1, Result.andThen_ok]) (show EvRel G lam (.v _) _ from q2) hK
    | v p =>
      rw [he] at h
      obtain ⟨r, hr, hK⟩ := bindO_some h
      obtain ⟨v, q1, q2⟩ := load_sound (P := P) w hI hag hsz (evE_v hF he) (vLoad_rd hr)
      exact val (by simp only [execOp, Sem.run_bind, q1, Result.andThen_ok, Sem.run_pure]) (show EvRel G lam (.v _) _ from q2) hK
  | nilCheck x =>
    cases he : evE fr x with
    | loc s off =>
      simp only [opV, he] at h
      obtain ⟨B, hl, hx⟩ := evE_loc hF he
      exact val (x := .loc s off) (by simp [execOp, hx]) ⟨B, hl, rfl⟩ h
    | v p =>
      simp only [opV, he] at h
      obtain ⟨r, hr, hK⟩ := bindO_some h
      have rp := evE_v hF he
      unfold vNil at hr
      generalize hv : a.eval x = v at rp
      have rp' := rp
      cases rp with
      | ptr b g i off B O z n hm =>
        simp only [Option.some.injEq] at hr
        subst hr
        exact val (x := .v _) (by simp [execOp, hv]) rp' hK
      | eptr e off B O ve re hc =>
        simp only [Option.some.injEq] at hr
        subst hr
        exact val (x := .v _) (by simp [execOp, hv]) rp' hK
      | func f cs vs h1 h2 =>
        simp only [Option.some.injEq] at hr
        subst hr
        exact val (x := .v _) (by simp [execOp, hv]) rp' hK
      | _ => simp at hr
  | binOp op t x y yt =>
    obtain ⟨r, hr, hK⟩ := bindO_some h
    obtain ⟨v, h1, h2⟩ := vBin_sound (P := P) (G := G) w (xo := x) (yo := y) (evP_rel hF x) (evP_rel hF y) hr
    simp only [Sem.run_bind] at h1
    exact val (by simp only [execOp, Sem.run_bind, h1, Result.andThen_ok, Sem.run_pure]) (show EvRel G lam (.v _) _ from h2) hK
  | unOp op t x =>
    obtain ⟨r, hr, hK⟩ := bindO_some h
    obtain ⟨v, h1, h2⟩ := vUn_sound (P := P) (G := G) w (evP_rel hF x) hr
    exact val (by simp only [execOp, Sem.run_bind, h1, Result.andThen_ok, Sem.run_pure]) (show EvRel G lam (.v _) _ from h2) hK
  | convert s d x =>
    obtain ⟨ds, hds, h⟩ := bindO_some h
    obtain ⟨k, hk, h⟩ := bindO_some h
    obtain ⟨r, hr, hK⟩ := bindO_some h
    have rx := evP_rel hF x
    unfold vConv at hr
    split at hr
    · rename_i k' m hx
      rw [hx] at rx
      simp only [Option.some.injEq] at hr
      subst hr
      have hu : P.underlying d = some (.int k) := by
        unfold intOf? at hk
        split at hk <;> simp_all
      exact val (by simp only [execOp, convert, rx.int_inv, Sem.run_bind, run_underlying hds, run_underlying hu, Result.andThen_ok, Conv.intToInt, Sem.run_pure]) (show EvRel G lam (.v _) _ from .int _ _) hK
    · simp at hr
  | makeFunc fn first caps =>
    cases fn with
    | func f =>
      simp only [opV] at h
      split at h
      · rename_i hfirst
        obtain rfl : first = #[] := Array.eq_empty_of_size_eq_zero hfirst
        obtain ⟨m1, m2⟩ := map_rel hF caps
        exact val (x := .v _) (by simp [execOp, Instr.makeFunc]) (RelV.func f _ _ m1 m2) h
      · exact h.elim
    | _ => exact h.elim
  | makeSlice t l c =>
    obtain ⟨e, he, h⟩ := bindO_some h
    obtain ⟨sz, hsz, h⟩ := bindO_some h
    obtain ⟨by_, hby, h⟩ := bindO_some h
    obtain ⟨z, hz, h⟩ := bindO_some h
    split at h
    · rename_i hh
      obtain ⟨r, hr, hK⟩ := bindO_some h
      obtain ⟨v, w', G', q1, q2, q3, q4⟩ := makeSl_sound (P := P) w hI he hsz hby hz hh.1 hh.2 (evP_rel hF l) (evP_rel hF c) hr
      exact fin (by simp only [execOp, Sem.run_bind, q1, Result.andThen_ok, Sem.run_pure]) q2 q3 (show EvRel G' lam (.v _) _ from q4) hK
    · exact h.elim
  | slice t x lo hi mx =>
    simp only [opV] at h
    have opt : ∀ (q : Option Operand) (p : PV), q.map (evP fr) = some p → ∃ v, q.map a.eval = some v ∧ RelV G p v := by
      intro q p hq
      cases q with
      | none => simp at hq
      | some q => simp at hq; subst hq; exact ⟨_, rfl, evP_rel hF q⟩
    have optn : ∀ (q : Option Operand), q.map (evP fr) = none → q.map a.eval = none := by
      intro q hq
      cases q with
      | none => rfl
      | some q => simp at hq
    cases mx with
    | some m => exact h.elim
    | none =>
      simp only [Option.isSome_none, Bool.false_eq_true, if_false] at h
      split at h
      · rename_i hs
        obtain ⟨r, hr, hK⟩ := bindO_some h
        have hu : P.underlying t = some .string := by unfold isStr at hs; split at hs <;> simp_all
        obtain ⟨v, q1, q2⟩ := subStr_sound (P := P) w hu (evP_rel hF x) (opt lo) (optn lo) (opt hi) (optn hi) hr
        exact val (x := .v _) (by simp only [execOp, Option.map_none, Sem.run_bind, q1, Result.andThen_ok, Sem.run_pure]) q2 hK
      · obtain ⟨e, he, h⟩ := bindO_some h
        obtain ⟨sz, hsz, h⟩ := bindO_some h
        obtain ⟨r, hr, hK⟩ := bindO_some h
        obtain ⟨v, q1, q2⟩ := subSl_sound (P := P) w he hsz (evP_rel hF x) (opt lo) (optn lo) (opt hi) (optn hi) hr
        exact val (x := .v _) (by simp only [execOp, Option.map_none, Sem.run_bind, q1, Result.andThen_ok, Sem.run_pure]) q2 hK
  | fieldAddr t x f =>
    obtain ⟨k, hk, h⟩ := bindO_some h
    cases he : evE fr x with
    | loc s off =>
      simp only [he] at h
      obtain ⟨B, hl, hx⟩ := evE_loc hF he
      exact val (x := .loc s (off + k)) (by simp only [execOp, hx, Sem.run_bind, fieldAt_run w hk, Result.andThen_ok, Sem.run_pure, addr_add]) ⟨B, hl, rfl⟩ h
    | v p =>
      simp only [he] at h
      obtain ⟨r, hr, hK⟩ := bindO_some h
      obtain ⟨v, q1, q2⟩ := field_sound (P := P) w hk (evE_v hF he) hr
      exact val (x := .v _) (by simp only [execOp, Sem.run_bind, q1, Result.andThen_ok, Sem.run_pure]) q2 hK
  | indexAddr t x i =>
    simp only [opV] at h
    split at h
    · rename_i e he
      obtain ⟨sz, hsz, h⟩ := bindO_some h
      obtain ⟨r, hr, hK⟩ := bindO_some h
      obtain ⟨v, q1, q2⟩ := index_sound (P := P) w he hsz (evP_rel hF x) (evP_rel hF i) hr
      exact val (x := .v _) (by simp only [execOp, Sem.run_bind, q1, Result.andThen_ok, Sem.run_pure]) q2 hK
    · exact h.elim
  | index t x i =>
    simp only [opV] at h
    split at h
    · rename_i hs
      obtain ⟨r, hr, hK⟩ := bindO_some h
      have hu : P.underlying t = some .string := by unfold isStr at hs; split at hs <;> simp_all
      obtain ⟨v, q1, q2⟩ := strAt_sound (P := P) w hu (evP_rel hF x) (evP_rel hF i) hr
      exact val (x := .v _) (by simp only [execOp, Sem.run_bind, q1, Result.andThen_ok, Sem.run_pure]) q2 hK
    · exact h.elim
  | extract x i =>
    obtain ⟨r, hr, hK⟩ := bindO_some h
    have rx := evP_rel hF x
    unfold vExtract at hr
    split at hr
    · rename_i vs hx
      rw [hx] at rx
      cases hv : a.eval x <;> rw [hv] at rx <;> cases rx
      rename_i us h1 h2
      obtain ⟨u, hu, ru⟩ := agg_get h1 h2 i r hr
      exact val (x := .v _) (by simp [execOp, Instr.extract, hv, hu]) ru hK
    · simp at hr
  | makeInterface t x =>
    simp only [opV] at h
    split at h
    · exact h.elim
    · exact h.elim
    · rename_i d hni hu
      refine val (x := .v _) ?_ (RelV.iface t _ _ (evP_rel hF x)) h
      simp only [execOp, Instr.makeInterface, Sem.run_bind, run_underlying hu, Result.andThen_ok]
      cases d <;> first | rfl | exact absurd rfl (hni _)
  | panic x =>
    simp only [opV] at h
    have rx := evP_rel hF x
    split at h
    · rename_i t v hx
      rw [hx] at rx
      cases hv : a.eval x <;> rw [hv] at rx <;> cases rx
      rename_i u ru
      unfold Oper.wp
      have hrun : (execOp a.eval ⟨dst, .panic x, type, pos, after, guard⟩).run P w = .halt (.panic (.iface t u)) w := by
        simp [execOp, Instr.panic, hv, goPanic]
      rw [hrun]
      exact hpan _ _ _ _ _ h hI (.refl _ _ _) (.iface t v u ru)
    · exact h.elim
  | call c =>
    obtain ⟨callee, args, argTypes⟩ := c
    cases callee with
    | invoke r m => exact h.elim
    | builtin b =>
      cases b with
      | len =>
        simp only [opV] at h
        split at h
        · rename_i x t hargs htys
          obtain ⟨k, hk, h⟩ := bindO_some h
          obtain ⟨r, hr, hK⟩ := bindO_some h
          obtain rfl : args = #[x] := by apply Array.ext'; simpa using hargs
          obtain rfl : argTypes = #[t] := by apply Array.ext'; simpa using htys
          obtain ⟨v, q1, q2⟩ := len_sound (P := P) w (ty := type) hI (evP_rel hF x) hk (vLen_rd hr)
          refine val (x := .v _) ?_ q2 hK
          simp only [execOp, resolve, Sem.run_bind, Sem.run_pure, Result.andThen_ok, invoke, builtin, List.map_toArray, List.map_cons, List.map_nil]
          rw [q1]
          rfl
        · exact h.elim
      | append =>
        simp only [opV] at h
        split at h
        · rename_i x y t t2 hargs htys
          obtain ⟨e, he, h⟩ := bindO_some h
          obtain ⟨sz, hsz, h⟩ := bindO_some h
          obtain ⟨by_, hby, h⟩ := bindO_some h
          obtain ⟨z, hz, h⟩ := bindO_some h
          obtain ⟨z', hzb, h⟩ := bindO_some h
          split at h
          · rename_i hh
            obtain ⟨r, hr, hK⟩ := bindO_some h
            obtain rfl : args = #[x, y] := by apply Array.ext'; simpa using hargs
            obtain rfl : argTypes = #[t, t2] := by apply Array.ext'; simpa using htys
            obtain ⟨r1, r2⟩ := r
            obtain ⟨v, w', G', q1, q2, q3, q4⟩ := append_sound (P := P) w (ty := type) hI he hh.2.2.2 hsz hby hz hzb hh.1 hh.2.1 hh.2.2.1 (evP_rel hF x) (evP_rel hF y) hr
            refine fin ?_ q2 q3 (show EvRel G' lam (.v _) _ from q4) hK
            simp only [execOp, resolve, Sem.run_bind, Sem.run_pure, Result.andThen_ok, invoke, builtin, List.map_toArray, List.map_cons, List.map_nil]
            rw [q1]
            rfl
          · exact h.elim
        · exact h.elim
      | min =>
        simp only [opV] at h
        split at h
        · rename_i x y hargs
          obtain ⟨r, hr, hK⟩ := bindO_some h
          obtain rfl : args = #[x, y] := by apply Array.ext'; simpa using hargs
          have rx := evP_rel hF x
          have ry := evP_rel hF y
          unfold vMin at hr
          split at hr
          · rename_i k p k' q hx hy
            split at hr
            · rename_i hk
              subst hk
              simp only [Option.some.injEq] at hr
              subst hr
              rw [hx] at rx
              rw [hy] at ry
              refine val (x := .v _) (v := .int k (if q < p then q else p)) ?_ (.int _ _) hK
              simp only [execOp, resolve, Sem.run_bind, Sem.run_pure, Result.andThen_ok, invoke, builtin, List.map_toArray, List.map_cons, List.map_nil, rx.int_inv, ry.int_inv]
              rfl
            · cases hr
          · cases hr
        · exact h.elim
      | max =>
        simp only [opV] at h
        split at h
        · rename_i x y hargs
          obtain ⟨r, hr, hK⟩ := bindO_some h
          obtain rfl : args = #[x, y] := by apply Array.ext'; simpa using hargs
          have rx := evP_rel hF x
          have ry := evP_rel hF y
          unfold vMax at hr
          split at hr
          · rename_i k p k' q hx hy
            split at hr
            · rename_i hk
              subst hk
              simp only [Option.some.injEq] at hr
              subst hr
              rw [hx] at rx
              rw [hy] at ry
              refine val (x := .v _) (v := .int k (if p < q then q else p)) ?_ (.int _ _) hK
              simp only [execOp, resolve, Sem.run_bind, Sem.run_pure, Result.andThen_ok, invoke, builtin, List.map_toArray, List.map_cons, List.map_nil, rx.int_inv, ry.int_inv]
              rfl
            · cases hr
          · cases hr
        · exact h.elim
      | delete =>
        simp only [opV] at h
        split at h
        · rename_i m k t t2 hargs htys
          obtain ⟨⟨kt, et⟩, h1, h⟩ := bindO_some h
          obtain ⟨ek, h2, h⟩ := bindO_some h
          obtain ⟨σ', h3, hK⟩ := bindO_some h
          obtain rfl : args = #[m, k] := by apply Array.ext'; simpa using hargs
          obtain rfl : argTypes = #[t, t2] := by apply Array.ext'; simpa using htys
          obtain ⟨w', G', q1, q2, q3⟩ := delete_sound (P := P) (w := w) (t2 := t2) (ty := type) hI h1 h2 (evP_rel hF m) (evP_rel hF k) h3
          refine fin ?_ q2 q3 (show EvRel G' lam (.v _) _ from RelV.tuple [] #[] rfl (by simp)) hK
          simp only [execOp, resolve, Sem.run_bind, Sem.run_pure, Result.andThen_ok, invoke, builtin, List.map_toArray, List.map_cons, List.map_nil]
          rw [q1]
          rfl
        · exact h.elim
      | _ => exact h.elim
    | value f =>
      simp only [opV, callG] at h
      have rf := evP_rel hF f
      split at h
      · rename_i fid caps hfv
        rw [hfv] at rf
        cases hv : a.eval f <;> rw [hv] at rf <;> cases rf
        rename_i vs hl hr
        split at h
        · rename_i fn hfn
          split at h
          · rename_i c hc
            have hrun : (execOp a.eval ⟨dst, .call ⟨.value f, args, argTypes⟩, type, pos, after, guard⟩).run P w = .ok (.enter fid (args.map a.eval ++ vs)) w := by
              simp only [execOp, resolve, hv, Deferred.ofValue, Sem.run_bind, Sem.run_pure, Result.andThen_ok, invoke, Array.empty_append]
              exact callFunc_run hg hfn hc _ _
            obtain ⟨m1, m2⟩ := map_rel hF args
            obtain ⟨n1, n2⟩ := append_rel m1 m2 hl hr
            unfold Oper.wp
            rw [hrun]
            unfold callG.callK at h
            refine (hcall _ _ _ _ h G w _ hI n1 n2).mono ?_
            rintro e w' ⟨G', σ', r, hR, hI', hE', hm⟩
            cases clean with
            | true =>
              obtain ⟨hσ, hR⟩ := hR
              subst hσ
              cases r with
              | ret x =>
                cases e with
                | returned v => exact hnext _ _ _ _ _ hR hI' hE' hm
                | _ => exact hm.elim
              | pan x => exact hR.elim
            | false =>
              cases r with
              | ret x =>
                cases e with
                | returned v => exact hnext _ _ _ _ _ hR hI' hE' hm
                | _ => exact hm.elim
              | pan x =>
                cases e with
                | panicked chain =>
                  obtain ⟨v, rv, rfl⟩ := hm
                  exact hpan _ _ _ _ _ hR hI' hE' rv
                | _ => exact hm.elim
          · obtain ⟨v, hv', hK⟩ := bindO_some h
            simp [vExt] at hv'
        · exact h.elim
      · exact h.elim
  | makeMap t r =>
    simp only [opV] at h
    cases r with
    | some q => exact h.elim
    | none =>
      simp only [Option.isSome_none, Bool.false_eq_true, if_false] at h
      obtain ⟨v, w', G', q1, q2, q3, q4⟩ := makeMap_sound (P := P) (w := w) (t := t) hI
      exact fin (by simp only [execOp, Option.map_none, Sem.run_bind, q1, Result.andThen_ok, Sem.run_pure]) q2 q3 (show EvRel G' lam (.v _) _ from q4) h
  | lookup t x i ok =>
    simp only [opV] at h
    obtain ⟨ke, h1, h⟩ := bindO_some h
    obtain ⟨ek, h2, h⟩ := bindO_some h
    obtain ⟨z, h3, h⟩ := bindO_some h
    obtain ⟨r, h4, hK⟩ := bindO_some h
    obtain ⟨v, q1, q2⟩ := lookup_sound (P := P) (w := w) hI h1 h2 h3 (evP_rel hF x) (evP_rel hF i) (vLookup_rd h4)
    exact val (by simp only [execOp, Sem.run_bind, q1, Result.andThen_ok, Sem.run_pure]) (show EvRel G lam (.v _) _ from q2) hK
  | mapUpdate t m k x =>
    simp only [opV] at h
    obtain ⟨ke, h1, h⟩ := bindO_some h
    obtain ⟨ek, h2, h⟩ := bindO_some h
    obtain ⟨σ', h3, hK⟩ := bindO_some h
    obtain ⟨w', G', q1, q2, q3⟩ := mapUpdate_sound (P := P) (w := w) hI h1 h2 (evP_rel hF m) (evP_rel hF k) (evP_rel hF x) h3
    unfold Oper.wp
    have hrun : (execOp a.eval ⟨dst, .mapUpdate t m k x, type, pos, after, guard⟩).run P w = .ok .skip w' := by
      simp only [execOp, Sem.run_bind, q1, Result.andThen_ok, Sem.run_pure]
    rw [hrun]
    exact hnext (.v .any) undef σ' w' G' hK q2 q3 (.any _)
  | range t x =>
    simp only [opV] at h
    obtain ⟨ke, h1, h⟩ := bindO_some h
    obtain ⟨r, h2, hK⟩ := bindO_some h
    obtain ⟨v, w', G', q1, q2, q3, q4⟩ := range_sound (P := P) (w := w) hI h1 (evP_rel hF x) h2
    exact fin (by simp only [execOp, Sem.run_bind, q1, Result.andThen_ok, Sem.run_pure]) q2 q3 (show EvRel G' lam (.v _) _ from q4) hK
  | next x s =>
    simp only [opV] at h
    cases s with
    | true => exact h.elim
    | false =>
      simp only [Bool.false_eq_true, if_false] at h
      obtain ⟨l, h1, h⟩ := bindO_some h
      obtain ⟨v, w', y, σ', hm, q1, q2, q3, q4⟩ := next_sound (P := P) (w := w) (ty := type) hI (evP_rel hF x) h1
      exact fin (by simp only [execOp, Sem.run_bind, q1, Result.andThen_ok, Sem.run_pure]) q2 q3 (show EvRel G lam (.v _) _ from q4) (h _ hm)
  | entry x =>
    simp only [opV] at h
    obtain ⟨r, h1, hK⟩ := bindO_some h
    obtain ⟨v, q1, q2⟩ := entry_sound (P := P) (w := w) hI (evP_rel hF x) (vEntry_rd h1)
    exact val (by simp only [execOp, Sem.run_bind, q1, Result.andThen_ok, Sem.run_pure]) (show EvRel G lam (.v _) _ from q2) hK
  | typeAssert x t0 t ok =>
    simp only [opV] at h
    split at h
    · rename_i hn
      obtain ⟨z, h1, h⟩ := bindO_some h
      obtain ⟨r, h2, hK⟩ := bindO_some h
      obtain ⟨v, q1, q2⟩ := assert_sound (P := P) (w := w) (t0 := t0) hn h1 (evP_rel hF x) h2
      exact val (by simp only [execOp, Sem.run_bind, q1, Result.andThen_ok, Sem.run_pure]) (show EvRel G lam (.v _) _ from q2) hK
    · exact h.elim
  | _ => exact h.elim


/-- An operation that ends in a value. -/
theorem fin_val {G G' : Gh} {lam : Nat → Option Nat} {x : EV} {v : Value} {σ' : St} {w' : World} (hF : FrRel G σ w (max N.n w₀.heap.size) n lam fr a) (hE : Ext G₀ σ₀ w₀ G σ w)
    (hnext : ∀ fr' σ' a' w', K fr' σ' → Rel G₀ σ₀ w₀ N n fr' σ' a' w' → next a' w') (hd : ∀ d, o.dst = some d → d < n)
    (hrun : (execOp a.eval o).run P w = .ok (.value v) w') (hI' : Inv G' N σ' w') (hE' : Ext G σ w G' σ' w') (hv : EvRel G' lam x v) (hK : K (fr.put o.dst x) σ') : o.wp P a w next Q := by
  unfold Oper.wp
  rw [hrun]
  exact hnext _ _ _ _ hK ⟨G', lam, hI', (hF.step hE').put hd hv, hE.trans hE'⟩

set_option maxHeartbeats 1000000 in
theorem op_sound (hg : goodNames P = true) (hcall : CallSound P N call) (hrel : Rel G₀ σ₀ w₀ N n fr σ a w) (hd : ∀ d, o.dst = some d → d < n)
    (hnext : ∀ fr' σ' a' w', K fr' σ' → Rel G₀ σ₀ w₀ N n fr' σ' a' w' → next a' w')
    (hpan : ∀ x v fr' σ' w', X x fr' σ' → (∃ G lam, Inv G N σ' w' ∧ FrRel G σ' w' (max N.n w₀.heap.size) n lam fr' a ∧ Ext G₀ σ₀ w₀ G σ' w' ∧ RelV G x v) → Q (.panic [{ v, recovered := false }]) a w')
    (h : opC (algP call) P locs clean strict o fr σ K X) : o.wp P a w next Q := by
  obtain ⟨G, lam, hI, hF, hE⟩ := hrel
  obtain ⟨dst, op, type, pos, after, guard⟩ := o
  have other : opV (algP call) P clean strict ⟨dst, op, type, pos, after, guard⟩ fr σ (fun e σ => K (fr.put dst e) σ) (fun v σ => X v fr σ) → Oper.wp P ⟨dst, op, type, pos, after, guard⟩ a w next Q := fun h =>
    opV_sound hg hcall hI hF (fun e v σ' w' G' hK hI' hE' hv => hnext _ _ _ _ hK ⟨G', lam, hI', (hF.step hE').put hd hv, hE.trans hE'⟩)
      (fun x v σ' w' G' hX hI' hE' hv => hpan _ _ _ _ _ hX ⟨G', lam, hI', hF.step hE', hE.trans hE', hv⟩) h
  cases op with
  | alloc t =>
    obtain ⟨sz, hsz, h1⟩ := bindO_some h
    obtain ⟨z, hz, h2⟩ := bindO_some h1
    obtain ⟨z', hzb, h3⟩ := bindO_some h2
    clear h h1 h2
    have h := h3
    clear h3
    obtain ⟨zv, hzv, hzr⟩ := zeroOf_run (P := P) w hz
    have rz : RelV G z zv := hzr ▸ rel_ofVal G zv
    obtain ⟨rfl, zc, hc, hcl⟩ := vBox_some hzb
    have hzs : zv.cells.size = sz := by have := (rz.cells hc).1; omega
    have hrun : (execOp a.eval ⟨dst, .alloc t, type, pos, after, guard⟩).run P w = .ok (.value (.pointer (some ⟨w.heap.size, 0, none⟩))) (World.more w (.cells zv.cells t)) := by
      simp only [execOp, Instr.alloc, Sem.run_bind, hzv, Result.andThen_ok, newVar, newRow, newObj, Sem.run_new, Sem.run_pure, Sem.run_pure']
      rfl
    cases hdst : dst with
    | none => subst hdst; exact h.elim
    | some d =>
      subst hdst
      simp only at h
      split at h
      · obtain ⟨lam', q1, q2, q3⟩ := newLoc_sound (el := t) hI hF (Nat.max_le.2 ⟨hI.big, hE.size⟩) (hd d rfl) rz hc
        unfold Oper.wp
        rw [hrun]
        exact hnext _ _ _ _ h ⟨G, lam', q1, q2, hE.trans q3⟩
      · split at h
        · rename_i hpos
          obtain ⟨p1, p2, p3⟩ := push_sound hI sz [z'] zv.cells t hpos (by simp [hzs]) (row_one rz hc hzs)
          exact fin_val hF hE hnext hd hrun p1 p2 (by
            show RelV _ _ _
            have := RelV.ptr (G := G.newAt σ.length 0 (w.heap.size, 0, sz, zv.cells.size)) σ.length 0 0 0 w.heap.size 0 sz _ (Gh.newAt_at _ _ _ _)
            simpa using this) h
        · exact h.elim
  | box t x =>
    obtain ⟨z, hz, h⟩ := bindO_some h
    have rx := evP_rel hF x
    obtain ⟨zc, hc, hz1⟩ : ∃ zc, (evP fr x).cells? = some zc ∧ z = (zc.length, evP fr x) := by
      unfold opC.vBoxAny at hz
      split at hz
      · rename_i cs hcs
        simp only [Option.some.injEq] at hz
        exact ⟨cs, hcs, hz.symm⟩
      · simp at hz
    subst hz1
    have hzs : (a.eval x).cells.size = zc.length := (rx.cells hc).1.symm
    have hrun : (execOp a.eval ⟨dst, .box t x, type, pos, after, guard⟩).run P w = .ok (.value (.pointer (some ⟨w.heap.size, 0, none⟩))) (World.more w (.cells (a.eval x).cells t)) := by
      simp only [execOp, Instr.box, Sem.run_bind, Result.andThen_ok, newVar, newRow, newObj, Sem.run_new, Sem.run_pure, Sem.run_pure']
      rfl
    cases hdst : dst with
    | none => subst hdst; exact h.elim
    | some d =>
      subst hdst
      simp only at h
      split at h
      · obtain ⟨lam', q1, q2, q3⟩ := newLoc_sound (el := t) hI hF (Nat.max_le.2 ⟨hI.big, hE.size⟩) (hd d rfl) rx hc
        unfold Oper.wp
        rw [hrun]
        exact hnext _ _ _ _ h ⟨G, lam', q1, q2, hE.trans q3⟩
      · split at h
        · rename_i hpos
          obtain ⟨p1, p2, p3⟩ := push_sound hI zc.length [evP fr x] (a.eval x).cells t hpos (by simp [hzs]) (row_one rx hc hzs)
          exact fin_val hF hE hnext hd hrun p1 p2 (by
            show RelV _ _ _
            have := RelV.ptr (G := G.newAt σ.length 0 (w.heap.size, 0, zc.length, (a.eval x).cells.size)) σ.length 0 0 0 w.heap.size 0 zc.length _ (Gh.newAt_at _ _ _ _)
            simpa using this) h
        · exact h.elim
  | store t x y =>
    obtain ⟨sz, hsz, h⟩ := bindO_some h
    cases he : evE fr x with
    | loc s off =>
      rw [he] at h
      cases clean with
      | true => exact h.elim
      | false =>
      obtain ⟨z, hz, hK⟩ := bindO_some h
      obtain ⟨B, hl, hx⟩ := evE_loc hF he
      obtain ⟨w', q1, q2, q3, e1, e2, e3, e4, e5⟩ := setLoc_sound (P := P) hI hF (Nat.le_max_left _ _) hl hsz (evP_rel hF y) hz
      unfold Oper.wp
      have hrun : (execOp a.eval ⟨dst, .store t x y, type, pos, after, guard⟩).run P w = .ok .skip w' := by
        simp only [execOp, hx, Sem.run_bind, q1, Result.andThen_ok, Sem.run_pure]
      rw [hrun]
      obtain ⟨hM, hno, hi0, _⟩ := hF.loc s B hl
      refine hnext _ _ _ _ hK ⟨G, lam, q2, q3.put hd (show EvRel G lam (.v .any) _ from .any _), ?_⟩
      refine ⟨hE.le, e1.trans hE.os, e2.trans hE.tape, e3.trans hE.output, by rw [e4]; exact hE.size, fun k hk hn => ?_, hE.own, hE.imm, hE.len⟩
      rw [e5 k (by omega), hE.keep k hk hn]
    | v p =>
      rw [he] at h
      cases strict with
      | true => exact h.elim
      | false =>
      obtain ⟨σ', hs, hK⟩ := bindO_some h
      obtain ⟨w', q1, q2, q3, q4, q5⟩ := store_sound (P := P) hI hsz (evE_v hF he) (evP_rel hF y) hs
      unfold Oper.wp
      have hrun : (execOp a.eval ⟨dst, .store t x y, type, pos, after, guard⟩).run P w = .ok .skip w' := by
        simp only [execOp, Sem.run_bind, q1, Result.andThen_ok, Sem.run_pure]
      rw [hrun]
      exact hnext _ _ _ _ hK ⟨G, lam, q2, (hF.step q3).put hd (show EvRel G lam (.v .any) _ from .any _), hE.trans q3⟩
  | defer q =>
    obtain ⟨callee, args, argTypes⟩ := q
    simp only [opC] at h
    split at h
    · rename_i f hargs
      split at h
      · rename_i g caps hf
        have rf := evP_rel hF f
        rw [hf] at rf
        cases hv : a.eval f <;> rw [hv] at rf <;> cases rf
        rename_i vs hl hr
        obtain rfl : args = #[] := by apply Array.ext'; simpa using hargs
        unfold Oper.wp
        have hrun : (execOp a.eval ⟨dst, .defer ⟨.value f, #[], argTypes⟩, type, pos, after, guard⟩).run P w = .ok (.defer { target := .fn (.func g) vs, args := #[] }) w := by
          simp [execOp, resolve, hv, Deferred.ofValue, Sem.run_bind, Sem.run_pure, Result.andThen_ok]
        rw [hrun]
        have hF' := hF.put (dst := dst) hd (show EvRel G lam (.v .any) undef from .any _)
        refine hnext _ _ _ _ h ⟨G, lam, hI, ⟨?_, fun s B hs => by
          have := hF.loc s B hs
          cases dst <;> exact this, hF.inj, ?_, ?_⟩, hE⟩
        · intro t
          have := hF'.env t
          cases dst <;> exact this
        · have := hF'.size
          cases dst <;> exact this
        · have hdf : (fr.put dst (.v .any)).dfr = fr.dfr := by cases dst <;> rfl
          have := DfrRel.cons g caps vs fr.dfr a.defers hl hr hF.dfr
          cases dst <;> exact this
      · exact h.elim
    · exact h.elim
  | _ => exact other h

end
end Go.Abs
