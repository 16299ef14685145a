/- Orders: any order may be taken in the text's. -/
import Derived.Test.YtiniifbmeobmgaaGreatDoorAbsDraw2
set_option linter.unusedVariables false
set_option linter.unusedSimpArgs false
namespace Go.Abs

section
variable {P : Program} {locs : List Nat} {call : CallP}

theorem vLoad_ext {ag : Bool} {sz : Nat} {p x : PV} {σ g : St} (h : vLoad ag sz p σ = some x) : vLoad ag sz p (σ ++ g) = some x := by
  cases p with
  | ptr b gg i off =>
    simp only [vLoad] at h ⊢
    cases hb : σ[b]? with
    | none => simp [hb] at h
    | some k =>
      rw [hb] at h
      rw [List.getElem?_append_left (List.getElem?_eq_some_iff.1 hb).1, hb]
      exact h
  | _ => exact h

theorem vLen_ext {k : LenK} {x r : PV} {σ g : St} (h : vLen k x σ = some r) : vLen k x (σ ++ g) = some r := by
  cases k <;> cases x <;> first | exact h | skip
  rename_i b
  simp only [vLen] at h ⊢
  cases hb : σ[b]? with
  | none => simp [hb] at h
  | some k =>
    rw [hb] at h
    rw [List.getElem?_append_left (List.getElem?_eq_some_iff.1 hb).1, hb]
    exact h

theorem vLookup_ext {k : EK1} {z m key r : PV} {ok : Bool} {σ g : St} (h : vLookup k z ok m key σ = some r) : vLookup k z ok m key (σ ++ g) = some r := by
  cases m with
  | mref b =>
    simp only [vLookup] at h ⊢
    cases hb : σ[b]? with
    | none => simp [hb] at h
    | some k =>
      rw [hb] at h
      rw [List.getElem?_append_left (List.getElem?_eq_some_iff.1 hb).1, hb]
      exact h
  | _ => exact h

theorem vEntry_ext {p r : PV} {σ g : St} (h : vEntry p σ = some r) : vEntry p (σ ++ g) = some r := by
  unfold vEntry at h ⊢
  split at h
  · rename_i b
    cases hb : σ[b]? with
    | none => simp [hb] at h
    | some k =>
      rw [hb] at h
      simp only [List.getElem?_append_left (List.getElem?_eq_some_iff.1 hb).1, hb]
      split at h
      · rename_i mb n i left hk
        cases hk
        cases hm : σ[mb]? with
        | none => simp [hm] at h
        | some k' =>
          rw [hm] at h
          simp only [List.getElem?_append_left (List.getElem?_eq_some_iff.1 hm).1, hm]
          exact h
      · cases h
  · cases h

theorem pureV_still {c s : Bool} {o : Oper} {fr : Fr} {σ σ' : St} (hp : isP o = true) (h : readsP o = false ∨ s = true) : pureV P c s o fr σ = pureV P c s o fr σ' := by
  rcases h with h | rfl
  · obtain ⟨dst, op, type, pos, after, guard⟩ := o
    cases op with
    | load => simp [readsP] at h
    | lookup => simp [readsP] at h
    | entry => simp [readsP] at h
    | call => simp [readsP] at h
    | move | assign | pick | build | buildSlice | nilCheck | binOp | unOp | convert | makeFunc | slice | fieldAddr | indexAddr | index | extract | makeInterface | typeAssert => rfl
    | _ => simp [isP] at hp
  · obtain ⟨dst, op, type, pos, after, guard⟩ := o
    cases op with
    | call q =>
      obtain ⟨callee, args, argTypes⟩ := q
      cases callee with
      | builtin b =>
        cases b with
        | len => rfl
        | min => rfl
        | max => rfl
        | _ => simp [isP] at hp
      | _ => simp [isP] at hp
    | load | lookup | entry | move | assign | pick | build | buildSlice | nilCheck | binOp | unOp | convert | makeFunc | slice | fieldAddr | indexAddr | index | extract | makeInterface | typeAssert => rfl
    | _ => simp [isP] at hp

theorem pureV_ext {c s : Bool} {o : Oper} {fr : Fr} {σ g : St} {e : EV} (hp : isP o = true) (h : pureV P c s o fr σ = some e) : pureV P c s o fr (σ ++ g) = some e := by
  cases s with
  | true => rw [pureV_still (σ' := σ) hp (.inr rfl)]; exact h
  | false =>
    cases hr : readsP o with
    | false => rw [pureV_still (σ' := σ) hp (.inl hr)]; exact h
    | true =>
      obtain ⟨dst, op, type, pos, after, guard⟩ := o
      cases op with
      | load t a =>
        simp only [pureV, opV, algO, rdOf] at h ⊢
        obtain ⟨ag, h1, h⟩ := bindO_some' h
        obtain ⟨sz, h2, h⟩ := bindO_some' h
        simp only [h1, h2, bindO]
        split at h
        · exact h
        · obtain ⟨x, h3, h⟩ := bindO_some' h
          rw [vLoad_ext h3]
          exact h
      | lookup t x i ok =>
        simp only [pureV, opV, algO, rdOf] at h ⊢
        obtain ⟨ke, h1, h⟩ := bindO_some' h
        obtain ⟨ek, h2, h⟩ := bindO_some' h
        obtain ⟨z, h3, h⟩ := bindO_some' h
        obtain ⟨y, h4, h⟩ := bindO_some' h
        simp only [h1, h2, h3, bindO, vLookup_ext h4]
        exact h
      | entry x =>
        simp only [pureV, opV, algO, rdOf] at h ⊢
        obtain ⟨y, h4, h⟩ := bindO_some' h
        simp only [bindO, vEntry_ext h4]
        exact h
      | call q =>
        obtain ⟨callee, args, argTypes⟩ := q
        cases callee with
        | builtin b =>
          cases b with
          | len =>
            simp only [pureV, opV, algO, rdOf] at h ⊢
            split at h
            · obtain ⟨k, h1, h⟩ := bindO_some' h
              obtain ⟨x, h2, h⟩ := bindO_some' h
              simp only [h1, bindO, vLen_ext h2]
              exact h
            · cases h
          | min => exact h
          | max => exact h
          | _ => simp [isP] at hp
        | _ => simp [isP] at hp
      | _ => simp [readsP] at hr

/-- What an operation that only leaves a value alone leaves, its guard looked at. -/
def valT (P : Program) (all : List Oper) (t : Task) (fr : Fr) (σ : St) : Option EV :=
  match t.o.guard with
  | none => pureV P t.clean t.strict t.o fr σ
  | some g => match all[g.1]? with
    | some oj => (match oj.dst with
      | some d => if guardable d t.o = true then
          (match gOk (fr.env d).pv g.2 with
          | some true => pureV P t.clean t.strict t.o fr σ
          | some false => some (.v (.tuple []))
          | none => none)
        else none
      | none => none)
    | none => none

theorem opC_isP {ρ : Type} {A : Alg ρ} {c s : Bool} {o : Oper} {fr : Fr} {σ : St} {K : Fr → St → ρ} {X : PV → Fr → St → ρ} (hp : isP o = true) :
    opC A P locs c s o fr σ K X = opV A P c s o fr σ (fun e σ => K (fr.put o.dst e) σ) (fun v σ => X v fr σ) := by
  obtain ⟨dst, op, type, pos, after, guard⟩ := o
  cases op with
  | alloc => simp [isP] at hp
  | box => simp [isP] at hp
  | store => simp [isP] at hp
  | defer => simp [isP] at hp
  | _ => rfl

theorem run1_val {all : List Oper} {t : Task} {fr : Fr} {σ : St} {K : Fr → St → Prop} {X : PV → Fr → St → Prop} (hp : isP t.o = true) :
    run1 call P locs all t fr σ K X ↔ ∃ e, valT P all t fr σ = some e ∧ K (fr.put t.o.dst e) σ := by
  unfold run1 valT
  cases t.o.guard with
  | none => simp only; rw [opC_isP hp]; exact opV_pure hp
  | some g =>
    simp only
    cases all[g.1]? with
    | none => simp
    | some oj =>
      simp only
      cases oj.dst with
      | none => simp
      | some d =>
        simp only
        split
        · cases hb : gOk (fr.env d).pv g.2 with
          | none => simp
          | some b =>
            cases b with
            | true => exact opV_pure hp
            | false => simp
        · simp

theorem operand_looks {ops : Array Oper} {o : Oper} {fr fr' : Fr} (h : ∀ d ∈ o.looksAt ops, fr.env d = fr'.env d) : ∀ x ∈ o.op.operands, evE fr x = evE fr' x := by
  intro x hx
  cases x with
  | tmp t =>
    refine h t ?_
    unfold Oper.looksAt
    exact List.mem_append_left _ (List.mem_filterMap.2 ⟨.tmp t, by simpa using hx, rfl⟩)
  | _ => rfl

theorem guard_looks {ops : Array Oper} {o oj : Oper} {g : Nat × Bool} {d : Nat} (hg : o.guard = some g) (hoj : ops.toList[g.1]? = some oj) (hd : oj.dst = some d) : d ∈ o.looksAt ops := by
  unfold Oper.looksAt
  refine List.mem_append_right _ ?_
  simp only [hg]
  have : ops[g.1]? = some oj := by simpa using hoj
  simp [this, hd]

theorem valT_congr {ops : Array Oper} {t : Task} {fr fr' : Fr} {σ : St} (h : ∀ d ∈ t.o.looksAt ops, fr.env d = fr'.env d) (hl : isLoad t.o = false ∨ t.clean = true ∨ fr.loc = fr'.loc) :
    valT P ops.toList t fr σ = valT P ops.toList t fr' σ := by
  have hv : pureV P t.clean t.strict t.o fr σ = pureV P t.clean t.strict t.o fr' σ := opV_congr (operand_looks h) hl
  unfold valT
  rw [hv]
  cases hg : t.o.guard with
  | none => rfl
  | some g =>
    simp only
    cases hoj : ops.toList[g.1]? with
    | none => rfl
    | some oj =>
      simp only
      cases hd : oj.dst with
      | none => rfl
      | some d =>
        simp only
        rw [h d (guard_looks hg hoj hd)]

theorem valT_state {all : List Oper} {t : Task} {fr : Fr} {σ σ' : St} {e : EV} (hp : isP t.o = true) (hs : readsP t.o = false ∨ t.strict = true ∨ σ' = σ ∨ ∃ g, σ' = σ ++ g) (h : valT P all t fr σ = some e) :
    valT P all t fr σ' = some e := by
  have hv : ∀ e, pureV P t.clean t.strict t.o fr σ = some e → pureV P t.clean t.strict t.o fr σ' = some e := by
    intro e he
    rcases hs with hs | hs | rfl | ⟨g, rfl⟩
    · rw [pureV_still (σ' := σ) hp (.inl hs)]; exact he
    · rw [pureV_still (σ' := σ) hp (.inr hs)]; exact he
    · exact he
    · exact pureV_ext hp he
  revert h
  unfold valT
  cases hg : t.o.guard with
  | none => exact hv e
  | some g =>
    simp only
    cases hoj : all[g.1]? with
    | none => exact fun h => h
    | some oj =>
      simp only
      cases hd : oj.dst with
      | none => exact fun h => h
      | some d =>
        simp only
        split
        · cases gOk (fr.env d).pv g.2 with
          | none => exact fun h => h
          | some b =>
            cases b with
            | true => exact hv e
            | false => exact fun h => h
        · exact fun h => h

/-- What an operation does to the store. -/
def effS (o : Oper) (c : Bool) (σ σ' : St) : Prop :=
  match o.op with
  | .call q => (match q.callee with
    | .value _ => c = true → σ' = σ
    | _ => True)
  | .makeSlice .. => ∃ g, σ' = σ ++ g
  | .makeMap .. => ∃ g, σ' = σ ++ g
  | _ => True

theorem opV_eff (hm : CallMono call) {c s : Bool} {o : Oper} {fr : Fr} {σ : St} {K : EV → St → Prop} {X : PV → St → Prop} (h : opV (algP call) P c s o fr σ K X) :
    opV (algP call) P c s o fr σ (fun e σ' => effS o c σ σ' ∧ K e σ') X := by
  have triv : (∀ σ', effS o c σ σ') → opV (algP call) P c s o fr σ (fun e σ' => effS o c σ σ' ∧ K e σ') X := fun ht => opV_mono hm (fun e σ' hk => ⟨ht σ', hk⟩) (fun _ _ hx => hx) h
  obtain ⟨dst, op, type, pos, after, guard⟩ := o
  cases op with
  | call q =>
    obtain ⟨callee, args, argTypes⟩ := q
    cases callee with
    | value f =>
      simp only [opV, callG] at h ⊢
      revert h
      cases evP fr f with
      | func f caps =>
        simp only
        cases P.funcs[f]? with
        | none => exact fun h => h
        | some fn =>
          simp only
          cases fn.body with
          | none =>
            intro h
            simp only at h ⊢
            revert h
            generalize vExt fn.name _ = r
            cases r with
            | none => exact fun h => h
            | some v => exact fun h => ⟨fun _ => rfl, h⟩
          | some b =>
            simp only [callG.callK]
            intro h
            refine hm.mono (fun r σ' hr => ?_) h
            cases c with
            | false =>
              cases r with
              | ret v => exact ⟨fun h => by simp at h, hr⟩
              | pan v => exact hr
            | true =>
              refine ⟨hr.1, ?_⟩
              cases r with
              | ret v => exact ⟨fun _ => rfl, hr.2⟩
              | pan v => exact hr.2
      | _ => exact fun h => h
    | _ => exact triv fun _ => trivial
  | makeMap t r =>
    simp only [opV] at h ⊢
    split at h
    · exact h.elim
    · rename_i hr
      rw [if_neg hr]
      exact ⟨⟨_, rfl⟩, h⟩
  | makeSlice t l k =>
    simp only [opV] at h ⊢
    revert h
    cases elemOf? P t with
    | none => exact fun h => h
    | some e =>
      simp only [bindO]
      cases szOf P e with
      | none => exact fun h => h
      | some sz =>
        simp only
        cases bytesOf P e with
        | none => exact fun h => h
        | some by_ =>
          simp only
          cases zeroOf P e with
          | none => exact fun h => h
          | some z =>
            simp only
            split
            · cases hv : vMakeSl sz by_ z (evP fr l) (evP fr k) σ with
              | none => exact fun h => h
              | some r =>
                simp only
                refine fun h => ⟨?_, h⟩
                unfold vMakeSl at hv
                split at hv
                · split at hv
                  · split at hv
                    · simp only [Option.some.injEq] at hv
                      subst hv
                      exact ⟨_, rfl⟩
                    · cases hv
                  · cases hv
                · cases hv
            · exact fun h => h
  | _ => exact triv fun _ => trivial

theorem run1_under (hm : CallMono call) {ops : Array Oper} {x y : Task} {fr : Fr} {σ : St} {e : EV} {K : Fr → St → Prop} {X : PV → Fr → St → Prop} (hX : ∀ v fr fr' σ, fr.noEnv = fr'.noEnv → X v fr σ → X v fr' σ)
    (hp : isP x.o = true) (hap : x.o.apart ops y.o = true) (he : effOk x y = true) (hv : valT P ops.toList x fr σ = some e)
    (h : run1 call P locs ops.toList y (fr.put x.o.dst e) σ K X) :
    run1 call P locs ops.toList y fr σ (fun fr' σ' => valT P ops.toList x fr' σ' = some e ∧ K (fr'.put x.o.dst e) σ') X := by
  obtain ⟨h1, h2, h3⟩ := Oper.apart_spec hap
  have look : ∀ d ∈ y.o.looksAt ops, (fr.put x.o.dst e).env d = fr.env d := fun d hd => Fr.put_env _ _ _ _ fun hx => h1 d hx hd
  have keep : ∀ (e' : EV) (σ' : St), (readsP x.o = false ∨ x.strict = true ∨ σ' = σ ∨ ∃ g, σ' = σ ++ g) → valT P ops.toList x (fr.put y.o.dst e') σ' = some e := by
    intro e' σ' hs
    rw [valT_congr (fr' := fr) (fun d hd => Fr.put_env _ _ _ _ fun hy => h3 d hy hd) (.inr (.inr (Fr.put_loc _ _ _)))]
    exact valT_state hp hs hv
  by_cases hy : isP y.o = true
  · rw [run1_val hy] at h ⊢
    obtain ⟨ey, hvy, hK⟩ := h
    rw [valT_congr (fr' := fr) look (.inr (.inr (Fr.put_loc _ _ _)))] at hvy
    refine ⟨ey, hvy, keep ey σ (.inr (.inr (.inl rfl))), ?_⟩
    rw [← Fr.put_comm _ _ _ h2]
    exact hK
  · have hst : ∀ σ', effS y.o y.clean σ σ' → (∀ t a v, y.o.op ≠ .store t a v) → (readsP x.o = false ∨ x.strict = true ∨ σ' = σ ∨ ∃ g, σ' = σ ++ g) := by
      intro σ' hs hns
      simp only [effOk, Bool.or_eq_true, hy, Bool.false_eq_true, false_or] at he
      unfold effS at hs
      split at he
      · rename_i q hq
        rw [hq] at hs
        simp only at hs
        split at he
        · rename_i f hf
          rw [hf] at hs
          simp only [Bool.or_eq_true, Bool.not_eq_true'] at he
          rcases he with (he | he) | he
          · exact .inr (.inr (.inl (hs he)))
          · exact .inr (.inl he)
          · exact .inl he
        · simp only [Bool.or_eq_true, Bool.not_eq_true'] at he
          rcases he with he | he
          · exact .inr (.inl he)
          · exact .inl he
        · simp at he
      · rename_i hq
        rw [hq] at hs
        exact .inr (.inr (.inr hs))
      · rename_i hq
        rw [hq] at hs
        exact .inr (.inr (.inr hs))
      · simp only [Bool.or_eq_true, Bool.not_eq_true'] at he
        rcases he with he | he
        · exact .inr (.inl he)
        · exact .inl he
      · rename_i hq
        exact absurd hq (hns _ _ _)
      · simp at he
    have hV : (∀ t a v, y.o.op ≠ .store t a v) → opV (algP call) P y.clean y.strict y.o (fr.put x.o.dst e) σ (fun e' σ' => K ((fr.put x.o.dst e).put y.o.dst e') σ') (fun v σ' => X v (fr.put x.o.dst e) σ') →
        opV (algP call) P y.clean y.strict y.o fr σ (fun e' σ' => valT P ops.toList x (fr.put y.o.dst e') σ' = some e ∧ K ((fr.put y.o.dst e').put x.o.dst e) σ') (fun v σ' => X v fr σ') := by
      intro hns hh
      rw [opV_congr (fr' := fr) (operand_looks look) (.inr (.inr (Fr.put_loc _ _ _)))] at hh
      refine opV_mono hm (fun e' σ' hk => ⟨keep e' σ' (hst σ' hk.1 hns), ?_⟩) (fun v σ' hx => hX _ _ _ _ (Fr.put_noEnv _ _ _) hx) (opV_eff hm hh)
      rw [← Fr.put_comm _ _ _ h2]
      exact hk.2
    by_cases hsto : ∃ t a v, y.o.op = .store t a v
    · obtain ⟨t, a, v, hop⟩ := hsto
      have hnr : readsP x.o = false ∨ (isLoad x.o = true ∧ ((x.clean = true ∧ y.strict = true) ∨ (x.strict = true ∧ y.clean = true))) := by
        simp only [effOk, hop, Bool.or_eq_true, Bool.and_eq_true, hy, Bool.false_eq_true, false_or, Bool.not_eq_true'] at he
        exact he
      have hnl : readsP x.o = false → isLoad x.o = false := by
        intro hh
        unfold readsP at hh
        unfold isLoad
        split at hh <;> simp_all
      have hea : evE (fr.put x.o.dst e) a = evE fr a := operand_looks look a (by simp [hop, Op.operands])
      have hev : evP (fr.put x.o.dst e) v = evP fr v := evP_congr (operand_looks look v (by simp [hop, Op.operands]))
      unfold run1 at h ⊢
      cases hgd : y.o.guard with
      | some g =>
        rw [hgd] at h
        simp only at h ⊢
        cases hoj : ops.toList[g.1]? with
        | none => rw [hoj] at h; exact h.elim
        | some oj =>
          rw [hoj] at h
          simp only at h ⊢
          cases hd : oj.dst with
          | none => rw [hd] at h; exact h.elim
          | some d =>
            rw [hd] at h
            simp [guardable, hop] at h
      | none =>
        rw [hgd] at h
        simp only [opC, hop, hea, hev] at h ⊢
        cases hsz : szOf P t with
        | none => rw [hsz] at h; exact h.elim
        | some sz =>
          rw [hsz] at h
          simp only [bindO] at h ⊢
          cases hea' : evE fr a with
          | loc s off =>
            rw [hea'] at h
            simp only [Fr.put_loc] at h ⊢
            cases hcl : y.clean with
            | true => rw [hcl] at h; exact h.elim
            | false =>
            rw [hcl] at h
            simp only at h ⊢
            cases hz : vPut sz (fr.loc s) off (evP fr v) with
            | none => rw [hz] at h; exact h.elim
            | some z =>
              rw [hz] at h
              simp only at h ⊢
              refine ⟨?_, ?_⟩
              · rw [valT_congr (fr := (fr.setLoc s z).put y.o.dst (.v .any)) (fr' := fr) (fun d hd => (Fr.put_env (fr.setLoc s z) _ _ _ fun hy => h3 d hy hd).trans rfl) ?_]
                · exact hv
                · rcases hnr with hnr | ⟨_, ⟨h5, _⟩ | ⟨_, h5⟩⟩
                  · exact .inl (hnl hnr)
                  · exact .inr (.inl h5)
                  · rw [hcl] at h5; cases h5
              · have : ((fr.put x.o.dst e).setLoc s z).put y.o.dst (.v .any) = ((fr.setLoc s z).put y.o.dst (.v .any)).put x.o.dst e := by
                  rw [← Fr.put_comm _ _ _ h2]
                  congr 1
                  cases x.o.dst <;> rfl
                rw [← this]
                exact h
          | v p =>
            rw [hea'] at h
            simp only at h ⊢
            cases hst' : y.strict with
            | true => rw [hst'] at h; exact h.elim
            | false =>
            rw [hst'] at h
            simp only at h ⊢
            cases hz : vStore sz p (evP fr v) σ with
            | none => rw [hz] at h; exact h.elim
            | some σ' =>
              rw [hz] at h
              simp only at h ⊢
              refine ⟨keep _ _ ?_, ?_⟩
              · rcases hnr with hnr | ⟨_, ⟨_, h5⟩ | ⟨h5, _⟩⟩
                · exact .inl hnr
                · rw [hst'] at h5; cases h5
                · exact .inr (.inl h5)
              · rw [← Fr.put_comm _ _ _ h2]
                exact h
    · have hns : ∀ t a v, y.o.op ≠ .store t a v := fun t a v hh => hsto ⟨t, a, v, hh⟩
      have hoc : ∀ (fr : Fr) (K : Fr → St → Prop) (X : PV → Fr → St → Prop), opC (algP call) P locs y.clean y.strict y.o fr σ K X = opV (algP call) P y.clean y.strict y.o fr σ (fun e σ => K (fr.put y.o.dst e) σ) (fun v σ => X v fr σ) := by
        intro fr K X
        have hna : (∀ t, y.o.op ≠ .alloc t) ∧ (∀ t a, y.o.op ≠ .box t a) ∧ (∀ c, y.o.op ≠ .defer c) := by
          simp only [effOk, Bool.or_eq_true, hy, Bool.false_eq_true, false_or] at he
          refine ⟨fun t ht => ?_, fun t a ht => ?_, fun t ht => ?_⟩ <;> simp [ht] at he
        unfold opC
        split
        · rename_i t ht; exact absurd ht (hna.1 t)
        · rename_i t a ht; exact absurd ht (hna.2.1 t a)
        · rename_i t a v ht; exact absurd ht (hns t a v)
        · rename_i c ht; exact absurd ht (hna.2.2 c)
        · rfl
      revert h
      unfold run1
      cases hgd : y.o.guard with
      | none =>
        simp only [hoc]
        exact hV hns
      | some g =>
        simp only
        cases hoj : ops.toList[g.1]? with
        | none => exact fun h => h
        | some oj =>
          simp only
          cases hd : oj.dst with
          | none => exact fun h => h
          | some d =>
            simp only
            split
            · rw [look d (guard_looks hgd hoj hd)]
              cases gOk (fr.env d).pv g.2 with
              | none => exact fun h => h
              | some b =>
                cases b with
                | true => exact hV hns
                | false =>
                  intro h
                  refine ⟨keep _ _ (.inr (.inr (.inl rfl))), ?_⟩
                  rw [← Fr.put_comm _ _ _ h2]
                  exact h
            · exact fun h => h

/-! ### A variable of the frame that is made: it comes first -/

def EV.forget (d : Nat) : EV → EV
  | .loc s o => if s = d then .v .any else .loc s o
  | .v x => .v x

theorem EV.forget_pv (d : Nat) (e : EV) : (e.forget d).pv = e.pv := by
  cases e with
  | v x => rfl
  | loc s o => simp only [EV.forget]; split <;> rfl

theorem newLoc_env {fr : Fr} {d t : Nat} {z : PV} (h : t ≠ d) : (fr.newLoc d z).env t = (fr.env t).forget d := by
  simp only [Fr.newLoc, h, if_false]
  cases fr.env t <;> rfl

theorem opV_pv {ρ : Type} {A : Alg ρ} {c s : Bool} {o : Oper} {fr : Fr} {σ : St} {K : EV → St → ρ} {X : PV → St → ρ} (hp : isP o = true) (hl : looksE o = false) : opV A P c s o fr σ K X = opV A P c s o fr σ (fun e σ => K (.v e.pv) σ) X := by
  obtain ⟨dst, op, type, pos, after, guard⟩ := o
  cases op with
  | call q =>
    obtain ⟨callee, args, argTypes⟩ := q
    cases callee with
    | builtin b => cases b <;> first | rfl | simp [isP] at hp
    | _ => simp [isP] at hp
  | load | move | assign | nilCheck | fieldAddr => simp [looksE] at hl
  | pick | build | buildSlice | binOp | unOp | convert | makeFunc | slice | indexAddr | index | extract | makeInterface | typeAssert | lookup | entry => rfl
  | _ => simp [isP] at hp

theorem pureV_v {c s : Bool} {o : Oper} {fr : Fr} {σ : St} {e : EV} (hp : isP o = true) (hl : looksE o = false) (h : pureV P c s o fr σ = some e) : ∃ x, e = .v x := by
  unfold pureV at h
  rw [opV_pv hp hl] at h
  revert e
  refine opV_par (r := fun (p q : Option EV) => ∀ {e : EV}, p = some e → ∃ x, e = .v x) (A := algO) (B := algO) (K' := fun _ _ => none) (X' := fun _ _ => none) ?_ hp ?_
  · intro e h; cases h
  · intro e e' h
    cases h
    exact ⟨_, rfl⟩

theorem pureV_newLoc {c s : Bool} {o : Oper} {fr : Fr} {d : Nat} {z : PV} {σ : St} {e : EV} (hp : isP o = true) (ho : ∀ t, Operand.tmp t ∈ o.op.operands → t ≠ d) (h : pureV P c s o (fr.newLoc d z) σ = some e) :
    ∃ e0, pureV P c s o fr σ = some e0 ∧ e0.forget d = e := by
  have hE : ∀ x ∈ o.op.operands, evE (fr.newLoc d z) x = (evE fr x).forget d := by
    intro x hx
    cases x with
    | tmp t => exact newLoc_env (ho t hx)
    | _ => rfl
  have hP : ∀ x ∈ o.op.operands, evP (fr.newLoc d z) x = evP fr x := by
    intro x hx
    unfold evP
    rw [hE x hx, EV.forget_pv]
  cases hl : looksE o with
  | false =>
    have h2 : pureV P c s o fr σ = some e := by
      rw [← h]
      exact (opV_congrP hP hl).symm
    obtain ⟨x, rfl⟩ := pureV_v hp hl h2
    exact ⟨_, h2, rfl⟩
  | true =>
    obtain ⟨dst, op, type, pos, after, guard⟩ := o
    cases op with
    | move a =>
      have ha := hE a (by simp [Op.operands])
      simp only [pureV, opV, ha, Option.some.injEq] at h ⊢
      exact ⟨_, rfl, h⟩
    | assign a =>
      have ha := hE a (by simp [Op.operands])
      simp only [pureV, opV, ha, Option.some.injEq] at h ⊢
      exact ⟨_, rfl, h⟩
    | nilCheck a =>
      have ha := hE a (by simp [Op.operands])
      simp only [pureV, opV, ha, algO] at h ⊢
      cases hea : evE fr a with
      | v x =>
        rw [hea] at h
        simp only [EV.forget] at h ⊢
        obtain ⟨y, h1, h2⟩ := bindO_some' h
        simp only [Option.some.injEq] at h2
        subst h2
        exact ⟨.v y, by rw [h1]; rfl, rfl⟩
      | loc s' off =>
        rw [hea] at h
        simp only [EV.forget] at h ⊢
        split at h
        · rename_i hh
          split at hh
          · cases hh
          · rename_i hn
            cases hh
            simp only [Option.some.injEq] at h
            exact ⟨_, rfl, by simp [EV.forget, hn, h]⟩
        · rename_i hh
          split at hh
          · cases hh
            simp [vNil, bindO] at h
          · cases hh
    | load t a =>
      have ha := hE a (by simp [Op.operands])
      simp only [pureV, opV, ha, algO] at h ⊢
      obtain ⟨ag, h1, h⟩ := bindO_some' h
      obtain ⟨sz, h2, h⟩ := bindO_some' h
      simp only [h1, h2, bindO]
      cases hea : evE fr a with
      | v x =>
        rw [hea] at h
        simp only [EV.forget] at h ⊢
        obtain ⟨y, h3, h4⟩ := bindO_some' h
        simp only [Option.some.injEq] at h4
        subst h4
        exact ⟨.v y, by rw [h3], rfl⟩
      | loc s' off =>
        rw [hea] at h
        simp only [EV.forget] at h ⊢
        split at h
        · rename_i hh
          split at hh
          · cases hh
          · rename_i hn
            cases hh
            split at h
            · cases h
            · rename_i hc
              obtain ⟨y, h3, h4⟩ := bindO_some' h
              simp only [Option.some.injEq] at h4
              subst h4
              have hloc : (fr.newLoc d z).loc s' = fr.loc s' := by simp [Fr.newLoc, hn]
              rw [hloc] at h3
              refine ⟨.v y, ?_, rfl⟩
              simp only [h3]
        · rename_i hh
          split at hh
          · cases hh
            obtain ⟨y, h3, h4⟩ := bindO_some' h
            simp [vLoad] at h3
          · cases hh
    | fieldAddr t a f =>
      have ha := hE a (by simp [Op.operands])
      simp only [pureV, opV, ha, algO] at h ⊢
      obtain ⟨k, h1, h⟩ := bindO_some' h
      simp only [h1, bindO]
      cases hea : evE fr a with
      | v x =>
        rw [hea] at h
        simp only [EV.forget] at h ⊢
        obtain ⟨y, h3, h4⟩ := bindO_some' h
        simp only [Option.some.injEq] at h4
        subst h4
        exact ⟨.v y, by rw [h3], rfl⟩
      | loc s' off =>
        rw [hea] at h
        simp only [EV.forget] at h ⊢
        split at h
        · rename_i hh
          split at hh
          · cases hh
          · rename_i hn
            cases hh
            simp only [Option.some.injEq] at h
            exact ⟨_, rfl, by simp [EV.forget, hn, h]⟩
        · rename_i hh
          split at hh
          · cases hh
            simp [vField, bindO] at h
          · cases hh
    | _ => simp [looksE] at hl

theorem valT_newLoc {ops : Array Oper} {t : Task} {fr : Fr} {d : Nat} {z : PV} {σ : St} {e : EV} (hp : isP t.o = true) (hd : d ∉ t.o.looksAt ops) (h : valT P ops.toList t (fr.newLoc d z) σ = some e) :
    ∃ e0, valT P ops.toList t fr σ = some e0 ∧ e0.forget d = e := by
  have ho : ∀ u, Operand.tmp u ∈ t.o.op.operands → u ≠ d := by
    rintro u hu rfl
    refine hd ?_
    unfold Oper.looksAt
    exact List.mem_append_left _ (List.mem_filterMap.2 ⟨.tmp u, by simpa using hu, rfl⟩)
  revert h
  unfold valT
  cases hg : t.o.guard with
  | none => exact pureV_newLoc hp ho
  | some g =>
    simp only
    cases hoj : ops.toList[g.1]? with
    | none => exact fun h => by cases h
    | some oj =>
      simp only
      cases hdj : oj.dst with
      | none => exact fun h => by cases h
      | some dg =>
        simp only
        split
        · have hne : dg ≠ d := by
            rintro rfl
            exact hd (guard_looks hg hoj hdj)
          rw [newLoc_env hne, EV.forget_pv]
          cases gOk (fr.env dg).pv g.2 with
          | none => exact fun h => by cases h
          | some b =>
            cases b with
            | true => exact pureV_newLoc hp ho
            | false =>
              simp only [Option.some.injEq]
              intro h
              exact ⟨_, rfl, by rw [← h]; rfl⟩
        · exact fun h => by cases h

/-- What a new variable of the frame holds. -/
theorem run1_new {all : List Oper} {x : Task} (hn : newsLoc locs x.o = true) : ∃ (d : Nat) (Z : Fr → Option PV), x.o.dst = some d ∧ (∀ fr σ (K : Fr → St → Prop) (X : PV → Fr → St → Prop), run1 call P locs all x fr σ K X ↔ ∃ z, Z fr = some z ∧ K (fr.newLoc d z) σ) ∧
    ∀ fr fr' : Fr, (∀ y ∈ x.o.op.operands, evP fr y = evP fr' y) → Z fr = Z fr' := by
  obtain ⟨i, ⟨dst, op, type, pos, after, guard⟩, c, s⟩ := x
  simp only [newsLoc, Bool.and_eq_true] at hn
  obtain ⟨⟨h1, h2⟩, h3⟩ := hn
  cases dst with
  | none => simp at h2
  | some d =>
    simp only at h2
    cases guard with
    | some g => simp at h3
    | none =>
      cases op with
      | alloc t =>
        refine ⟨d, fun _ => bindO none (szOf P t) fun sz => bindO none (zeroOf P t) fun z => vBox sz z, rfl, fun fr σ K X => ?_, fun _ _ _ => rfl⟩
        simp only [run1, opC, h2, if_true]
        cases szOf P t with
        | none => simp [bindO, algP]
        | some sz =>
          cases zeroOf P t with
          | none => simp [bindO, algP]
          | some z =>
            simp only [bindO]
            cases vBox sz z with
            | none => simp [algP]
            | some z' => simp
      | box t y =>
        refine ⟨d, fun fr => (opC.vBoxAny (evP fr y)).map (·.2), rfl, fun fr σ K X => ?_, fun fr fr' h => by
          have := h y (by simp [Op.operands])
          simp only [this]⟩
        simp only [run1, opC, h2, if_true]
        cases opC.vBoxAny (evP fr y) with
        | none => simp [bindO, algP]
        | some z => simp [bindO]
      | _ => simp at h1

/-- What a new variable of the store holds. -/
theorem run1_newH {all : List Oper} {y : Task} (hn : newsHeap locs y.o = true) : ∃ (Z : Fr → Option Blk), (∀ fr σ (K : Fr → St → Prop) (X : PV → Fr → St → Prop), run1 call P locs all y fr σ K X ↔ ∃ b, Z fr = some b ∧ K (fr.put y.o.dst (.v (.ptr σ.length 0 0 0))) (σ ++ [b])) ∧
    ∀ fr fr' : Fr, (∀ u ∈ y.o.op.operands, evP fr u = evP fr' u) → Z fr = Z fr' := by
  obtain ⟨i, ⟨dst, op, type, pos, after, guard⟩, c, s⟩ := y
  simp only [newsHeap, Bool.and_eq_true] at hn
  obtain ⟨⟨h1, h2⟩, h3⟩ := hn
  cases dst with
  | none => simp at h2
  | some d =>
    simp only [Bool.not_eq_true'] at h2
    cases guard with
    | some g => simp at h3
    | none =>
      cases op with
      | alloc t =>
        refine ⟨fun _ => bindO none (szOf P t) fun sz => bindO none (zeroOf P t) fun z => bindO none (vBox sz z) fun z => if 0 < sz then some (.arr 0 sz [z]) else none, fun fr σ K X => ?_, fun _ _ _ => rfl⟩
        simp only [run1, opC, h2, Bool.false_eq_true, if_false]
        cases szOf P t with
        | none => simp [bindO, algP]
        | some sz =>
          cases zeroOf P t with
          | none => simp [bindO, algP]
          | some z =>
            simp only [bindO]
            cases vBox sz z with
            | none => simp [algP]
            | some z' =>
              simp only
              split
              · simp
              · simp [algP]
      | box t x =>
        refine ⟨fun fr => bindO none (opC.vBoxAny (evP fr x)) fun z => if 0 < z.1 then some (.arr 0 z.1 [z.2]) else none, fun fr σ K X => ?_, fun fr fr' h => by
          have := h x (by simp [Op.operands])
          simp only [this]⟩
        simp only [run1, opC, h2, Bool.false_eq_true, if_false]
        cases opC.vBoxAny (evP fr x) with
        | none => simp [bindO, algP]
        | some z =>
          simp only [bindO]
          split
          · simp
          · simp [algP]
      | _ => simp at h1

theorem run1_underH {ops : Array Oper} {x y : Task} {fr : Fr} {σ : St} {e : EV} {K : Fr → St → Prop} {X : PV → Fr → St → Prop}
    (hp : isP x.o = true) (hap : x.o.apart ops y.o = true) (hn : newsHeap locs y.o = true) (hv : valT P ops.toList x fr σ = some e)
    (h : run1 call P locs ops.toList y (fr.put x.o.dst e) σ K X) :
    run1 call P locs ops.toList y fr σ (fun fr' σ' => valT P ops.toList x fr' σ' = some e ∧ K (fr'.put x.o.dst e) σ') X := by
  obtain ⟨h1, h2, h3⟩ := Oper.apart_spec hap
  obtain ⟨Z, hZ, hZc⟩ := run1_newH (P := P) (call := call) (all := ops.toList) hn
  rw [hZ] at h ⊢
  obtain ⟨b, hb, hk⟩ := h
  refine ⟨b, ?_, ?_, ?_⟩
  · rw [← hb]
    refine hZc _ _ fun u hu => (evP_congr ?_).symm
    exact operand_looks (fun t ht => Fr.put_env _ _ _ _ fun hx => h1 t hx ht) u hu
  · rw [valT_congr (fr' := fr) (fun d hd => Fr.put_env _ _ _ _ fun hy => h3 d hy hd) (.inr (.inr (Fr.put_loc _ _ _)))]
    exact valT_state hp (.inr (.inr (.inr ⟨_, rfl⟩))) hv
  · rw [← Fr.put_comm _ _ _ h2]
    exact hk

/-- An operation comes first, if those ahead of it may come after it. -/
theorem runL_front (hm : CallMono call) {ops : Array Oper} {y : Task} {post : List Task} {K : Fr → St → Prop} {X : PV → Fr → St → Prop} (hX : ∀ v fr fr' σ, fr.noEnv = fr'.noEnv → X v fr σ → X v fr' σ) :
    ∀ (pre : List Task) (fr : Fr) (σ : St), (∀ x ∈ pre, comm locs ops x y = true) → runL call P locs ops.toList (pre ++ y :: post) fr σ K X →
      run1 call P locs ops.toList y fr σ (fun fr σ => runL call P locs ops.toList (pre ++ post) fr σ K X) X
  | [], fr, σ, hc, h => h
  | x :: pre, fr, σ, hc, h => by
    have hx := hc x (by simp)
    simp only [comm, Bool.and_eq_true, Bool.or_eq_true] at hx
    obtain ⟨hap, hx⟩ := hx
    simp only [List.cons_append, runL] at h
    rcases hx with ⟨hp, heff⟩ | ⟨hn, hp⟩
    · rw [run1_val hp] at h
      obtain ⟨e, hv, h⟩ := h
      have ih := runL_front hm hX pre _ σ (fun x' hx' => hc x' (by simp [hx'])) h
      have : run1 call P locs ops.toList y fr σ (fun fr' σ' => valT P ops.toList x fr' σ' = some e ∧ runL call P locs ops.toList (pre ++ post) (fr'.put x.o.dst e) σ' K X) X := by
        rcases heff with heff | heff
        · exact run1_under hm hX hp hap heff hv ih
        · exact run1_underH hp hap heff hv ih
      refine run1_mono hm (fun fr' σ' hk => ?_) (fun _ _ _ h => h) this
      simp only [List.cons_append, runL]
      rw [run1_val hp]
      exact ⟨e, hk.1, hk.2⟩
    · obtain ⟨d, Z, hd, hZ, hZc⟩ := run1_new (P := P) (call := call) (all := ops.toList) hn
      obtain ⟨h1, h2, h3⟩ := Oper.apart_spec hap
      rw [hZ] at h
      obtain ⟨z, hz, h⟩ := h
      have ih := runL_front hm hX pre _ σ (fun x' hx' => hc x' (by simp [hx'])) h
      rw [run1_val hp] at ih ⊢
      obtain ⟨e, hv, hk⟩ := ih
      obtain ⟨e0, hv0, rfl⟩ := valT_newLoc hp (h1 d hd) hv
      refine ⟨e0, hv0, ?_⟩
      simp only [List.cons_append, runL]
      rw [hZ]
      refine ⟨z, ?_, ?_⟩
      · rw [← hz]
        refine hZc _ _ fun u hu => evP_congr ?_
        exact operand_looks (fun t ht => Fr.put_env _ _ _ _ fun hy => h3 t hy ht) u hu
      · have : (fr.put y.o.dst e0).newLoc d z = (fr.newLoc d z).put y.o.dst (e0.forget d) := by
          cases hy : y.o.dst with
          | none => rfl
          | some t =>
            have hne : t ≠ d := by
              rintro rfl
              exact h2 t hd hy
            refine Fr.ext' (fun k => ?_) rfl rfl
            by_cases hkd : k = d
            · subst hkd
              simp [Fr.newLoc, Fr.put, Ne.symm hne]
            · rw [newLoc_env hkd]
              by_cases hkt : k = t
              · subst hkt
                simp [Fr.put]
              · simp only [Fr.put, hkt, if_false]
                rw [newLoc_env hkd]
        rw [this]
        exact hk

end
end Go.Abs
