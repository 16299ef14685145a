/- Orders: what one operation after the other comes to; when an operation may as well come first. -/
import Derived.Test.YtiniifbmeobmgaaGreatDoorAbsMono
set_option linter.unusedVariables false
set_option linter.unusedSimpArgs false
namespace Go.Abs

theorem bindO_some' {α β : Type} {o : Option α} {K : α → Option β} {e : β} (h : bindO none o K = some e) : ∃ a, o = some a ∧ K a = some e := by
  cases o with
  | none => simp [bindO] at h
  | some a => exact ⟨a, rfl, h⟩

/-- A frame whose slots are forgotten. -/
def Fr.noEnv (fr : Fr) : Fr := { fr with env := fun _ => .v .any }

theorem Fr.put_noEnv (fr : Fr) (d : Option Nat) (e : EV) : (fr.put d e).noEnv = fr.noEnv := by cases d <;> rfl
theorem Fr.put_loc (fr : Fr) (d : Option Nat) (e : EV) : (fr.put d e).loc = fr.loc := by cases d <;> rfl
theorem Fr.put_dfr (fr : Fr) (d : Option Nat) (e : EV) : (fr.put d e).dfr = fr.dfr := by cases d <;> rfl
theorem Fr.put_env (fr : Fr) (d : Option Nat) (e : EV) (t : Nat) (h : d ≠ some t) : (fr.put d e).env t = fr.env t := by
  cases d with
  | none => rfl
  | some d => exact if_neg (fun he => h (by rw [he]))
theorem Fr.noEnv_loc {fr fr' : Fr} (h : fr.noEnv = fr'.noEnv) : fr.loc = fr'.loc := by
  have := congrArg Fr.loc h
  exact this
theorem Fr.noEnv_dfr {fr fr' : Fr} (h : fr.noEnv = fr'.noEnv) : fr.dfr = fr'.dfr := by
  have := congrArg Fr.dfr h
  exact this
theorem Fr.ext' {fr fr' : Fr} (h1 : ∀ t, fr.env t = fr'.env t) (h2 : fr.loc = fr'.loc) (h3 : fr.dfr = fr'.dfr) : fr = fr' := by
  obtain ⟨e, l, d⟩ := fr
  obtain ⟨e', l', d'⟩ := fr'
  obtain rfl : e = e' := funext h1
  obtain rfl : l = l' := h2
  obtain rfl : d = d' := h3
  rfl
theorem Fr.put_comm (fr : Fr) {d d' : Option Nat} (e e' : EV) (h : ∀ t, d = some t → d' ≠ some t) : (fr.put d e).put d' e' = (fr.put d' e').put d e := by
  cases d with
  | none => rfl
  | some t => cases d' with
    | none => rfl
    | some t' =>
      refine Fr.ext' (fun k => ?_) rfl rfl
      have : t ≠ t' := fun he => h t rfl (by rw [he])
      simp only [Fr.put]
      by_cases h1 : k = t'
      · subst h1; simp [Ne.symm this]
      · simp [h1]

section
variable {P : Program} {locs : List Nat} {call : CallP}

structure CallMono (call : CallP) : Prop where
  mono : ∀ {f : FuncId} {args : List PV} {σ : St} {R R' : Res → St → Prop}, (∀ x σ, R x σ → R' x σ) → call f args σ R → call f args σ R'

/-- One operation, its guard looked at. -/
def run1 (call : CallP) (P : Program) (locs : List Nat) (all : List Oper) (t : Task) (fr : Fr) (σ : St) (K : Fr → St → Prop) (X : PV → Fr → St → Prop) : Prop :=
  match t.o.guard with
  | none => opC (algP call) P locs t.clean t.strict t.o fr σ K X
  | some g => match all[g.1]? with
    | some oj => (match oj.dst with
      | some d => if guardable d t.o = true then
          (match gOk (fr.env d).pv g.2 with
          | some true => opV (algP call) P t.clean t.strict t.o fr σ (fun e σ => K (fr.put t.o.dst e) σ) (fun v σ => X v fr σ)
          | some false => K (fr.put t.o.dst (.v (.tuple []))) σ
          | none => False)
        else False
      | none => False)
    | none => False

def runL (call : CallP) (P : Program) (locs : List Nat) (all : List Oper) : List Task → Fr → St → (Fr → St → Prop) → (PV → Fr → St → Prop) → Prop
  | [], fr, σ, K, X => K fr σ
  | t :: ts, fr, σ, K, X => run1 call P locs all t fr σ (fun fr σ => runL call P locs all ts fr σ K X) X

theorem takeRun_spec (g : Nat × Bool) : ∀ (ts : List Task), ts = (takeRun g ts).1 ++ (takeRun g ts).2 ∧ ∀ t ∈ (takeRun g ts).1, t.o.guard = some g
  | [] => ⟨rfl, by simp [takeRun]⟩
  | o :: os => by
    obtain ⟨h1, h2⟩ := takeRun_spec g os
    simp only [takeRun]
    split
    · rename_i hg
      refine ⟨by rw [List.cons_append, ← h1], fun o' ho' => ?_⟩
      rcases List.mem_cons.1 ho' with rfl | ho'
      · exact hg
      · exact h2 o' ho'
    · exact ⟨rfl, by simp⟩

theorem mem_dstsOf {t : Task} {d : Nat} (hd : t.o.dst = some d) : ∀ (ts : List Task), t ∈ ts → d ∈ dstsOf ts
  | [], h => by simp at h
  | t' :: ts, h => by
    simp only [dstsOf]
    rcases List.mem_cons.1 h with rfl | h
    · rw [hd]; simp
    · have := mem_dstsOf hd ts h
      split
      · exact List.mem_cons_of_mem _ this
      · exact this

theorem lookE_map (f : Nat → EV) : ∀ (l : List Nat) (t : Nat), l.contains t = true → lookE (l.map (fun t => (t, f t))) t = f t
  | [], t, h => by simp at h
  | k :: l, t, h => by
    simp only [List.map_cons, lookE]
    split
    · rename_i he; subst he; rfl
    · rename_i he
      exact lookE_map f l t (by simpa [he] using h)

theorem dstsOf_cons (t : Task) (ts : List Task) : dstsOf (t :: ts) = t.o.dst.toList ++ dstsOf ts := by
  simp only [dstsOf]
  cases t.o.dst <;> rfl

theorem opV_mono (hm : CallMono call) {c s : Bool} {o : Oper} {fr : Fr} {σ : St} {K K' : EV → St → Prop} {X X' : PV → St → Prop} (hK : ∀ e σ, K e σ → K' e σ) (hX : ∀ v σ, X v σ → X' v σ)
    (h : opV (algP call) P c s o fr σ K X) : opV (algP call) P c s o fr σ K' X' := opV_rel (algP_mono (call := call) (call' := call) fun hR h => hm.mono hR h) hK hX h

theorem opC_mono (hm : CallMono call) {c s : Bool} {o : Oper} {fr : Fr} {σ : St} {K K' : Fr → St → Prop} {X X' : PV → Fr → St → Prop} (hK : ∀ e σ, K e σ → K' e σ) (hX : ∀ v fr σ, X v fr σ → X' v fr σ)
    (h : opC (algP call) P locs c s o fr σ K X) : opC (algP call) P locs c s o fr σ K' X' := opC_rel (algP_mono (call := call) (call' := call) fun hR h => hm.mono hR h) hK hX h

theorem run1_mono (hm : CallMono call) {all : List Oper} {t : Task} {fr : Fr} {σ : St} {K K' : Fr → St → Prop} {X X' : PV → Fr → St → Prop} (hK : ∀ e σ, K e σ → K' e σ) (hX : ∀ v fr σ, X v fr σ → X' v fr σ)
    (h : run1 call P locs all t fr σ K X) : run1 call P locs all t fr σ K' X' := by
  revert h
  unfold run1
  cases t.o.guard with
  | none => exact fun h => opC_mono hm hK hX h
  | some g =>
    simp only
    cases all[g.1]? with
    | none => exact fun h => h
    | some oj =>
      simp only
      cases oj.dst with
      | none => exact fun h => h
      | some d =>
        simp only
        split
        · cases hb : gOk (fr.env d).pv g.2 with
          | none => exact fun h => h
          | some b =>
            cases b with
            | true => exact fun h => opV_mono hm (fun _ _ => hK _ _) (fun _ _ => hX _ _ _) h
            | false => exact fun h => hK _ _ h
        · exact fun h => h

theorem seq_runL (hm : CallMono call) {all : List Oper} {g : Nat × Bool} {d : Nat} {oj : Oper} {rest : List Task} {K1 : Fr → St → Prop} {X1 : PV → St → Prop} {K : Fr → St → Prop} {X : PV → Fr → St → Prop} {fr₀ : Fr} {D : List Nat}
    (hoj : all[g.1]? = some oj) (hd : oj.dst = some d)
    (hK : ∀ fr' σ', K1 fr' σ' → fr'.noEnv = fr₀.noEnv → (∀ t, t ∉ D → fr'.env t = fr₀.env t) → runL call P locs all rest fr' σ' K X)
    (hX : ∀ v fr' σ', X1 v σ' → fr'.noEnv = fr₀.noEnv → X v fr' σ') :
    ∀ (run : List Task) (fr : Fr) (σ : St), (∀ t ∈ run, t.o.guard = some g ∧ guardable d t.o = true ∧ ∀ e, t.o.dst = some e → e ∈ D) → gOk (fr.env d).pv g.2 = some true → fr.noEnv = fr₀.noEnv → (∀ t, t ∉ D → fr.env t = fr₀.env t) →
      seqC (algP call) P run fr σ K1 X1 → runL call P locs all (run ++ rest) fr σ K X
  | [], fr, σ, hrun, hb, h1, h2, h => hK fr σ h h1 h2
  | t :: run, fr, σ, hrun, hb, h1, h2, h => by
    obtain ⟨g1, g2, g3⟩ := hrun t (by simp)
    simp only [List.cons_append, runL, run1, g1, hoj, hd, g2, if_true, hb]
    simp only [seqC] at h
    have hdd : t.o.dst ≠ some d := by
      simp only [guardable, Bool.and_eq_true, bne_iff_ne] at g2
      exact g2.2
    refine opV_mono hm (fun e σ' hs => ?_) (fun v σ' hx => hX v fr σ' hx h1) h
    refine seq_runL hm hoj hd hK hX run _ σ' (fun t' ht' => hrun t' (by simp [ht'])) ?_ ?_ (fun k hk => ?_) hs
    · rw [Fr.put_env _ _ _ _ hdd]; exact hb
    · rw [Fr.put_noEnv]; exact h1
    · rw [Fr.put_env _ _ _ _ (fun he => hk (g3 k he))]; exact h2 k hk

theorem puts_put (fr : Fr) (d : Option Nat) (ds : List Nat) (e : EV) : (fr.put d e).puts ds (fun _ => e) = fr.puts (d.toList ++ ds) (fun _ => e) := by
  cases d with
  | none => rfl
  | some d =>
    simp only [Fr.puts, Fr.put]
    congr 1
    funext t
    by_cases h1 : ds.contains t = true
    · simp only [h1, if_true]
      rw [if_pos]
      simp at h1 ⊢
      exact .inr h1
    · simp only [h1, Bool.false_eq_true, if_false]
      by_cases h2 : t = d
      · subst h2
        rw [if_pos rfl, if_pos (by simp)]
      · rw [if_neg h2, if_neg (by simp at h1 ⊢; exact ⟨h2, h1⟩)]

theorem skip_runL {all : List Oper} {g : Nat × Bool} {d : Nat} {oj : Oper} {rest : List Task} {K : Fr → St → Prop} {X : PV → Fr → St → Prop} {σ : St} (hoj : all[g.1]? = some oj) (hd : oj.dst = some d) :
    ∀ (run : List Task) (fr : Fr), (∀ t ∈ run, t.o.guard = some g ∧ guardable d t.o = true) → gOk (fr.env d).pv g.2 = some false → runL call P locs all rest (fr.puts (dstsOf run) (fun _ => .v (.tuple []))) σ K X → runL call P locs all (run ++ rest) fr σ K X
  | [], fr, hrun, hb, h => by
    have : fr.puts (dstsOf []) (fun _ => .v (.tuple [])) = fr := by simp [Fr.puts, dstsOf]
    rw [this] at h
    exact h
  | t :: run, fr, hrun, hb, h => by
    obtain ⟨g1, g2⟩ := hrun t (by simp)
    have hdd : t.o.dst ≠ some d := by
      simp only [guardable, Bool.and_eq_true, bne_iff_ne] at g2
      exact g2.2
    simp only [List.cons_append, runL, run1, g1, hoj, hd, g2, if_true, hb]
    refine skip_runL hoj hd run _ (fun t' ht' => hrun t' (by simp [ht'])) ?_ ?_
    · rw [Fr.put_env _ _ _ _ hdd]; exact hb
    · rw [puts_put, ← dstsOf_cons]; exact h

theorem opsC_runL (hm : CallMono call) {all : List Oper} {K : Fr → St → Prop} {X : PV → Fr → St → Prop} (hX : ∀ v fr fr' σ, fr.noEnv = fr'.noEnv → X v fr σ → X v fr' σ) :
    ∀ (n : Nat) (ts : List Task) (fr : Fr) (σ : St), opsC (algP call) P locs all n ts fr σ K X → runL call P locs all ts fr σ K X
  | 0, [], fr, σ, h => h
  | 0, _ :: _, fr, σ, h => h.elim
  | n + 1, [], fr, σ, h => h
  | n + 1, t :: ts, fr, σ, h => by
    simp only [opsC] at h
    split at h
    · rename_i hgd
      simp only [runL, run1, hgd]
      exact opC_mono hm (fun fr σ h => opsC_runL hm hX n ts fr σ h) (fun _ _ _ h => h) h
    · rename_i g hgd
      split at h
      · rename_i oj hoj
        split at h
        · rename_i d hdj
          split at h
          · rename_i hall
            obtain ⟨hsp, hgs⟩ := takeRun_spec g ts
            generalize (takeRun g ts).1 = run at hsp hgs hall h
            generalize (takeRun g ts).2 = rest at hsp h
            have hrun : ∀ t' ∈ t :: run, t'.o.guard = some g ∧ guardable d t'.o = true := by
              intro t' ht'
              refine ⟨?_, List.all_eq_true.1 hall t' ht'⟩
              rcases List.mem_cons.1 ht' with rfl | ht'
              · exact hgd
              · exact hgs _ ht'
            rw [hsp, ← List.cons_append]
            unfold guardG at h
            split at h
            · rename_i hb
              · refine seq_runL hm (fr₀ := fr) (D := dstsOf (t :: run)) (X1 := fun v σ => X v fr σ) hoj hdj (fun fr' σ' hk e1 e2 => ?_) (fun v fr' σ' hx e1 => hX _ _ _ _ e1.symm hx) (t :: run) fr σ (fun t' ht' => ⟨(hrun t' ht').1, (hrun t' ht').2, fun e he => mem_dstsOf he _ ht'⟩) hb rfl (fun _ _ => rfl) h
                have : fr.puts (dstsOf (t :: run)) (lookE ((dstsOf (t :: run)).map fun d => (d, fr'.env d))) = fr' := by
                  refine Fr.ext' (fun k => ?_) (Fr.noEnv_loc e1).symm (Fr.noEnv_dfr e1).symm
                  simp only [Fr.puts]
                  split
                  · rename_i hk
                    exact lookE_map fr'.env _ _ hk
                  · rename_i hk
                    exact (e2 k (by simpa using hk)).symm
                simp only [this] at hk
                exact opsC_runL hm hX n rest fr' σ' hk
            · rename_i hb
              exact skip_runL hoj hdj (t :: run) fr hrun hb (opsC_runL hm hX n rest _ σ h)
            · exact h.elim
          · exact h.elim
        · exact h.elim
      · exact h.elim

end
end Go.Abs
