import Derived.Test.YteikomnahelckaaGreatDoorAbsA
set_option linter.unusedVariables false
set_option linter.unusedSimpArgs false
namespace Go.Abs
theorem bindO_some' {α β : Type} {o : Option α} {K : α → Option β} {e : β} (h : bindO none o K = some e) : ∃ a,o = some a ∧ K a = some e := by
 cases o with
 | none => simp [bindO] at h
 | some a => exact ⟨a,rfl,h⟩
def Fr.noEnv (fr : Fr) : Fr := { fr with env := fun _ => .v .any }
theorem Fr.put_noEnv (fr : Fr) (d : Option Nat) (e : EV) : (fr.put d e).noEnv = fr.noEnv := by cases d <;> rfl
theorem Fr.put_loc (fr : Fr) (d : Option Nat) (e : EV) : (fr.put d e).loc = fr.loc := by cases d <;> rfl
theorem Fr.put_env (fr : Fr) (d : Option Nat) (e : EV) (t : Nat) (h : d ≠ some t) : (fr.put d e).env t = fr.env t := by
 cases d with
 | none => rfl
 | some d => exact if_neg (fun he => h (by rw [he]))
theorem Fr.noEnv_loc {fr fr' : Fr} (h : fr.noEnv = fr'.noEnv) : fr.loc = fr'.loc := by
 have := congrArg Fr.loc h
 exact this
theorem Fr.noEnv_dfr {fr fr' : Fr} (h : fr.noEnv = fr'.noEnv) : fr.dfr = fr'.dfr := by
 have := congrArg Fr.dfr h
 exact this
theorem Fr.ext' {fr fr' : Fr} (h1 : ∀ t,fr.env t = fr'.env t) (h2 : fr.loc = fr'.loc) (h3 : fr.dfr = fr'.dfr) : fr = fr' := by
 obtain ⟨e,l,d⟩ := fr
 obtain ⟨e',l',d'⟩ := fr'
 obtain rfl : e = e' := funext h1
 obtain rfl : l = l' := h2
 obtain rfl : d = d' := h3
 rfl
theorem Fr.put_comm (fr : Fr) {d d' : Option Nat} (e e' : EV) (h : ∀ t,d = some t → d' ≠ some t) : (fr.put d e).put d' e' = (fr.put d' e').put d e := by
 cases d with
 | none => rfl
 | some t => cases d' with
  | none => rfl
  | some t' =>
   refine Fr.ext' (fun k => ?_) rfl rfl
   have : t ≠ t' := fun he => h t rfl (by rw [he])
   simp only [Fr.put]
   by_cases h1 : k = t'
   ·subst h1; simp [Ne.symm this]
   ·simp [h1]
section
variable {P : Program} {locs : List Nat} {call : CallP}
structure CallMono (call : CallP) : Prop where
 mono : ∀ {f : FuncId} {args : List PV} {σ : St} {R R' : Res → St → Prop},(∀ x σ,R x σ → R' x σ) → call f args σ R → call f args σ R'
def run1 (call : CallP) (P : Program) (locs : List Nat) (all : List Oper) (t : Task) (fr : Fr) (σ : St) (K : Fr → St → Prop) (X : PV → Fr → St → Prop) : Prop :=
 match t.o.guard with
 | none => opC (algP call) P locs t.clean t.strict t.o fr σ K X
 | some g => match all[g.1]? with
  | some oj => (match oj.dst with
   | some d => if guardable d t.o = true then
     (match gOk (fr.env d).pv g.2 with
     | some true => opV (algP call) P t.clean t.strict t.o fr σ (fun e σ => K (fr.put t.o.dst e) σ) (fun v σ => X v fr σ)
     | some false => K (fr.put t.o.dst (.v (.tuple []))) σ
     | none => False)
    else False
   | none => False)
  | none => False
def runL (call : CallP) (P : Program) (locs : List Nat) (all : List Oper) : List Task → Fr → St → (Fr → St → Prop) → (PV → Fr → St → Prop) → Prop
 | [],fr,σ,K,X => K fr σ
 | t :: ts,fr,σ,K,X => run1 call P locs all t fr σ (fun fr σ => runL call P locs all ts fr σ K X) X
theorem takeRun_spec (g : Nat × Bool) : ∀ (ts : List Task),ts = (takeRun g ts).1 ++ (takeRun g ts).2 ∧ ∀ t ∈ (takeRun g ts).1,t.o.guard = some g
 | [] => ⟨rfl,by simp [takeRun]⟩
 | o :: os => by
  obtain ⟨h1,h2⟩ := takeRun_spec g os
  simp only [takeRun]
  split
  ·rename_i hg
   refine ⟨by rw [List.cons_append,← h1],fun o' ho' => ?_⟩
   rcases List.mem_cons.1 ho' with rfl | ho'
   ·exact hg
   ·exact h2 o' ho'
  ·exact ⟨rfl,by simp⟩
theorem mem_dstsOf {t : Task} {d : Nat} (hd : t.o.dst = some d) : ∀ (ts : List Task),t ∈ ts → d ∈ dstsOf ts
 | [],h => by simp at h
 | t' :: ts,h => by
  simp only [dstsOf]
  rcases List.mem_cons.1 h with rfl | h
  ·rw [hd]; simp
  ·have := mem_dstsOf hd ts h
   split
   ·exact List.mem_cons_of_mem _ this
   ·exact this
theorem lookE_map (f : Nat → EV) : ∀ (l : List Nat) (t : Nat),l.contains t = true → lookE (l.map (fun t => (t,f t))) t = f t
 | [],t,h => by simp at h
 | k :: l,t,h => by
  simp only [List.map_cons,lookE]
  split
  ·rename_i he; subst he; rfl
  ·rename_i he
   exact lookE_map f l t (by simpa [he] using h)
theorem dstsOf_cons (t : Task) (ts : List Task) : dstsOf (t :: ts) = t.o.dst.toList ++ dstsOf ts := by
 simp only [dstsOf]
 cases t.o.dst <;> rfl
theorem opV_mono (hm : CallMono call) {c s : Bool} {o : Oper} {fr : Fr} {σ : St} {K K' : EV → St → Prop} {X X' : PV → St → Prop} (hK : ∀ e σ,K e σ → K' e σ) (hX : ∀ v σ,X v σ → X' v σ)
  (h : opV (algP call) P c s o fr σ K X) : opV (algP call) P c s o fr σ K' X' := opV_rel (algP_mono (call := call) (call' := call) fun hR h => hm.mono hR h) hK hX h
theorem opC_mono (hm : CallMono call) {c s : Bool} {o : Oper} {fr : Fr} {σ : St} {K K' : Fr → St → Prop} {X X' : PV → Fr → St → Prop} (hK : ∀ e σ,K e σ → K' e σ) (hX : ∀ v fr σ,X v fr σ → X' v fr σ)
  (h : opC (algP call) P locs c s o fr σ K X) : opC (algP call) P locs c s o fr σ K' X' := opC_rel (algP_mono (call := call) (call' := call) fun hR h => hm.mono hR h) hK hX h
theorem run1_mono (hm : CallMono call) {all : List Oper} {t : Task} {fr : Fr} {σ : St} {K K' : Fr → St → Prop} {X X' : PV → Fr → St → Prop} (hK : ∀ e σ,K e σ → K' e σ) (hX : ∀ v fr σ,X v fr σ → X' v fr σ)
  (h : run1 call P locs all t fr σ K X) : run1 call P locs all t fr σ K' X' := by
 revert h
 unfold run1
 cases t.o.guard with
 | none => exact fun h => opC_mono hm hK hX h
 | some g =>
  simp only
  cases all[g.1]? with
  | none => exact fun h => h
  | some oj =>
   simp only
   cases oj.dst with
   | none => exact fun h => h
   | some d =>
    simp only
    split
    ·cases hb : gOk (fr.env d).pv g.2 with
     | none => exact fun h => h
     | some b =>
      cases b with
      | true => exact fun h => opV_mono hm (fun _ _ => hK _ _) (fun _ _ => hX _ _ _) h
      | false => exact fun h => hK _ _ h
    ·exact fun h => h
theorem seq_runL (hm : CallMono call) {all : List Oper} {g : Nat × Bool} {d : Nat} {oj : Oper} {rest : List Task} {K1 : Fr → St → Prop} {X1 : PV → St → Prop} {K : Fr → St → Prop} {X : PV → Fr → St → Prop} {fr₀ : Fr} {D : List Nat}
  (hoj : all[g.1]? = some oj) (hd : oj.dst = some d)
  (hK : ∀ fr' σ',K1 fr' σ' → fr'.noEnv = fr₀.noEnv → (∀ t,t ∉ D → fr'.env t = fr₀.env t) → runL call P locs all rest fr' σ' K X)
  (hX : ∀ v fr' σ',X1 v σ' → fr'.noEnv = fr₀.noEnv → X v fr' σ') :
  ∀ (run : List Task) (fr : Fr) (σ : St),(∀ t ∈ run,t.o.guard = some g ∧ guardable d t.o = true ∧ ∀ e,t.o.dst = some e → e ∈ D) → gOk (fr.env d).pv g.2 = some true → fr.noEnv = fr₀.noEnv → (∀ t,t ∉ D → fr.env t = fr₀.env t) →
   seqC (algP call) P run fr σ K1 X1 → runL call P locs all (run ++ rest) fr σ K X
 | [],fr,σ,hrun,hb,h1,h2,h => hK fr σ h h1 h2
 | t :: run,fr,σ,hrun,hb,h1,h2,h => by
  obtain ⟨g1,g2,g3⟩ := hrun t (by simp)
  simp only [List.cons_append,runL,run1,g1,hoj,hd,g2,if_true,hb]
  simp only [seqC] at h
  have hdd : t.o.dst ≠ some d := by
   simp only [guardable,Bool.and_eq_true,bne_iff_ne] at g2
   exact g2.2
  refine opV_mono hm (fun e σ' hs => ?_) (fun v σ' hx => hX v fr σ' hx h1) h
  refine seq_runL hm hoj hd hK hX run _ σ' (fun t' ht' => hrun t' (by simp [ht'])) ?_ ?_ (fun k hk => ?_) hs
  ·rw [Fr.put_env _ _ _ _ hdd]; exact hb
  ·rw [Fr.put_noEnv]; exact h1
  ·rw [Fr.put_env _ _ _ _ (fun he => hk (g3 k he))]; exact h2 k hk
theorem puts_put (fr : Fr) (d : Option Nat) (ds : List Nat) (e : EV) : (fr.put d e).puts ds (fun _ => e) = fr.puts (d.toList ++ ds) (fun _ => e) := by
 cases d with
 | none => rfl
 | some d =>
  simp only [Fr.puts,Fr.put]
  congr 1
  funext t
  by_cases h1 : ds.contains t = true
  ·simp only [h1,if_true]
   rw [if_pos]
   simp at h1 ⊢
   exact .inr h1
  ·simp only [h1,Bool.false_eq_true,if_false]
   by_cases h2 : t = d
   ·subst h2
    rw [if_pos rfl,if_pos (by simp)]
   ·rw [if_neg h2,if_neg (by simp at h1 ⊢; exact ⟨h2,h1⟩)]
theorem skip_runL {all : List Oper} {g : Nat × Bool} {d : Nat} {oj : Oper} {rest : List Task} {K : Fr → St → Prop} {X : PV → Fr → St → Prop} {σ : St} (hoj : all[g.1]? = some oj) (hd : oj.dst = some d) :
  ∀ (run : List Task) (fr : Fr),(∀ t ∈ run,t.o.guard = some g ∧ guardable d t.o = true) → gOk (fr.env d).pv g.2 = some false → runL call P locs all rest (fr.puts (dstsOf run) (fun _ => .v (.tuple []))) σ K X → runL call P locs all (run ++ rest) fr σ K X
 | [],fr,hrun,hb,h => by
  have : fr.puts (dstsOf []) (fun _ => .v (.tuple [])) = fr := by simp [Fr.puts,dstsOf]
  rw [this] at h
  exact h
 | t :: run,fr,hrun,hb,h => by
  obtain ⟨g1,g2⟩ := hrun t (by simp)
  have hdd : t.o.dst ≠ some d := by
   simp only [guardable,Bool.and_eq_true,bne_iff_ne] at g2
   exact g2.2
  simp only [List.cons_append,runL,run1,g1,hoj,hd,g2,if_true,hb]
  refine skip_runL hoj hd run _ (fun t' ht' => hrun t' (by simp [ht'])) ?_ ?_
  ·rw [Fr.put_env _ _ _ _ hdd]; exact hb
  ·rw [puts_put,← dstsOf_cons]; exact h
theorem opsC_runL (hm : CallMono call) {all : List Oper} {K : Fr → St → Prop} {X : PV → Fr → St → Prop} (hX : ∀ v fr fr' σ,fr.noEnv = fr'.noEnv → X v fr σ → X v fr' σ) :
  ∀ (n : Nat) (ts : List Task) (fr : Fr) (σ : St),opsC (algP call) P locs all n ts fr σ K X → runL call P locs all ts fr σ K X
 | 0,[],fr,σ,h => h
 | 0,_ :: _,fr,σ,h => h.elim
 | n + 1,[],fr,σ,h => h
 | n + 1,t :: ts,fr,σ,h => by
  simp only [opsC] at h
  split at h
  ·rename_i hgd
   simp only [runL,run1,hgd]
   exact opC_mono hm (fun fr σ h => opsC_runL hm hX n ts fr σ h) (fun _ _ _ h => h) h
  ·rename_i g hgd
   split at h
   ·rename_i oj hoj
    split at h
    ·rename_i d hdj
     split at h
     ·rename_i hall
      obtain ⟨hsp,hgs⟩ := takeRun_spec g ts
      generalize (takeRun g ts).1 = run at hsp hgs hall h
      generalize (takeRun g ts).2 = rest at hsp h
      have hrun : ∀ t' ∈ t :: run,t'.o.guard = some g ∧ guardable d t'.o = true := by
       intro t' ht'
       refine ⟨?_,List.all_eq_true.1 hall t' ht'⟩
       rcases List.mem_cons.1 ht' with rfl | ht'
       ·exact hgd
       ·exact hgs _ ht'
      rw [hsp,← List.cons_append]
      unfold guardG at h
      split at h
      ·rename_i hb
       ·refine seq_runL hm (fr₀ := fr) (D := dstsOf (t :: run)) (X1 := fun v σ => X v fr σ) hoj hdj (fun fr' σ' hk e1 e2 => ?_) (fun v fr' σ' hx e1 => hX _ _ _ _ e1.symm hx) (t :: run) fr σ (fun t' ht' => ⟨(hrun t' ht').1,(hrun t' ht').2,fun e he => mem_dstsOf he _ ht'⟩) hb rfl (fun _ _ => rfl) h
        have : fr.puts (dstsOf (t :: run)) (lookE ((dstsOf (t :: run)).map fun d => (d,fr'.env d))) = fr' := by
         refine Fr.ext' (fun k => ?_) (Fr.noEnv_loc e1).symm (Fr.noEnv_dfr e1).symm
         simp only [Fr.puts]
         split
         ·rename_i hk
          exact lookE_map fr'.env _ _ hk
         ·rename_i hk
          exact (e2 k (by simpa using hk)).symm
        simp only [this] at hk
        exact opsC_runL hm hX n rest fr' σ' hk
      ·rename_i hb
       exact skip_runL hoj hdj (t :: run) fr hrun hb (opsC_runL hm hX n rest _ σ h)
      ·exact h.elim
     ·exact h.elim
    ·exact h.elim
   ·exact h.elim
end
end Go.Abs
namespace Go.Abs
section
variable {P : Program} {locs : List Nat} {call : CallP}
def algO : Alg (Option EV) where
 fail := none
 call _ _ _ _ := none
 same _ _ _ := none
 all _ _ := none
 loop _ _ _ _ := none
 cut _ _ _ := none
 weak _ _ _ _ := none
 both _ _ := none
def pureV (P : Program) (c s : Bool) (o : Oper) (fr : Fr) (σ : St) : Option EV := opV algO P c s o fr σ (fun e _ => some e) (fun _ _ => none)
theorem bindO_par' {ρ ρ' : Type} {r : ρ → ρ' → Prop} {fa : ρ} {fb : ρ'} (hf : r fa fb) {α : Type} {o : Option α} {K : α → ρ} {K' : α → ρ'} (hK : ∀ a,r (K a) (K' a)) : r (bindO fa o K) (bindO fb o K') := by
 cases o with
 | none => exact hf
 | some a => exact hK a
theorem ite_par {ρ ρ' : Type} {r : ρ → ρ' → Prop} {c : Prop} [Decidable c] {a b : ρ} {a' b' : ρ'} (ha : r a a') (hb : r b b') : r (if c then a else b) (if c then a' else b') := by
 split
 ·exact ha
 ·exact hb
theorem opV_par {ρ ρ' : Type} {r : ρ → ρ' → Prop} {A : Alg ρ} {B : Alg ρ'} (hf : r A.fail B.fail) {c s : Bool} {o : Oper} {fr : Fr} {σ : St} {K : EV → St → ρ} {X : PV → St → ρ} {K' : EV → St → ρ'} {X' : PV → St → ρ'} (hp : isP o = true) (hK : ∀ e,r (K e σ) (K' e σ)) :
  r (opV A P c s o fr σ K X) (opV B P c s o fr σ K' X') := by
 obtain ⟨dst,op,type,pos,after,guard⟩ := o
 have bb {α : Type} {o : Option α} {K : α → ρ} {K' : α → ρ'} (hK : ∀ a,r (K a) (K' a)) : r (bindO A.fail o K) (bindO B.fail o K') := bindO_par' hf hK
 cases op with
 | call q =>
  obtain ⟨callee,args,argTypes⟩ := q
  cases callee with
  | builtin b =>
   cases b with
   | len =>
    simp only [opV]
    split
    ·exact bb fun k => bb fun x => hK _
    ·exact hf
   | min =>
    simp only [opV]
    split
    ·exact bb fun k => hK _
    ·exact hf
   | max =>
    simp only [opV]
    split
    ·exact bb fun k => hK _
    ·exact hf
   | _ => simp [isP] at hp
  | _ => simp [isP] at hp
 | convert s d x =>
  have hp' : cvPure s d = true ∨ cvRead s d = true := by simpa [isP] using hp
  simp only [opV]
  by_cases hcp : cvPure s d = true
  ·simp only [hcp,if_true]
   repeat first
    | exact hK _
    | exact hf
    | refine bb fun _ => ?_
    | refine ite_par ?_ ?_
    | split
  ·simp only [hcp,if_false,hp'.resolve_left hcp,if_true]
   repeat first
    | exact hK _
    | exact hf
    | refine bb fun _ => ?_
    | refine ite_par ?_ ?_
    | split
 | load | move | assign | pick | build | buildSlice | nilCheck | binOp | unOp | makeFunc | slice | fieldAddr | field | indexAddr | index | extract | makeInterface | typeAssert | lookup | entry =>
  simp only [opV]
  repeat first
   | exact hK _
   | exact hf
   | refine bb fun _ => ?_
   | refine ite_par ?_ ?_
   | split
 | _ => simp [isP] at hp
theorem opV_pure {c s : Bool} {o : Oper} {fr : Fr} {σ : St} {K : EV → St → Prop} {X : PV → St → Prop} (hp : isP o = true) :
  opV (algP call) P c s o fr σ K X ↔ ∃ e,pureV P c s o fr σ = some e ∧ K e σ := by
 refine opV_par (r := fun (p : Prop) (q : Option EV) => p ↔ ∃ e,q = some e ∧ K e σ) (B := algO) ?_ hp (fun e => ?_)
 ·exact ⟨fun h => h.elim,fun ⟨e,h,_⟩ => by cases h⟩
 ·exact ⟨fun h => ⟨e,rfl,h⟩,fun ⟨e',h,h'⟩ => by cases h; exact h'⟩
theorem evP_congr {fr fr' : Fr} {x : Operand} (h : evE fr x = evE fr' x) : evP fr x = evP fr' x := by unfold evP; rw [h]
theorem partsOf_congr {fr fr' : Fr} {pl : List (Nat × Nat)} : ∀ (l : List (Nat × Operand)),(∀ p ∈ l,evE fr p.2 = evE fr' p.2) → partsOf pl fr l = partsOf pl fr' l
 | [],h => rfl
 | (i,x) :: l,h => by
   simp only [partsOf]
   rw [partsOf_congr l (fun p hp => h p (by simp [hp])),evP_congr (h (i,x) (by simp))]
theorem map_evP_congr {fr fr' : Fr} (l : List Operand) (h : ∀ x ∈ l,evE fr x = evE fr' x) : l.map (evP fr) = l.map (evP fr') :=
 List.map_congr_left fun x hx => evP_congr (h x hx)
theorem opV_congr {ρ : Type} {A : Alg ρ} {c s : Bool} {o : Oper} {fr fr' : Fr} {σ : St} {K : EV → St → ρ} {X : PV → St → ρ} (h : ∀ x ∈ o.op.operands,evE fr x = evE fr' x) (hl : isLoad o = false ∨ c = true ∨ fr.loc = fr'.loc) :
  opV A P c s o fr σ K X = opV A P c s o fr' σ K X := by
 obtain ⟨dst,op,type,pos,after,guard⟩ := o
 cases op with
 | call q =>
  obtain ⟨callee,args,argTypes⟩ := q
  simp only [Op.operands,Call.operands] at h
  cases callee with
  | builtin b =>
   cases b with
   | len =>
    simp only [opV]
    split
    ·rename_i x t hx ht
     have : evP fr x = evP fr' x := evP_congr (h x (by simp [← Array.mem_toList_iff,hx]))
     rw [this]
    ·rfl
   | append =>
    simp only [opV]
    split
    ·rename_i x y t t2 hx ht
     have h1 : evP fr x = evP fr' x := evP_congr (h x (by simp [← Array.mem_toList_iff,hx]))
     have h2 : evP fr y = evP fr' y := evP_congr (h y (by simp [← Array.mem_toList_iff,hx]))
     rw [h1,h2]
    ·rfl
   | min =>
    simp only [opV]
    split
    ·rename_i x y hx
     have h1 : evP fr x = evP fr' x := evP_congr (h x (by simp [← Array.mem_toList_iff,hx]))
     have h2 : evP fr y = evP fr' y := evP_congr (h y (by simp [← Array.mem_toList_iff,hx]))
     rw [h1,h2]
    ·rfl
   | max =>
    simp only [opV]
    split
    ·rename_i x y hx
     have h1 : evP fr x = evP fr' x := evP_congr (h x (by simp [← Array.mem_toList_iff,hx]))
     have h2 : evP fr y = evP fr' y := evP_congr (h y (by simp [← Array.mem_toList_iff,hx]))
     rw [h1,h2]
    ·rfl
   | cap =>
    simp only [opV]
    split
    ·rename_i x t hx ht
     have : evP fr x = evP fr' x := evP_congr (h x (by simp [← Array.mem_toList_iff,hx]))
     rw [this]
    ·rfl
   | delete =>
    simp only [opV]
    split
    ·rename_i x y t t2 hx ht
     have h1 : evP fr x = evP fr' x := evP_congr (h x (by simp [← Array.mem_toList_iff,hx]))
     have h2 : evP fr y = evP fr' y := evP_congr (h y (by simp [← Array.mem_toList_iff,hx]))
     rw [h1,h2]
    ·rfl
   | _ => rfl
  | value f =>
   simp only [opV]
   have h1 : evP fr f = evP fr' f := evP_congr (h f (by simp))
   have h2 : args.toList.map (evP fr) = args.toList.map (evP fr') := map_evP_congr _ fun x hx => h x (by simp at hx; simp [hx])
   rw [h1,h2]
  | invoke _ _ => rfl
 | load t a =>
  have ha := h a (by simp [Op.operands])
  rcases hl.resolve_left (by simp [isLoad]) with hl' | hl'
  ·subst hl'
   simp only [opV,ha]
  ·simp only [opV,ha,hl']
 | build t parts =>
  simp only [Op.operands] at h
  simp only [opV]
  have : ∀ pl,partsOf pl fr parts.toList = partsOf pl fr' parts.toList := fun pl => partsOf_congr _ fun p hp => h p.2 (by simp; exact ⟨p.1,by simpa using hp⟩)
  simp only [this]
 | buildSlice t n parts =>
  simp only [Op.operands] at h
  simp only [opV]
  have : (parts.toList.map fun (i,x) => (i,evP fr x)) = (parts.toList.map fun (i,x) => (i,evP fr' x)) := List.map_congr_left fun p hp => by
   have := evP_congr (h p.2 (by simp; exact ⟨p.1,by simpa using hp⟩))
   simp only [this]
  simp only [this]
 | makeFunc fn first caps =>
  simp only [Op.operands] at h
  simp only [opV]
  have : caps.toList.map (evP fr) = caps.toList.map (evP fr') := map_evP_congr _ fun x hx => h x (by simp at hx; simp [hx])
  have this2 : first.toList.map (evP fr) = first.toList.map (evP fr') := map_evP_congr _ fun x hx => h x (by simp at hx; simp [hx])
  simp only [this,this2]
 | slice t x lo hi mx =>
  have hx := evP_congr (h x (by simp [Op.operands]))
  have hlo : lo.map (evP fr) = lo.map (evP fr') := by
   cases lo with
   | none => rfl
   | some y => simp only [Option.map_some]; rw [evP_congr (h y (by simp [Op.operands]))]
  have hhi : hi.map (evP fr) = hi.map (evP fr') := by
   cases hi with
   | none => rfl
   | some y => simp only [Option.map_some]; rw [evP_congr (h y (by simp [Op.operands]))]
  have hmx : mx.map (evP fr) = mx.map (evP fr') := by
   cases mx with
   | none => rfl
   | some y => simp only [Option.map_some]; rw [evP_congr (h y (by simp [Op.operands]))]
  simp only [opV,hx,hlo,hhi,hmx]
 | _ =>
  simp only [Op.operands] at h
  try simp only [opV,evP]
  try (simp_all; done)
theorem partsOf_congrP {fr fr' : Fr} {pl : List (Nat × Nat)} : ∀ (l : List (Nat × Operand)),(∀ p ∈ l,evP fr p.2 = evP fr' p.2) → partsOf pl fr l = partsOf pl fr' l
 | [],h => rfl
 | (i,x) :: l,h => by
   simp only [partsOf]
   rw [partsOf_congrP l (fun p hp => h p (by simp [hp])),h (i,x) (by simp)]
def looksE (o : Oper) : Bool :=
 match o.op with
 | .load .. => true
 | .move _ => true
 | .assign _ => true
 | .nilCheck _ => true
 | .fieldAddr .. => true
 | _ => false
theorem opV_congrP {ρ : Type} {A : Alg ρ} {c s : Bool} {o : Oper} {fr fr' : Fr} {σ : St} {K : EV → St → ρ} {X : PV → St → ρ} (h : ∀ x ∈ o.op.operands,evP fr x = evP fr' x) (hl : looksE o = false) :
  opV A P c s o fr σ K X = opV A P c s o fr' σ K X := by
 obtain ⟨dst,op,type,pos,after,guard⟩ := o
 cases op with
 | call q =>
  obtain ⟨callee,args,argTypes⟩ := q
  simp only [Op.operands,Call.operands] at h
  cases callee with
  | builtin b =>
   cases b with
   | len =>
    simp only [opV]
    split
    ·rename_i x t hx ht
     have : evP fr x = evP fr' x := h x (by simp [← Array.mem_toList_iff,hx])
     rw [this]
    ·rfl
   | append =>
    simp only [opV]
    split
    ·rename_i x y t t2 hx ht
     have h1 : evP fr x = evP fr' x := h x (by simp [← Array.mem_toList_iff,hx])
     have h2 : evP fr y = evP fr' y := h y (by simp [← Array.mem_toList_iff,hx])
     rw [h1,h2]
    ·rfl
   | min =>
    simp only [opV]
    split
    ·rename_i x y hx
     have h1 : evP fr x = evP fr' x := h x (by simp [← Array.mem_toList_iff,hx])
     have h2 : evP fr y = evP fr' y := h y (by simp [← Array.mem_toList_iff,hx])
     rw [h1,h2]
    ·rfl
   | max =>
    simp only [opV]
    split
    ·rename_i x y hx
     have h1 : evP fr x = evP fr' x := h x (by simp [← Array.mem_toList_iff,hx])
     have h2 : evP fr y = evP fr' y := h y (by simp [← Array.mem_toList_iff,hx])
     rw [h1,h2]
    ·rfl
   | cap =>
    simp only [opV]
    split
    ·rename_i x t hx ht
     have : evP fr x = evP fr' x := h x (by simp [← Array.mem_toList_iff,hx])
     rw [this]
    ·rfl
   | delete =>
    simp only [opV]
    split
    ·rename_i x y t t2 hx ht
     have h1 : evP fr x = evP fr' x := h x (by simp [← Array.mem_toList_iff,hx])
     have h2 : evP fr y = evP fr' y := h y (by simp [← Array.mem_toList_iff,hx])
     rw [h1,h2]
    ·rfl
   | _ => rfl
  | value f =>
   simp only [opV]
   have h1 : evP fr f = evP fr' f := h f (by simp)
   have h2 : args.toList.map (evP fr) = args.toList.map (evP fr') := List.map_congr_left fun x hx => h x (by simp at hx; simp [hx])
   rw [h1,h2]
  | invoke _ _ => rfl
 | load t a => simp [looksE] at hl
 | move a => simp [looksE] at hl
 | assign a => simp [looksE] at hl
 | nilCheck a => simp [looksE] at hl
 | fieldAddr t a f => simp [looksE] at hl
 | build t parts =>
  simp only [Op.operands] at h
  simp only [opV]
  have : ∀ pl,partsOf pl fr parts.toList = partsOf pl fr' parts.toList := fun pl => partsOf_congrP _ fun p hp => h p.2 (by simp; exact ⟨p.1,by simpa using hp⟩)
  simp only [this]
 | buildSlice t n parts =>
  simp only [Op.operands] at h
  simp only [opV]
  have : (parts.toList.map fun (i,x) => (i,evP fr x)) = (parts.toList.map fun (i,x) => (i,evP fr' x)) := List.map_congr_left fun p hp => by
   have := h p.2 (by simp; exact ⟨p.1,by simpa using hp⟩)
   simp only [this]
  simp only [this]
 | makeFunc fn first caps =>
  simp only [Op.operands] at h
  simp only [opV]
  have : caps.toList.map (evP fr) = caps.toList.map (evP fr') := List.map_congr_left fun x hx => h x (by simp at hx; simp [hx])
  have this2 : first.toList.map (evP fr) = first.toList.map (evP fr') := List.map_congr_left fun x hx => h x (by simp at hx; simp [hx])
  simp only [this,this2]
 | slice t x lo hi mx =>
  have hx := h x (by simp [Op.operands])
  have hlo : lo.map (evP fr) = lo.map (evP fr') := by
   cases lo with
   | none => rfl
   | some y => simp only [Option.map_some]; rw [h y (by simp [Op.operands])]
  have hhi : hi.map (evP fr) = hi.map (evP fr') := by
   cases hi with
   | none => rfl
   | some y => simp only [Option.map_some]; rw [h y (by simp [Op.operands])]
  have hmx : mx.map (evP fr) = mx.map (evP fr') := by
   cases mx with
   | none => rfl
   | some y => simp only [Option.map_some]; rw [h y (by simp [Op.operands])]
  simp only [opV,hx,hlo,hhi,hmx]
 | _ =>
  simp only [Op.operands] at h
  try simp only [opV]
  try (simp_all; done)
end
end Go.Abs
namespace Go.Abs
section
variable {P : Program} {locs : List Nat} {call : CallP}
theorem vLoad_ext {ag : Bool} {sz : Nat} {p x : PV} {σ g : St} (h : vLoad ag sz p σ = some x) : vLoad ag sz p (σ ++ g) = some x := by
 cases p with
 | ptr b gg i off =>
  simp only [vLoad] at h ⊢
  cases hb : σ[b]? with
  | none => simp [hb] at h
  | some k =>
   rw [hb] at h
   rw [List.getElem?_append_left (List.getElem?_eq_some_iff.1 hb).1,hb]
   exact h
 | _ => exact h
theorem vLen_ext {k : LenK} {x r : PV} {σ g : St} (h : vLen k x σ = some r) : vLen k x (σ ++ g) = some r := by
 cases k <;> cases x <;> first | exact h | skip
 rename_i b
 simp only [vLen] at h ⊢
 cases hb : σ[b]? with
 | none => simp [hb] at h
 | some k =>
  rw [hb] at h
  rw [List.getElem?_append_left (List.getElem?_eq_some_iff.1 hb).1,hb]
  exact h
theorem vLookup_ext {k : EK1} {z m key r : PV} {ok : Bool} {σ g : St} (h : vLookup k z ok m key σ = some r) : vLookup k z ok m key (σ ++ g) = some r := by
 cases m with
 | mref b =>
  simp only [vLookup] at h ⊢
  cases hb : σ[b]? with
  | none => simp [hb] at h
  | some k =>
   rw [hb] at h
   rw [List.getElem?_append_left (List.getElem?_eq_some_iff.1 hb).1,hb]
   exact h
 | _ => exact h
theorem vEntry_ext {p r : PV} {σ g : St} (h : vEntry p σ = some r) : vEntry p (σ ++ g) = some r := by
 unfold vEntry at h ⊢
 split at h
 ·rename_i b
  cases hb : σ[b]? with
  | none => simp [hb] at h
  | some k =>
   rw [hb] at h
   simp only [List.getElem?_append_left (List.getElem?_eq_some_iff.1 hb).1,hb]
   split at h
   ·rename_i mb n i left hk
    cases hk
    cases hm : σ[mb]? with
    | none => simp [hm] at h
    | some k' =>
     rw [hm] at h
     simp only [List.getElem?_append_left (List.getElem?_eq_some_iff.1 hm).1,hm]
     exact h
   ·cases h
 ·cases h
theorem vElems_ext {x : PV} {σ g : St} {l : List PV} (h : vElems x σ = some l) : vElems x (σ ++ g) = some l := by
 cases x with
 | sref b gg z off len =>
  simp only [vElems] at h ⊢
  cases hb : σ[b]? with
  | none => simp [hb] at h
  | some k =>
   rw [hb] at h
   rw [List.getElem?_append_left (List.getElem?_eq_some_iff.1 hb).1,hb]
   exact h
 | _ => exact h
theorem vToStr_ext {x r : PV} {σ g : St} (h : vToStr x σ = some r) : vToStr x (σ ++ g) = some r := by
 cases x with
 | sref b gg z off len =>
  simp only [vToStr] at h ⊢
  cases hv : vElems (.sref b gg z off len) σ with
  | none => rw [hv] at h; cases h
  | some l =>
   rw [hv] at h
   rw [vElems_ext hv]
   exact h
 | _ => exact h
theorem pureV_still {c s : Bool} {o : Oper} {fr : Fr} {σ σ' : St} (hp : isP o = true) (h : readsP o = false ∨ s = true) : pureV P c s o fr σ = pureV P c s o fr σ' := by
 rcases h with h | rfl
 ·obtain ⟨dst,op,type,pos,after,guard⟩ := o
  cases op with
  | load => simp [readsP] at h
  | lookup => simp [readsP] at h
  | entry => simp [readsP] at h
  | call => simp [readsP] at h
  | convert s d x =>
   have hp' : cvPure s d = true := by simpa [readsP] using h
   simp only [pureV,opV,hp',if_true]
  | move | assign | pick | build | buildSlice | nilCheck | binOp | unOp | makeFunc | slice | fieldAddr | field | indexAddr | index | extract | makeInterface | typeAssert => rfl
  | _ => simp [isP] at hp
 ·obtain ⟨dst,op,type,pos,after,guard⟩ := o
  cases op with
  | call q =>
   obtain ⟨callee,args,argTypes⟩ := q
   cases callee with
   | builtin b =>
    cases b with
    | len => rfl
    | min => rfl
    | max => rfl
    | _ => simp [isP] at hp
   | _ => simp [isP] at hp
  | convert s d x =>
   have hp' : cvPure s d = true ∨ cvRead s d = true := by simpa [isP] using hp
   by_cases hcp : cvPure s d = true
   ·simp only [pureV,opV,hcp,if_true]
   ·simp only [pureV,opV,hcp,if_false,hp'.resolve_left hcp,if_true,rdOf]
  | load | lookup | entry | move | assign | pick | build | buildSlice | nilCheck | binOp | unOp | makeFunc | slice | fieldAddr | field | indexAddr | index | extract | makeInterface | typeAssert => rfl
  | _ => simp [isP] at hp
theorem pureV_ext {c s : Bool} {o : Oper} {fr : Fr} {σ g : St} {e : EV} (hp : isP o = true) (h : pureV P c s o fr σ = some e) : pureV P c s o fr (σ ++ g) = some e := by
 cases s with
 | true => rw [pureV_still (σ' := σ) hp (.inr rfl)]; exact h
 | false =>
  cases hr : readsP o with
  | false => rw [pureV_still (σ' := σ) hp (.inl hr)]; exact h
  | true =>
   obtain ⟨dst,op,type,pos,after,guard⟩ := o
   cases op with
   | load t a =>
    simp only [pureV,opV,algO,rdOf] at h ⊢
    obtain ⟨ag,h1,h⟩ := bindO_some' h
    obtain ⟨sz,h2,h⟩ := bindO_some' h
    simp only [h1,h2,bindO]
    split at h
    ·exact h
    ·obtain ⟨x,h3,h⟩ := bindO_some' h
     rw [vLoad_ext h3]
     exact h
   | lookup t x i ok =>
    simp only [pureV,opV,algO,rdOf] at h ⊢
    obtain ⟨ke,h1,h⟩ := bindO_some' h
    obtain ⟨ek,h2,h⟩ := bindO_some' h
    obtain ⟨z,h3,h⟩ := bindO_some' h
    obtain ⟨y,h4,h⟩ := bindO_some' h
    simp only [h1,h2,h3,bindO,vLookup_ext h4]
    exact h
   | entry x =>
    simp only [pureV,opV,algO,rdOf] at h ⊢
    obtain ⟨y,h4,h⟩ := bindO_some' h
    simp only [bindO,vEntry_ext h4]
    exact h
   | convert s d x =>
    have hcp : ¬ cvPure s d = true := by simpa [readsP] using hr
    have hp' : cvRead s d = true := by
     have : cvPure s d = true ∨ cvRead s d = true := by simpa [isP] using hp
     exact this.resolve_left hcp
    simp only [pureV,opV,algO,rdOf,hcp,if_false,hp',if_true] at h ⊢
    obtain ⟨us,h1,h⟩ := bindO_some' h
    obtain ⟨c,h2,h⟩ := bindO_some' h
    simp only [h1,h2,bindO]
    cases c with
    | toStr =>
     simp only at h ⊢
     obtain ⟨y,h3,h⟩ := bindO_some' h
     simp only [vToStr_ext h3,bindO]
     exact h
    | _ => exact h
   | call q =>
    obtain ⟨callee,args,argTypes⟩ := q
    cases callee with
    | builtin b =>
     cases b with
     | len =>
      simp only [pureV,opV,algO,rdOf] at h ⊢
      split at h
      ·obtain ⟨k,h1,h⟩ := bindO_some' h
       obtain ⟨x,h2,h⟩ := bindO_some' h
       simp only [h1,bindO,vLen_ext h2]
       exact h
      ·cases h
     | min => exact h
     | max => exact h
     | _ => simp [isP] at hp
    | _ => simp [isP] at hp
   | _ => simp [readsP] at hr
def valT (P : Program) (all : List Oper) (t : Task) (fr : Fr) (σ : St) : Option EV :=
 match t.o.guard with
 | none => pureV P t.clean t.strict t.o fr σ
 | some g => match all[g.1]? with
  | some oj => (match oj.dst with
   | some d => if guardable d t.o = true then
     (match gOk (fr.env d).pv g.2 with
     | some true => pureV P t.clean t.strict t.o fr σ
     | some false => some (.v (.tuple []))
     | none => none)
    else none
   | none => none)
  | none => none
theorem opC_isP {ρ : Type} {A : Alg ρ} {c s : Bool} {o : Oper} {fr : Fr} {σ : St} {K : Fr → St → ρ} {X : PV → Fr → St → ρ} (hp : isP o = true) (hb : blkLit locs o = false) :
  opC A P locs c s o fr σ K X = opV A P c s o fr σ (fun e σ => K (fr.put o.dst e) σ) (fun v σ => X v fr σ) := by
 obtain ⟨dst,op,type,pos,after,guard⟩ := o
 cases op with
 | alloc => simp [isP] at hp
 | box => simp [isP] at hp
 | store => simp [isP] at hp
 | defer => simp [isP] at hp
 | buildSlice t n parts =>
  cases dst with
  | none => rfl
  | some d =>
   have hd : locs.contains d = false := by simpa [blkLit] using hb
   simp only [opC,hd,Bool.false_eq_true,if_false]
 | call q =>
  have ha : appOf (.call q) = none := by
   simp only [isP] at hp
   simp only [appOf]
   split at hp <;> simp_all
  simp only [opC,ha]
 | _ => rfl
theorem run1_val {all : List Oper} {t : Task} {fr : Fr} {σ : St} {K : Fr → St → Prop} {X : PV → Fr → St → Prop} (hp : isP t.o = true) (hb : blkLit locs t.o = false) :
  run1 call P locs all t fr σ K X ↔ ∃ e,valT P all t fr σ = some e ∧ K (fr.put t.o.dst e) σ := by
 unfold run1 valT
 cases t.o.guard with
 | none => simp only; rw [opC_isP hp hb]; exact opV_pure hp
 | some g =>
  simp only
  cases all[g.1]? with
  | none => simp
  | some oj =>
   simp only
   cases oj.dst with
   | none => simp
   | some d =>
    simp only
    split
    ·cases hb : gOk (fr.env d).pv g.2 with
     | none => simp
     | some b =>
      cases b with
      | true => exact opV_pure hp
      | false => simp
    ·simp
theorem operand_looks {ops : Array Oper} {o : Oper} {fr fr' : Fr} (h : ∀ d ∈ o.looksAt ops,fr.env d = fr'.env d) : ∀ x ∈ o.op.operands,evE fr x = evE fr' x := by
 intro x hx
 cases x with
 | tmp t =>
  refine h t ?_
  unfold Oper.looksAt
  exact List.mem_append_left _ (List.mem_filterMap.2 ⟨.tmp t,by simpa using hx,rfl⟩)
 | _ => rfl
theorem guard_looks {ops : Array Oper} {o oj : Oper} {g : Nat × Bool} {d : Nat} (hg : o.guard = some g) (hoj : ops.toList[g.1]? = some oj) (hd : oj.dst = some d) : d ∈ o.looksAt ops := by
 unfold Oper.looksAt
 refine List.mem_append_right _ ?_
 simp only [hg]
 have : ops[g.1]? = some oj := by simpa using hoj
 simp [this,hd]
theorem valT_congr {ops : Array Oper} {t : Task} {fr fr' : Fr} {σ : St} (h : ∀ d ∈ t.o.looksAt ops,fr.env d = fr'.env d) (hl : isLoad t.o = false ∨ t.clean = true ∨ fr.loc = fr'.loc) :
  valT P ops.toList t fr σ = valT P ops.toList t fr' σ := by
 have hv : pureV P t.clean t.strict t.o fr σ = pureV P t.clean t.strict t.o fr' σ := opV_congr (operand_looks h) hl
 unfold valT
 rw [hv]
 cases hg : t.o.guard with
 | none => rfl
 | some g =>
  simp only
  cases hoj : ops.toList[g.1]? with
  | none => rfl
  | some oj =>
   simp only
   cases hd : oj.dst with
   | none => rfl
   | some d =>
    simp only
    rw [h d (guard_looks hg hoj hd)]
theorem valT_state {all : List Oper} {t : Task} {fr : Fr} {σ σ' : St} {e : EV} (hp : isP t.o = true) (hs : readsP t.o = false ∨ t.strict = true ∨ σ' = σ ∨ ∃ g,σ' = σ ++ g) (h : valT P all t fr σ = some e) :
  valT P all t fr σ' = some e := by
 have hv : ∀ e,pureV P t.clean t.strict t.o fr σ = some e → pureV P t.clean t.strict t.o fr σ' = some e := by
  intro e he
  rcases hs with hs | hs | rfl | ⟨g,rfl⟩
  ·rw [pureV_still (σ' := σ) hp (.inl hs)]; exact he
  ·rw [pureV_still (σ' := σ) hp (.inr hs)]; exact he
  ·exact he
  ·exact pureV_ext hp he
 revert h
 unfold valT
 cases hg : t.o.guard with
 | none => exact hv e
 | some g =>
  simp only
  cases hoj : all[g.1]? with
  | none => exact fun h => h
  | some oj =>
   simp only
   cases hd : oj.dst with
   | none => exact fun h => h
   | some d =>
    simp only
    split
    ·cases gOk (fr.env d).pv g.2 with
     | none => exact fun h => h
     | some b =>
      cases b with
      | true => exact hv e
      | false => exact fun h => h
    ·exact fun h => h
def effS (o : Oper) (c : Bool) (σ σ' : St) : Prop :=
 match o.op with
 | .call q => (match q.callee with
  | .value _ => c = true → Pre σ σ'
  | _ => True)
 | .makeSlice .. => ∃ g,σ' = σ ++ g
 | .makeMap .. => ∃ g,σ' = σ ++ g
 | _ => True
theorem opV_eff (hm : CallMono call) {c s : Bool} {o : Oper} {fr : Fr} {σ : St} {K : EV → St → Prop} {X : PV → St → Prop} (h : opV (algP call) P c s o fr σ K X) :
  opV (algP call) P c s o fr σ (fun e σ' => effS o c σ σ' ∧ K e σ') X := by
 have triv : (∀ σ',effS o c σ σ') → opV (algP call) P c s o fr σ (fun e σ' => effS o c σ σ' ∧ K e σ') X := fun ht => opV_mono hm (fun e σ' hk => ⟨ht σ',hk⟩) (fun _ _ hx => hx) h
 obtain ⟨dst,op,type,pos,after,guard⟩ := o
 cases op with
 | call q =>
  obtain ⟨callee,args,argTypes⟩ := q
  cases callee with
  | value f =>
   simp only [opV,callG] at h ⊢
   revert h
   cases evP fr f with
   | func f k caps =>
    simp only
    cases P.funcs[f]? with
    | none => exact fun h => h
    | some fn =>
     simp only
     cases fn.body with
     | none =>
      intro h
      simp only at h ⊢
      revert h
      generalize vExt fn.name _ = r
      cases r with
      | none => exact fun h => h
      | some v => exact fun h => ⟨fun _ => .refl _,h⟩
     | some b =>
      simp only [callG.callK]
      intro h
      refine hm.mono (fun r σ' hr => ?_) h
      cases c with
      | false =>
       cases r with
       | ret v => exact ⟨fun h => by simp at h,hr⟩
       | pan v => exact hr
      | true =>
       refine ⟨hr.1,?_⟩
       cases r with
       | ret v => exact ⟨fun _ => hr.1,hr.2⟩
       | pan v => exact hr.2
   | _ => exact fun h => h
  | _ => exact triv fun _ => trivial
 | makeMap t r =>
  simp only [opV] at h ⊢
  split at h
  ·exact h.elim
  ·rename_i hr
   rw [if_neg hr]
   exact ⟨⟨_,rfl⟩,h⟩
 | makeSlice t l k =>
  simp only [opV] at h ⊢
  revert h
  cases elemOf? P t with
  | none => exact fun h => h
  | some e =>
   simp only [bindO]
   cases szOf P e with
   | none => exact fun h => h
   | some sz =>
    simp only
    cases bytesOf P e with
    | none => exact fun h => h
    | some by_ =>
     simp only
     cases zeroOf P e with
     | none => exact fun h => h
     | some z =>
      simp only
      split
      ·cases hv : vMakeSl sz by_ z (evP fr l) (evP fr k) σ with
       | none => exact fun h => h
       | some r =>
        simp only
        refine fun h => ⟨?_,h⟩
        unfold vMakeSl at hv
        split at hv
        ·split at hv
         ·split at hv
          ·simp only [Option.some.injEq] at hv
           subst hv
           exact ⟨_,rfl⟩
          ·cases hv
         ·cases hv
        ·cases hv
      ·exact fun h => h
 | _ => exact triv fun _ => trivial
theorem heldG_imp {call : CallP} {b : Bool} {k k' : Prop} (hk : k → k') : heldG (algP call) b k → heldG (algP call) b k' := by
 cases b with
 | true => exact hk
 | false => exact fun h => h
theorem heldG_in {call : CallP} {b : Bool} {k : Prop} (h : heldG (algP call) b k) : b = true ∧ k := by
 cases b with
 | true => exact ⟨rfl,h⟩
 | false => exact h.elim
theorem heldG_of {call : CallP} {b : Bool} {k : Prop} (hb : b = true) (h : k) : heldG (algP call) b k := by
 subst hb
 exact h
theorem heldOk_put {locs : List Nat} {o : Oper} (ho : offHeld locs o = true) {fr : Fr} {e : EV} {b s : Option Nat} : heldOk locs (fr.put o.dst e) b s = heldOk locs fr b s := by
 unfold heldOk
 refine Bool.eq_iff_iff.2 ?_
 simp only [List.all_eq_true]
 have h : ∀ t ∈ heldL locs,(fr.put o.dst e).env t = fr.env t := by
  intro t ht
  refine Fr.put_env _ _ _ _ fun hd => ?_
  unfold offHeld at ho
  rw [hd] at ho
  simp only [Bool.not_eq_true',List.contains_eq_mem,decide_eq_false_iff_not] at ho
  exact ho ht
 constructor
 ·intro hh t ht
  rw [← h t ht]
  exact hh t ht
 ·intro hh t ht
  rw [h t ht]
  exact hh t ht
theorem appOf_mem {o : Op} {s : Operand} (h : appOf o = some s) : s ∈ o.operands := by
 unfold appOf at h
 split at h
 ·rename_i c
  split at h
  ·have : s ∈ c.args.toList := List.mem_of_mem_head? (by rw [h]; rfl)
   simp only [Op.operands,Call.operands,Array.toList_append,Array.mem_append,Array.mem_toList_iff] at this ⊢
   first
    | exact .inr this
    | exact .inl this
    | exact this
  ·cases h
 ·cases h
theorem opC_app {call : CallP} {c s : Bool} {o : Oper} {fr : Fr} {σ : St} {K : Fr → St → Prop} {X : PV → Fr → St → Prop} (hna : (∀ t,o.op ≠ .alloc t) ∧ (∀ t a,o.op ≠ .box t a) ∧ (∀ c,o.op ≠ .defer c) ∧ (∀ t n p,o.op ≠ .buildSlice t n p)) (hns : ∀ t a v,o.op ≠ .store t a v) :
  opC (algP call) P locs c s o fr σ K X = (match appOf o.op with
   | some a => heldG (algP call) (heldOk locs fr (blkP (evP fr a)) none) (opV (algP call) P c s o fr σ (fun e σ => K (fr.put o.dst e) σ) (fun v σ => X v fr σ))
   | none => opV (algP call) P c s o fr σ (fun e σ => K (fr.put o.dst e) σ) (fun v σ => X v fr σ)) := by
 unfold opC
 split
 ·rename_i t ht; exact absurd ht (hna.1 t)
 ·rename_i t a ht; exact absurd ht (hna.2.1 t a)
 ·rename_i t n p ht; exact absurd ht (hna.2.2.2 t n p)
 ·rename_i t a v ht; exact absurd ht (hns t a v)
 ·rename_i c ht; exact absurd ht (hna.2.2.1 c)
 ·rfl
theorem run1_under (hm : CallMono call) {ops : Array Oper} {x y : Task} {fr : Fr} {σ : St} {e : EV} {K : Fr → St → Prop} {X : PV → Fr → St → Prop} (hX : ∀ v fr fr' σ,fr.noEnv = fr'.noEnv → X v fr σ → X v fr' σ)
  (hp : isP x.o = true) (hof : offHeld locs x.o = true) (hby : blkLit locs y.o = false) (hap : x.o.apart ops y.o = true) (he : effOk x y = true) (hv : valT P ops.toList x fr σ = some e)
  (h : run1 call P locs ops.toList y (fr.put x.o.dst e) σ K X) :
  run1 call P locs ops.toList y fr σ (fun fr' σ' => valT P ops.toList x fr' σ' = some e ∧ K (fr'.put x.o.dst e) σ') X := by
 obtain ⟨h1,h2,h3⟩ := Oper.apart_spec hap
 have look : ∀ d ∈ y.o.looksAt ops,(fr.put x.o.dst e).env d = fr.env d := fun d hd => Fr.put_env _ _ _ _ fun hx => h1 d hx hd
 have keep : ∀ (e' : EV) (σ' : St),(readsP x.o = false ∨ x.strict = true ∨ σ' = σ ∨ ∃ g,σ' = σ ++ g) → valT P ops.toList x (fr.put y.o.dst e') σ' = some e := by
  intro e' σ' hs
  rw [valT_congr (fr' := fr) (fun d hd => Fr.put_env _ _ _ _ fun hy => h3 d hy hd) (.inr (.inr (Fr.put_loc _ _ _)))]
  exact valT_state hp hs hv
 by_cases hy : isP y.o = true
 ·rw [run1_val hy hby] at h ⊢
  obtain ⟨ey,hvy,hK⟩ := h
  rw [valT_congr (fr' := fr) look (.inr (.inr (Fr.put_loc _ _ _)))] at hvy
  refine ⟨ey,hvy,keep ey σ (.inr (.inr (.inl rfl))),?_⟩
  rw [← Fr.put_comm _ _ _ h2]
  exact hK
 ·have hst : ∀ σ',effS y.o y.clean σ σ' → (∀ t a v,y.o.op ≠ .store t a v) → (readsP x.o = false ∨ x.strict = true ∨ σ' = σ ∨ ∃ g,σ' = σ ++ g) := by
   intro σ' hs hns
   simp only [effOk,Bool.or_eq_true,hy,Bool.false_eq_true,false_or] at he
   unfold effS at hs
   split at he
   ·rename_i q hq
    rw [hq] at hs
    simp only at hs
    split at he
    ·rename_i f hf
     rw [hf] at hs
     simp only [Bool.or_eq_true,Bool.not_eq_true'] at he
     rcases he with (he | he) | he
     ·exact .inr (.inr (.inr (hs he)))
     ·exact .inr (.inl he)
     ·exact .inl he
    ·simp only [Bool.or_eq_true,Bool.not_eq_true'] at he
     rcases he with he | he
     ·exact .inr (.inl he)
     ·exact .inl he
    ·simp at he
   ·rename_i hq
    rw [hq] at hs
    exact .inr (.inr (.inr hs))
   ·rename_i hq
    rw [hq] at hs
    exact .inr (.inr (.inr hs))
   ·simp only [Bool.or_eq_true,Bool.not_eq_true'] at he
    rcases he with he | he
    ·exact .inr (.inl he)
    ·exact .inl he
   ·rename_i hq
    exact absurd hq (hns _ _ _)
   ·simp at he
  have hV : (∀ t a v,y.o.op ≠ .store t a v) → opV (algP call) P y.clean y.strict y.o (fr.put x.o.dst e) σ (fun e' σ' => K ((fr.put x.o.dst e).put y.o.dst e') σ') (fun v σ' => X v (fr.put x.o.dst e) σ') →
    opV (algP call) P y.clean y.strict y.o fr σ (fun e' σ' => valT P ops.toList x (fr.put y.o.dst e') σ' = some e ∧ K ((fr.put y.o.dst e').put x.o.dst e) σ') (fun v σ' => X v fr σ') := by
   intro hns hh
   rw [opV_congr (fr' := fr) (operand_looks look) (.inr (.inr (Fr.put_loc _ _ _)))] at hh
   refine opV_mono hm (fun e' σ' hk => ⟨keep e' σ' (hst σ' hk.1 hns),?_⟩) (fun v σ' hx => hX _ _ _ _ (Fr.put_noEnv _ _ _) hx) (opV_eff hm hh)
   rw [← Fr.put_comm _ _ _ h2]
   exact hk.2
  by_cases hsto : ∃ t a v,y.o.op = .store t a v
  ·obtain ⟨t,a,v,hop⟩ := hsto
   have hnr : readsP x.o = false ∨ (isLoad x.o = false ∧ x.strict = true) ∨ (isLoad x.o = true ∧ ((x.clean = true ∧ y.strict = true) ∨ (x.strict = true ∧ y.clean = true))) := by
    simp only [effOk,hop,Bool.or_eq_true,Bool.and_eq_true,hy,Bool.false_eq_true,false_or,Bool.not_eq_true'] at he
    exact he
   have hnl : readsP x.o = false → isLoad x.o = false := by
    intro hh
    unfold readsP at hh
    unfold isLoad
    split at hh <;> simp_all
   have hea : evE (fr.put x.o.dst e) a = evE fr a := operand_looks look a (by simp [hop,Op.operands])
   have hev : evP (fr.put x.o.dst e) v = evP fr v := evP_congr (operand_looks look v (by simp [hop,Op.operands]))
   unfold run1 at h ⊢
   cases hgd : y.o.guard with
   | some g =>
    rw [hgd] at h
    simp only at h ⊢
    cases hoj : ops.toList[g.1]? with
    | none => rw [hoj] at h; exact h.elim
    | some oj =>
     rw [hoj] at h
     simp only at h ⊢
     cases hd : oj.dst with
     | none => rw [hd] at h; exact h.elim
     | some d =>
      rw [hd] at h
      simp [guardable,hop] at h
   | none =>
    rw [hgd] at h
    simp only [opC,hop,hea,hev] at h ⊢
    cases hsz : szOf P t with
    | none => rw [hsz] at h; exact h.elim
    | some sz =>
     rw [hsz] at h
     simp only [bindO] at h ⊢
     cases hea' : evE fr a with
     | loc s off =>
      rw [hea'] at h
      simp only [Fr.put_loc] at h ⊢
      cases hcl : y.clean with
      | true => rw [hcl] at h; exact h.elim
      | false =>
      rw [hcl] at h
      simp only at h ⊢
      rw [heldOk_put hof] at h
      obtain ⟨hho,h⟩ := heldG_in h
      refine heldG_of hho ?_
      cases hz : vPut sz (fr.loc s) off (evP fr v) with
      | none => rw [hz] at h; exact h.elim
      | some z =>
       rw [hz] at h
       simp only at h ⊢
       refine ⟨?_,?_⟩
       ·rw [valT_congr (fr := (fr.setLoc s z).put y.o.dst (.v .any)) (fr' := fr) (fun d hd => (Fr.put_env (fr.setLoc s z) _ _ _ fun hy => h3 d hy hd).trans rfl) ?_]
        ·exact hv
        ·rcases hnr with hnr | ⟨h5,_⟩ | ⟨_,⟨h5,_⟩ | ⟨_,h5⟩⟩
         ·exact .inl (hnl hnr)
         ·exact .inl h5
         ·exact .inr (.inl h5)
         ·rw [hcl] at h5; cases h5
       ·have : ((fr.put x.o.dst e).setLoc s z).put y.o.dst (.v .any) = ((fr.setLoc s z).put y.o.dst (.v .any)).put x.o.dst e := by
         rw [← Fr.put_comm _ _ _ h2]
         congr 1
         cases x.o.dst <;> rfl
        rw [← this]
        exact h
     | v p =>
      rw [hea'] at h
      simp only at h ⊢
      cases hst' : y.strict with
      | true => rw [hst'] at h; exact h.elim
      | false =>
      rw [hst'] at h
      simp only at h ⊢
      rw [heldOk_put hof] at h
      obtain ⟨hho,h⟩ := heldG_in h
      refine heldG_of hho ?_
      cases hz : vStore sz p (evP fr v) σ with
      | none => rw [hz] at h; exact h.elim
      | some σ' =>
       rw [hz] at h
       simp only at h ⊢
       refine ⟨keep _ _ ?_,?_⟩
       ·rcases hnr with hnr | ⟨_,h5⟩ | ⟨_,⟨_,h5⟩ | ⟨h5,_⟩⟩
        ·exact .inl hnr
        ·exact .inr (.inl h5)
        ·rw [hst'] at h5; cases h5
        ·exact .inr (.inl h5)
       ·rw [← Fr.put_comm _ _ _ h2]
        exact h
  ·have hns : ∀ t a v,y.o.op ≠ .store t a v := fun t a v hh => hsto ⟨t,a,v,hh⟩
   have hna : (∀ t,y.o.op ≠ .alloc t) ∧ (∀ t a,y.o.op ≠ .box t a) ∧ (∀ c,y.o.op ≠ .defer c) ∧ (∀ t n p,y.o.op ≠ .buildSlice t n p) := by
    simp only [effOk,Bool.or_eq_true,hy,Bool.false_eq_true,false_or] at he
    refine ⟨fun t ht => ?_,fun t a ht => ?_,fun t ht => ?_,fun t n p ht => ?_⟩ <;> simp [ht] at he
   revert h
   unfold run1
   cases hgd : y.o.guard with
   | none =>
    simp only [opC_app hna hns]
    cases happ : appOf y.o.op with
    | none => exact hV hns
    | some a =>
     simp only
     rw [heldOk_put hof,evP_congr (operand_looks look a (appOf_mem happ))]
     exact heldG_imp (hV hns)
   | some g =>
    simp only
    cases hoj : ops.toList[g.1]? with
    | none => exact fun h => h
    | some oj =>
     simp only
     cases hd : oj.dst with
     | none => exact fun h => h
     | some d =>
      simp only
      split
      ·rw [look d (guard_looks hgd hoj hd)]
       cases gOk (fr.env d).pv g.2 with
       | none => exact fun h => h
       | some b =>
        cases b with
        | true => exact hV hns
        | false =>
         intro h
         refine ⟨keep _ _ (.inr (.inr (.inl rfl))),?_⟩
         rw [← Fr.put_comm _ _ _ h2]
         exact h
      ·exact fun h => h
theorem vStore_other {sz : Nat} {p v : PV} {σ σ' : St} (h : vStore sz p v σ = some σ') : ∀ b',blkP p ≠ some b' → σ'[b']? = σ[b']? := by
 intro b' hb
 unfold vStore at h
 split at h
 ·rename_i b g i off
  split at h
  ·split at h
   ·split at h
    ·split at h
     ·simp only [Option.some.injEq] at h
      subst h
      rw [List.getElem?_set_ne]
      intro e
      exact hb (by rw [e]; rfl)
     ·cases h
    ·cases h
   ·cases h
  ·cases h
 ·cases h
theorem vAppendT_other {tg sz by_ : Nat} {s y : PV} {σ : St} {r : PV × St} (h : vAppendT tg sz by_ s y σ = some r) : ∀ b',b' < σ.length → blkP s ≠ some b' → r.2[b']? = σ[b']? := by
 intro b' hl hb
 unfold vAppendT at h
 split at h
 ·cases h
 ·split at h
  ·split at h
   ·simp only [Option.some.injEq] at h
    subst h
    rfl
   ·split at h
    ·simp only [Option.some.injEq] at h
     subst h
     exact List.getElem?_append_left hl
    ·cases h
  ·rename_i b g z off len
   have hne : b ≠ b' := fun e => hb (by rw [e]; rfl)
   split at h
   ·simp only [Option.some.injEq] at h
    subst h
    rfl
   ·split at h
    ·split at h
     ·split at h
      ·simp only [Option.some.injEq] at h
       subst h
       exact List.getElem?_set_ne hne
      ·simp only [Option.some.injEq] at h
       subst h
       exact List.getElem?_set_ne hne
     ·cases h
    ·cases h
  ·cases h
theorem vAppendMk_other {sz by_ : Nat} {z s y : PV} {σ : St} {r : PV × St} (h : vAppendMk sz by_ z s y σ = some r) : ∀ b',b' < σ.length → r.2[b']? = σ[b']? := by
 intro b' hl
 unfold vAppendMk at h
 split at h
 ·split at h
  ·simp only [Option.some.injEq] at h
   subst h
   exact List.getElem?_append_left hl
  ·cases h
 ·cases h
theorem app_eff {c s : Bool} {o : Oper} {a : Operand} (ha : appOf o.op = some a) {fr : Fr} {σ : St} {K : EV → St → Prop} {X : PV → St → Prop} (h : opV (algP call) P c s o fr σ K X) :
  opV (algP call) P c s o fr σ (fun e σ' => (∀ b',b' < σ.length → blkP (evP fr a) ≠ some b' → σ'[b']? = σ[b']?) ∧ K e σ') X := by
 obtain ⟨dst,op,type,pos,after,guard⟩ := o
 cases op with
 | call q =>
  cases hq : q.callee with
  | builtin b =>
   cases b with
   | append =>
    simp only [appOf,hq] at ha
    simp only [opV,hq] at h ⊢
    split at h
    ·rename_i u y t t2 he1 he2
     rw [he1] at ha
     simp only [List.head?_cons,Option.some.injEq] at ha
     subst ha
     cases h4 : elemOf? P t with
     | none => rw [h4] at h; exact h.elim
     | some e =>
     cases h5 : szOf P e with
     | none => rw [h4] at h; simp only [bindO,h5] at h; exact h.elim
     | some sz =>
     cases h6 : bytesOf P e with
     | none => rw [h4] at h; simp only [bindO,h5,h6] at h; exact h.elim
     | some by_ =>
     cases h7 : zeroOf P e with
     | none => rw [h4] at h; simp only [bindO,h5,h6,h7] at h; exact h.elim
     | some z =>
     cases h8 : vBox sz z with
     | none => rw [h4] at h; simp only [bindO,h5,h6,h7,h8] at h; exact h.elim
     | some z' =>
     simp only [h4,h5,h6,h7,h8,bindO] at h ⊢
     split at h
     ·rename_i hc
      rw [if_pos hc]
      split at h
      ·rename_i r hr
       simp only [hr]
       rw [appT_eq] at hr
       exact ⟨vAppendT_other hr,h⟩
      ·exact h.elim
     ·rename_i hc
      rw [if_neg hc]
      split at h
      ·rename_i hc2
       rw [if_pos hc2]
       split at h
       ·rename_i r hr
        simp only [hr]
        exact ⟨fun b' hl _ => vAppendMk_other hr b' hl,h⟩
       ·exact h.elim
      ·exact h.elim
    ·exact h.elim
   | _ => simp [appOf,hq] at ha
  | _ => simp [appOf,hq] at ha
 | _ => simp [appOf] at ha
theorem hold_keep {all : List Oper} {x : Task} {tt : TypeId} {t : Nat} (hop : x.o.op = .load tt (.tmp t)) (hg : x.o.guard = none) (hs : x.strict = false) {fr fr' : Fr} {σ σ' : St} {e : EV} (he : fr'.env t = fr.env t)
  (hl : ∀ s off,fr.env t = .loc s off → fr'.loc s = fr.loc s) (hb : ∀ b g i off,fr.env t = .v (.ptr b g i off) → b < σ.length → σ'[b]? = σ[b]?) (hv : valT P all x fr σ = some e) : valT P all x fr' σ' = some e := by
 unfold valT pureV at hv ⊢
 rw [hg] at hv ⊢
 simp only [opV,hop,hs,rdOf] at hv ⊢
 have h1 : evE fr' (.tmp t) = fr.env t := he
 have h2 : evE fr (.tmp t) = fr.env t := rfl
 rw [h1]
 rw [h2] at hv
 cases hag : aggOf P tt with
 | none => rw [hag] at hv; cases hv
 | some ag =>
 cases hsz : szOf P tt with
 | none => rw [hag] at hv; simp only [bindO,hsz] at hv; cases hv
 | some sz =>
 simp only [hag,hsz,bindO] at hv ⊢
 cases hE : fr.env t with
 | loc s off =>
  rw [hE] at hv
  simp only at hv ⊢
  rw [hl s off hE]
  exact hv
 | v p =>
  rw [hE] at hv
  simp only at hv ⊢
  cases p with
  | ptr b g i off =>
   cases hbk : σ[b]? with
   | none => simp [vLoad,hbk,algO] at hv
   | some k =>
    have hlt : b < σ.length := (List.getElem?_eq_some_iff.1 hbk).1
    have := hb b g i off hE hlt
    simp only [vLoad,this]
    simpa only [vLoad] using hv
  | _ => exact hv
theorem run1_held (hm : CallMono call) {ops : Array Oper} {x y : Task} {fr : Fr} {σ : St} {e : EV} {K : Fr → St → Prop} {X : PV → Fr → St → Prop} (hX : ∀ v fr fr' σ,fr.noEnv = fr'.noEnv → X v fr σ → X v fr' σ)
  (hof : offHeld locs x.o = true) (hap : x.o.apart ops y.o = true) (he : holdOk locs x y = true) (hv : valT P ops.toList x fr σ = some e)
  (h : run1 call P locs ops.toList y (fr.put x.o.dst e) σ K X) :
  run1 call P locs ops.toList y fr σ (fun fr' σ' => valT P ops.toList x fr' σ' = some e ∧ K (fr'.put x.o.dst e) σ') X := by
 obtain ⟨h1,h2,h3⟩ := Oper.apart_spec hap
 have look : ∀ d ∈ y.o.looksAt ops,(fr.put x.o.dst e).env d = fr.env d := fun d hd => Fr.put_env _ _ _ _ fun hx => h1 d hx hd
 simp only [holdOk,Bool.and_eq_true,Bool.not_eq_true'] at he
 obtain ⟨⟨⟨⟨⟨hop,hgx⟩,hsx⟩,hcx⟩,hgy⟩,hyo⟩ := he
 obtain ⟨tt,t,hop,hheld⟩ : ∃ tt t,x.o.op = .load tt (.tmp t) ∧ t ∈ heldL locs := by
  split at hop
  ·rename_i tt t ho
   exact ⟨tt,t,ho,by simpa using hop⟩
  ·cases hop
 have hgx : x.o.guard = none := by simpa using hgx
 have hgy : y.o.guard = none := by simpa using hgy
 have htl : t ∈ x.o.looksAt ops := by
  unfold Oper.looksAt
  exact List.mem_append_left _ (List.mem_filterMap.2 ⟨.tmp t,by simp [hop,Op.operands],rfl⟩)
 have hty : y.o.dst ≠ some t := fun hd => h3 t hd htl
 unfold run1 at h ⊢
 rw [hgy] at h ⊢
 simp only at h ⊢
 by_cases hsto : ∃ ty a v,y.o.op = .store ty a v
 ·obtain ⟨ty,a,v,hop'⟩ := hsto
  have hea : evE (fr.put x.o.dst e) a = evE fr a := operand_looks look a (by simp [hop',Op.operands])
  have hev : evP (fr.put x.o.dst e) v = evP fr v := evP_congr (operand_looks look v (by simp [hop',Op.operands]))
  simp only [opC,hop',hea,hev] at h ⊢
  cases hsz : szOf P ty with
  | none => rw [hsz] at h; exact h.elim
  | some sz =>
   rw [hsz] at h
   simp only [bindO] at h ⊢
   cases hea' : evE fr a with
   | loc s off =>
    rw [hea'] at h
    simp only [Fr.put_loc] at h ⊢
    cases hcl : y.clean with
    | true => rw [hcl] at h; exact h.elim
    | false =>
    rw [hcl] at h
    simp only at h ⊢
    rw [heldOk_put hof] at h
    obtain ⟨hho,h⟩ := heldG_in h
    refine heldG_of hho ?_
    cases hz : vPut sz (fr.loc s) off (evP fr v) with
    | none => rw [hz] at h; exact h.elim
    | some z =>
     rw [hz] at h
     simp only at h ⊢
     refine ⟨hold_keep (fr := fr) hop hgx hsx ((Fr.put_env (fr.setLoc s z) _ _ _ hty).trans rfl) (fun s' off' hs' => ?_) (fun _ _ _ _ _ _ => rfl) hv,?_⟩
     ·have := List.all_eq_true.1 hho t hheld
      rw [hs'] at this
      simp only [apartV,Bool.not_eq_true'] at this
      have hne : s' ≠ s := fun e => by subst e; simp at this
      rw [Fr.put_loc]
      simp [Fr.setLoc,hne]
     ·have : ((fr.put x.o.dst e).setLoc s z).put y.o.dst (.v .any) = ((fr.setLoc s z).put y.o.dst (.v .any)).put x.o.dst e := by
       rw [← Fr.put_comm _ _ _ h2]
       congr 1
       cases x.o.dst <;> rfl
      rw [← this]
      exact h
   | v p =>
    rw [hea'] at h
    simp only at h ⊢
    cases hst' : y.strict with
    | true => rw [hst'] at h; exact h.elim
    | false =>
    rw [hst'] at h
    simp only at h ⊢
    rw [heldOk_put hof] at h
    obtain ⟨hho,h⟩ := heldG_in h
    refine heldG_of hho ?_
    cases hz : vStore sz p (evP fr v) σ with
    | none => rw [hz] at h; exact h.elim
    | some σ' =>
     rw [hz] at h
     simp only at h ⊢
     refine ⟨hold_keep hop hgx hsx (Fr.put_env _ _ _ _ hty) (fun s' off' hs' => by rw [Fr.put_loc]) (fun b g i off hb hlt => ?_) hv,?_⟩
     ·refine vStore_other hz b fun e => ?_
      have := List.all_eq_true.1 hho t hheld
      rw [hb] at this
      simp [apartV,e] at this
     ·rw [← Fr.put_comm _ _ _ h2]
      exact h
 ·have hns : ∀ t a v,y.o.op ≠ .store t a v := fun t a v hh => hsto ⟨t,a,v,hh⟩
  obtain ⟨a,happ⟩ : ∃ a,appOf y.o.op = some a := by
   split at hyo
   ·rename_i ho
    exact absurd ho (hns _ _ _)
   ·exact Option.isSome_iff_exists.1 hyo
  have hna : (∀ t,y.o.op ≠ .alloc t) ∧ (∀ t a,y.o.op ≠ .box t a) ∧ (∀ c,y.o.op ≠ .defer c) ∧ (∀ t n p,y.o.op ≠ .buildSlice t n p) := by
   refine ⟨fun t ht => ?_,fun t a ht => ?_,fun t ht => ?_,fun t n p ht => ?_⟩ <;> simp [ht,appOf] at happ
  simp only [opC_app hna hns,happ] at h ⊢
  rw [heldOk_put hof,evP_congr (operand_looks look a (appOf_mem happ))] at h
  obtain ⟨hho,h⟩ := heldG_in h
  refine heldG_of hho ?_
  rw [opV_congr (fr' := fr) (operand_looks look) (.inr (.inr (Fr.put_loc _ _ _)))] at h
  refine opV_mono hm (fun e' σ' hk => ⟨hold_keep hop hgx hsx (Fr.put_env _ _ _ _ hty) (fun s' off' hs' => by rw [Fr.put_loc]) (fun b g i off hb hlt => ?_) hv,?_⟩) (fun v σ' hx => hX _ _ _ _ (Fr.put_noEnv _ _ _) hx) (app_eff happ h)
  ·refine hk.1 b hlt fun e => ?_
   have := List.all_eq_true.1 hho t hheld
   rw [hb] at this
   simp [apartV,e] at this
  ·rw [← Fr.put_comm _ _ _ h2]
   exact hk.2
def EV.forget (d : Nat) : EV → EV
 | .loc s o => if s = d then .v .any else .loc s o
 | .v x => .v x
theorem EV.forget_pv (d : Nat) (e : EV) : (e.forget d).pv = e.pv := by
 cases e with
 | v x => rfl
 | loc s o => simp only [EV.forget]; split <;> rfl
theorem newLoc_env {fr : Fr} {d t : Nat} {z : PV} (h : t ≠ d) : (fr.newLoc d z).env t = (fr.env t).forget d := by
 simp only [Fr.newLoc,h,if_false]
 cases fr.env t <;> rfl
theorem opV_pv {ρ : Type} {A : Alg ρ} {c s : Bool} {o : Oper} {fr : Fr} {σ : St} {K : EV → St → ρ} {X : PV → St → ρ} (hp : isP o = true) (hl : looksE o = false) : opV A P c s o fr σ K X = opV A P c s o fr σ (fun e σ => K (.v e.pv) σ) X := by
 obtain ⟨dst,op,type,pos,after,guard⟩ := o
 cases op with
 | call q =>
  obtain ⟨callee,args,argTypes⟩ := q
  cases callee with
  | builtin b => cases b <;> first | rfl | simp [isP] at hp
  | _ => simp [isP] at hp
 | load | move | assign | nilCheck | fieldAddr => simp [looksE] at hl
 | convert s d x => rfl
 | pick | build | buildSlice | binOp | unOp | makeFunc | slice | field | indexAddr | index | extract | makeInterface | typeAssert | lookup | entry => rfl
 | _ => simp [isP] at hp
theorem pureV_v {c s : Bool} {o : Oper} {fr : Fr} {σ : St} {e : EV} (hp : isP o = true) (hl : looksE o = false) (h : pureV P c s o fr σ = some e) : ∃ x,e = .v x := by
 unfold pureV at h
 rw [opV_pv hp hl] at h
 revert e
 refine opV_par (r := fun (p q : Option EV) => ∀ {e : EV},p = some e → ∃ x,e = .v x) (A := algO) (B := algO) (K' := fun _ _ => none) (X' := fun _ _ => none) ?_ hp ?_
 ·intro e h; cases h
 ·intro e e' h
  cases h
  exact ⟨_,rfl⟩
theorem pureV_newLoc {c s : Bool} {o : Oper} {fr : Fr} {d : Nat} {z : PV} {σ : St} {e : EV} (hp : isP o = true) (ho : ∀ t,Operand.tmp t ∈ o.op.operands → t ≠ d) (h : pureV P c s o (fr.newLoc d z) σ = some e) :
  ∃ e0,pureV P c s o fr σ = some e0 ∧ e0.forget d = e := by
 have hE : ∀ x ∈ o.op.operands,evE (fr.newLoc d z) x = (evE fr x).forget d := by
  intro x hx
  cases x with
  | tmp t => exact newLoc_env (ho t hx)
  | _ => rfl
 have hP : ∀ x ∈ o.op.operands,evP (fr.newLoc d z) x = evP fr x := by
  intro x hx
  unfold evP
  rw [hE x hx,EV.forget_pv]
 cases hl : looksE o with
 | false =>
  have h2 : pureV P c s o fr σ = some e := by
   rw [← h]
   exact (opV_congrP hP hl).symm
  obtain ⟨x,rfl⟩ := pureV_v hp hl h2
  exact ⟨_,h2,rfl⟩
 | true =>
  obtain ⟨dst,op,type,pos,after,guard⟩ := o
  cases op with
  | move a =>
   have ha := hE a (by simp [Op.operands])
   simp only [pureV,opV,ha,Option.some.injEq] at h ⊢
   exact ⟨_,rfl,h⟩
  | assign a =>
   have ha := hE a (by simp [Op.operands])
   simp only [pureV,opV,ha,Option.some.injEq] at h ⊢
   exact ⟨_,rfl,h⟩
  | nilCheck a =>
   have ha := hE a (by simp [Op.operands])
   simp only [pureV,opV,ha,algO] at h ⊢
   cases hea : evE fr a with
   | v x =>
    rw [hea] at h
    simp only [EV.forget] at h ⊢
    obtain ⟨y,h1,h2⟩ := bindO_some' h
    simp only [Option.some.injEq] at h2
    subst h2
    exact ⟨.v y,by rw [h1]; rfl,rfl⟩
   | loc s' off =>
    rw [hea] at h
    simp only [EV.forget] at h ⊢
    split at h
    ·rename_i hh
     split at hh
     ·cases hh
     ·rename_i hn
      cases hh
      simp only [Option.some.injEq] at h
      exact ⟨_,rfl,by simp [EV.forget,hn,h]⟩
    ·rename_i hh
     split at hh
     ·cases hh
      simp [vNil,bindO] at h
     ·cases hh
  | load t a =>
   have ha := hE a (by simp [Op.operands])
   simp only [pureV,opV,ha,algO] at h ⊢
   obtain ⟨ag,h1,h⟩ := bindO_some' h
   obtain ⟨sz,h2,h⟩ := bindO_some' h
   simp only [h1,h2,bindO]
   cases hea : evE fr a with
   | v x =>
    rw [hea] at h
    simp only [EV.forget] at h ⊢
    obtain ⟨y,h3,h4⟩ := bindO_some' h
    simp only [Option.some.injEq] at h4
    subst h4
    exact ⟨.v y,by rw [h3],rfl⟩
   | loc s' off =>
    rw [hea] at h
    simp only [EV.forget] at h ⊢
    split at h
    ·rename_i hh
     split at hh
     ·cases hh
     ·rename_i hn
      cases hh
      split at h
      ·cases h
      ·rename_i hc
       obtain ⟨y,h3,h4⟩ := bindO_some' h
       simp only [Option.some.injEq] at h4
       subst h4
       have hloc : (fr.newLoc d z).loc s' = fr.loc s' := by simp [Fr.newLoc,hn]
       rw [hloc] at h3
       refine ⟨.v y,?_,rfl⟩
       simp only [h3]
    ·rename_i hh
     split at hh
     ·cases hh
      obtain ⟨y,h3,h4⟩ := bindO_some' h
      simp [vLoad] at h3
     ·cases hh
  | fieldAddr t a f =>
   have ha := hE a (by simp [Op.operands])
   simp only [pureV,opV,ha,algO] at h ⊢
   obtain ⟨k,h1,h⟩ := bindO_some' h
   simp only [h1,bindO]
   cases hea : evE fr a with
   | v x =>
    rw [hea] at h
    simp only [EV.forget] at h ⊢
    obtain ⟨y,h3,h4⟩ := bindO_some' h
    simp only [Option.some.injEq] at h4
    subst h4
    exact ⟨.v y,by rw [h3],rfl⟩
   | loc s' off =>
    rw [hea] at h
    simp only [EV.forget] at h ⊢
    split at h
    ·rename_i hh
     split at hh
     ·cases hh
     ·rename_i hn
      cases hh
      simp only [Option.some.injEq] at h
      exact ⟨_,rfl,by simp [EV.forget,hn,h]⟩
    ·rename_i hh
     split at hh
     ·cases hh
      simp [vField,bindO] at h
     ·cases hh
  | _ => simp [looksE] at hl
theorem valT_newLoc {ops : Array Oper} {t : Task} {fr : Fr} {d : Nat} {z : PV} {σ : St} {e : EV} (hp : isP t.o = true) (hd : d ∉ t.o.looksAt ops) (h : valT P ops.toList t (fr.newLoc d z) σ = some e) :
  ∃ e0,valT P ops.toList t fr σ = some e0 ∧ e0.forget d = e := by
 have ho : ∀ u,Operand.tmp u ∈ t.o.op.operands → u ≠ d := by
  rintro u hu rfl
  refine hd ?_
  unfold Oper.looksAt
  exact List.mem_append_left _ (List.mem_filterMap.2 ⟨.tmp u,by simpa using hu,rfl⟩)
 revert h
 unfold valT
 cases hg : t.o.guard with
 | none => exact pureV_newLoc hp ho
 | some g =>
  simp only
  cases hoj : ops.toList[g.1]? with
  | none => exact fun h => by cases h
  | some oj =>
   simp only
   cases hdj : oj.dst with
   | none => exact fun h => by cases h
   | some dg =>
    simp only
    split
    ·have hne : dg ≠ d := by
      rintro rfl
      exact hd (guard_looks hg hoj hdj)
     rw [newLoc_env hne,EV.forget_pv]
     cases gOk (fr.env dg).pv g.2 with
     | none => exact fun h => by cases h
     | some b =>
      cases b with
      | true => exact pureV_newLoc hp ho
      | false =>
       simp only [Option.some.injEq]
       intro h
       exact ⟨_,rfl,by rw [← h]; rfl⟩
    ·exact fun h => by cases h
theorem run1_new {all : List Oper} {x : Task} (hn : newsLoc locs x.o = true) : ∃ (d : Nat) (Z : Fr → Option PV),x.o.dst = some d ∧ (∀ fr σ (K : Fr → St → Prop) (X : PV → Fr → St → Prop),run1 call P locs all x fr σ K X ↔ ∃ z,Z fr = some z ∧ K (fr.newLoc d z) σ) ∧
  ∀ fr fr' : Fr,(∀ y ∈ x.o.op.operands,evP fr y = evP fr' y) → Z fr = Z fr' := by
 obtain ⟨i,⟨dst,op,type,pos,after,guard⟩,c,s⟩ := x
 simp only [newsLoc,Bool.and_eq_true] at hn
 obtain ⟨⟨h1,h2⟩,h3⟩ := hn
 cases dst with
 | none => simp at h2
 | some d =>
  simp only at h2
  cases guard with
  | some g => simp at h3
  | none =>
   cases op with
   | alloc t =>
    refine ⟨d,fun _ => bindO none (szOf P t) fun sz => bindO none (zeroOf P t) fun z => vBox sz z,rfl,fun fr σ K X => ?_,fun _ _ _ => rfl⟩
    simp only [run1,opC,h2,if_true]
    cases szOf P t with
    | none => simp [bindO,algP]
    | some sz =>
     cases zeroOf P t with
     | none => simp [bindO,algP]
     | some z =>
      simp only [bindO]
      cases vBox sz z with
      | none => simp [algP]
      | some z' => simp
   | box t y =>
    refine ⟨d,fun fr => (opC.vBoxAny (evP fr y)).map (·.2),rfl,fun fr σ K X => ?_,fun fr fr' h => by
     have := h y (by simp [Op.operands])
     simp only [this]⟩
    simp only [run1,opC,h2,if_true]
    cases opC.vBoxAny (evP fr y) with
    | none => simp [bindO,algP]
    | some z => simp [bindO]
   | _ => simp at h1
theorem run1_newH {all : List Oper} {y : Task} (hn : newsHeap locs y.o = true) : ∃ (Z : Fr → Option Blk) (tg : Nat),(∀ fr σ (K : Fr → St → Prop) (X : PV → Fr → St → Prop),run1 call P locs all y fr σ K X ↔ ∃ b,Z fr = some b ∧ K (fr.put y.o.dst (.v (.ptr σ.length tg 0 0))) (σ ++ [b])) ∧
  ∀ fr fr' : Fr,(∀ u ∈ y.o.op.operands,evP fr u = evP fr' u) → Z fr = Z fr' := by
 obtain ⟨i,⟨dst,op,type,pos,after,guard⟩,c,s⟩ := y
 simp only [newsHeap,Bool.and_eq_true] at hn
 obtain ⟨⟨h1,h2⟩,h3⟩ := hn
 cases dst with
 | none => simp at h2
 | some d =>
  simp only [Bool.not_eq_true'] at h2
  cases guard with
  | some g => simp at h3
  | none =>
   cases op with
   | alloc t =>
    refine ⟨fun _ => bindO none (szOf P t) fun sz => bindO none (zeroOf P t) fun z => bindO none (vBox sz z) fun z => if 0 < sz then some (.arr (tagOf P t) sz [z]) else none,tagOf P t,fun fr σ K X => ?_,fun _ _ _ => rfl⟩
    simp only [run1,opC,h2,Bool.false_eq_true,if_false]
    cases szOf P t with
    | none => simp [bindO,algP]
    | some sz =>
     cases zeroOf P t with
     | none => simp [bindO,algP]
     | some z =>
      simp only [bindO]
      cases vBox sz z with
      | none => simp [algP]
      | some z' =>
       simp only
       split
       ·simp
       ·simp [algP]
   | box t x =>
    refine ⟨fun fr => bindO none (opC.vBoxAny (evP fr x)) fun z => if 0 < z.1 then some (.arr 0 z.1 [z.2]) else none,0,fun fr σ K X => ?_,fun fr fr' h => by
     have := h x (by simp [Op.operands])
     simp only [this]⟩
    simp only [run1,opC,h2,Bool.false_eq_true,if_false]
    cases opC.vBoxAny (evP fr x) with
    | none => simp [bindO,algP]
    | some z =>
     simp only [bindO]
     split
     ·simp
     ·simp [algP]
   | _ => simp at h1
theorem run1_underH {ops : Array Oper} {x y : Task} {fr : Fr} {σ : St} {e : EV} {K : Fr → St → Prop} {X : PV → Fr → St → Prop}
  (hp : isP x.o = true) (hap : x.o.apart ops y.o = true) (hn : newsHeap locs y.o = true) (hv : valT P ops.toList x fr σ = some e)
  (h : run1 call P locs ops.toList y (fr.put x.o.dst e) σ K X) :
  run1 call P locs ops.toList y fr σ (fun fr' σ' => valT P ops.toList x fr' σ' = some e ∧ K (fr'.put x.o.dst e) σ') X := by
 obtain ⟨h1,h2,h3⟩ := Oper.apart_spec hap
 obtain ⟨Z,tg,hZ,hZc⟩ := run1_newH (P := P) (call := call) (all := ops.toList) hn
 rw [hZ] at h ⊢
 obtain ⟨b,hb,hk⟩ := h
 refine ⟨b,?_,?_,?_⟩
 ·rw [← hb]
  refine hZc _ _ fun u hu => (evP_congr ?_).symm
  exact operand_looks (fun t ht => Fr.put_env _ _ _ _ fun hx => h1 t hx ht) u hu
 ·rw [valT_congr (fr' := fr) (fun d hd => Fr.put_env _ _ _ _ fun hy => h3 d hy hd) (.inr (.inr (Fr.put_loc _ _ _)))]
  exact valT_state hp (.inr (.inr (.inr ⟨_,rfl⟩))) hv
 ·rw [← Fr.put_comm _ _ _ h2]
  exact hk
theorem run1_quiet (hm : CallMono call) {ops : Array Oper} {y : Task} {fr : Fr} {σ : St} {d : Nat} {z : PV} {K : Fr → St → Prop} {X : PV → Fr → St → Prop}
  (hq : quietCall y = true) (hd : d ∉ y.o.looksAt ops) (hne : y.o.dst ≠ some d) (h : run1 call P locs ops.toList y (fr.newLoc d z) σ K X) :
  run1 call P locs ops.toList y fr σ (fun fr' σ' => (∃ e,fr' = fr.put y.o.dst e) ∧ K (fr'.newLoc d z) σ') X := by
 have hlook : ∀ u ∈ y.o.op.operands,evP fr u = evP (fr.newLoc d z) u := by
  intro u hu
  cases u with
  | tmp t =>
   have ht : t ≠ d := by
    rintro rfl
    exact hd (List.mem_append_left _ (List.mem_filterMap.2 ⟨.tmp t,by simpa using hu,rfl⟩))
   show (fr.env t).pv = ((fr.newLoc d z).env t).pv
   rw [newLoc_env ht,EV.forget_pv]
  | _ => rfl
 obtain ⟨i,⟨dst,op,type,pos,after,guard⟩,c,s⟩ := y
 simp only [quietCall,Bool.and_eq_true] at hq
 obtain ⟨⟨h1,h2⟩,h3⟩ := hq
 cases guard with
 | some g => simp at h3
 | none =>
  cases op with
  | call q =>
   obtain ⟨callee,args,argTypes⟩ := q
   cases callee with
   | value f =>
    subst h2
    simp only [run1,opC] at h ⊢
    rw [opV_congrP (fr' := fr) (fun u hu => (hlook u hu).symm) rfl] at h
    have key : ∀ (e : PV) (σ' : St),K ((fr.newLoc d z).put dst (.v e)) σ' → K ((fr.put dst (.v e)).newLoc d z) σ' := by
     intro e σ' hk
     have : (fr.put dst (.v e)).newLoc d z = (fr.newLoc d z).put dst (.v e) := by
      cases hy : dst with
      | none => rfl
      | some t =>
       have hne' : t ≠ d := fun he => hne (by rw [← he]; exact hy)
       refine Fr.ext' (fun k => ?_) rfl rfl
       by_cases hkd : k = d
       ·subst hkd
        simp [Fr.newLoc,Fr.put,Ne.symm hne']
       ·rw [newLoc_env hkd]
        by_cases hkt : k = t
        ·subst hkt
         simp [Fr.put,EV.forget]
        ·simp only [Fr.put,hkt,if_false]
         rw [newLoc_env hkd]
     rw [this]
     exact hk
    have h' : opV (algP call) P c true ⟨dst,.call ⟨.value f,args,argTypes⟩,type,pos,after,none⟩ fr σ (fun e σ' => K ((fr.newLoc d z).put dst (.v e.pv)) σ') (fun v σ => X v (fr.newLoc d z) σ) := h
    show opV (algP call) P c true ⟨dst,.call ⟨.value f,args,argTypes⟩,type,pos,after,none⟩ fr σ (fun e σ' => (∃ e',fr.put dst (.v e.pv) = fr.put dst e') ∧ K ((fr.put dst (.v e.pv)).newLoc d z) σ') (fun v σ => X v fr σ)
    have h'' : opV (algP call) P c true ⟨dst,.call ⟨.value f,args,argTypes⟩,type,pos,after,none⟩ fr σ (fun e σ' => K ((fr.newLoc d z).put dst (.v e.pv)) σ') (fun v σ => X v fr σ) := h'
    exact opV_mono hm (fun e σ' hk => ⟨⟨_,rfl⟩,key _ _ hk⟩) (fun _ _ hx => hx) h''
   | _ => simp at h1
  | _ => simp at h1
theorem runL_front (hm : CallMono call) {ops : Array Oper} {y : Task} {post : List Task} {K : Fr → St → Prop} {X : PV → Fr → St → Prop} (hX : ∀ v fr fr' σ,fr.noEnv = fr'.noEnv → X v fr σ → X v fr' σ) :
  ∀ (pre : List Task) (fr : Fr) (σ : St),(∀ x ∈ pre,comm locs ops x y = true) → runL call P locs ops.toList (pre ++ y :: post) fr σ K X →
   run1 call P locs ops.toList y fr σ (fun fr σ => runL call P locs ops.toList (pre ++ post) fr σ K X) X
 | [],fr,σ,hc,h => h
 | x :: pre,fr,σ,hc,h => by
  have hx := hc x (by simp)
  simp only [comm,Bool.and_eq_true,Bool.or_eq_true] at hx
  obtain ⟨⟨hap,hbx,hby⟩,hx⟩ := hx
  have hbx : blkLit locs x.o = false := by simpa using hbx
  have hby : blkLit locs y.o = false := by simpa using hby
  simp only [List.cons_append,runL] at h
  rcases hx with ⟨⟨hp,hof⟩,heff⟩ | ⟨hn,hp⟩
  ·rw [run1_val hp hbx] at h
   obtain ⟨e,hv,h⟩ := h
   have ih := runL_front hm hX pre _ σ (fun x' hx' => hc x' (by simp [hx'])) h
   have : run1 call P locs ops.toList y fr σ (fun fr' σ' => valT P ops.toList x fr' σ' = some e ∧ runL call P locs ops.toList (pre ++ post) (fr'.put x.o.dst e) σ' K X) X := by
    rcases heff with (heff | heff) | heff
    ·exact run1_under hm hX hp hof hby hap heff hv ih
    ·exact run1_underH hp hap heff hv ih
    ·exact run1_held hm hX hof hap heff hv ih
   refine run1_mono hm (fun fr' σ' hk => ?_) (fun _ _ _ h => h) this
   simp only [List.cons_append,runL]
   rw [run1_val hp hbx]
   exact ⟨e,hk.1,hk.2⟩
  ·obtain ⟨d,Z,hd,hZ,hZc⟩ := run1_new (P := P) (call := call) (all := ops.toList) hn
   obtain ⟨h1,h2,h3⟩ := Oper.apart_spec hap
   rw [hZ] at h
   obtain ⟨z,hz,h⟩ := h
   have ih := runL_front hm hX pre _ σ (fun x' hx' => hc x' (by simp [hx'])) h
   rcases hp with hp | hq
   rotate_left
   ·have q := run1_quiet hm hq (h1 d hd) (h2 d hd) ih
    refine run1_mono hm (fun fr' σ' hk => ?_) (fun _ _ _ h => h) q
    obtain ⟨⟨e,rfl⟩,hk⟩ := hk
    simp only [List.cons_append,runL]
    rw [hZ]
    refine ⟨z,?_,hk⟩
    rw [← hz]
    refine hZc _ _ fun u hu => evP_congr ?_
    exact operand_looks (fun t ht => Fr.put_env _ _ _ _ fun hy => h3 t hy ht) u hu
   rw [run1_val hp hby] at ih ⊢
   obtain ⟨e,hv,hk⟩ := ih
   obtain ⟨e0,hv0,rfl⟩ := valT_newLoc hp (h1 d hd) hv
   refine ⟨e0,hv0,?_⟩
   simp only [List.cons_append,runL]
   rw [hZ]
   refine ⟨z,?_,?_⟩
   ·rw [← hz]
    refine hZc _ _ fun u hu => evP_congr ?_
    exact operand_looks (fun t ht => Fr.put_env _ _ _ _ fun hy => h3 t hy ht) u hu
   ·have : (fr.put y.o.dst e0).newLoc d z = (fr.newLoc d z).put y.o.dst (e0.forget d) := by
     cases hy : y.o.dst with
     | none => rfl
     | some t =>
      have hne : t ≠ d := by
       rintro rfl
       exact h2 t hd hy
      refine Fr.ext' (fun k => ?_) rfl rfl
      by_cases hkd : k = d
      ·subst hkd
       simp [Fr.newLoc,Fr.put,Ne.symm hne]
      ·rw [newLoc_env hkd]
       by_cases hkt : k = t
       ·subst hkt
        simp [Fr.put]
       ·simp only [Fr.put,hkt,if_false]
        rw [newLoc_env hkd]
    rw [this]
    exact hk
end
end Go.Abs
