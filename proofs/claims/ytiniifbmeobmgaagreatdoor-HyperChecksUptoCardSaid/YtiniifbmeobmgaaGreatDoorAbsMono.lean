/- Two kinds of answers side by side: what holds of the parts holds of the whole. -/
import Derived.Test.YtiniifbmeobmgaaGreatDoorAbsCtl
set_option linter.unusedVariables false
set_option linter.unusedSimpArgs false
namespace Go.Abs

structure AlgRel {ρ ρ' : Type} (r : ρ → ρ' → Prop) (A : Alg ρ) (B : Alg ρ') : Prop where
  fail : ∀ q, r A.fail q
  call : ∀ {f args σ R R'}, (∀ x σ, r (R x σ) (R' x σ)) → r (A.call f args σ R) (B.call f args σ R')
  same : ∀ {σ σ' p q}, r p q → r (A.same σ σ' p) (B.same σ σ' q)
  loop : ∀ {F F' x σ}, (∀ Φ Φ', (∀ x σ, r (Φ x σ) (Φ' x σ)) → ∀ x σ, r (F Φ x σ) (F' Φ' x σ)) → r (A.loop F x σ) (B.loop F' x σ)
  all : ∀ {l K K'}, (∀ v σ, r (K v σ) (K' v σ)) → r (A.all l K) (B.all l K')
  cut : ∀ {a a' b b'}, (∀ J J', (∀ x σ, r (J x σ) (J' x σ)) → r (a J) (a' J')) → (∀ x σ, r (b x σ) (b' x σ)) → r (A.cut a b) (B.cut a' b')
  weak : ∀ {σ₀ v σ' K K'}, (∀ v σ, r (K v σ) (K' v σ)) → r (A.weak σ₀ v σ' K) (B.weak σ₀ v σ' K')
  both : ∀ {p p' q q'}, r p p' → r q q' → r (A.both p q) (B.both p' q')

section
variable {ρ ρ' : Type} {r : ρ → ρ' → Prop} {A : Alg ρ} {B : Alg ρ'} {P : Program}

theorem bindO_rel (h : AlgRel r A B) {α : Type} {o : Option α} {K : α → ρ} {K' : α → ρ'} (hK : ∀ a, r (K a) (K' a)) : r (bindO A.fail o K) (bindO B.fail o K') := by
  cases o with
  | none => exact h.fail _
  | some a => exact hK a

theorem ite_rel (h : AlgRel r A B) {c : Prop} [Decidable c] {a : ρ} {b : ρ} {a' b' : ρ'} (ha : c → r a a') (hb : ¬ c → r b b') : r (if c then a else b) (if c then a' else b') := by
  split
  · exact ha ‹_›
  · exact hb ‹_›

theorem callG_rel (h : AlgRel r A B) {clean : Bool} {f : PV} {args : List PV} {σ : St} {K X : PV → St → ρ} {K' X' : PV → St → ρ'} (hK : ∀ e σ, r (K e σ) (K' e σ)) (hX : ∀ v σ, r (X v σ) (X' v σ)) :
    r (callG A P clean f args σ K X) (callG B P clean f args σ K' X') := by
  unfold callG
  cases f with
  | func f caps =>
    simp only
    cases P.funcs[f]? with
    | none => exact h.fail _
    | some fn =>
      simp only
      cases fn.body with
      | none => exact bindO_rel h fun a => hK _ _
      | some c =>
        simp only
        unfold callG.callK
        refine h.call fun x σ' => ?_
        cases clean with
        | true =>
          simp only
          refine h.same ?_
          cases x with
          | ret v => exact hK _ _
          | pan v => exact h.fail _
        | false =>
          cases x with
          | ret v => exact hK _ _
          | pan v => exact hX _ _
  | _ => exact h.fail _

theorem opV_rel (h : AlgRel r A B) {c s : Bool} {o : Oper} {fr : Fr} {σ : St} {K : EV → St → ρ} {X : PV → St → ρ} {K' : EV → St → ρ'} {X' : PV → St → ρ'} (hK : ∀ e σ, r (K e σ) (K' e σ)) (hX : ∀ v σ, r (X v σ) (X' v σ)) :
    r (opV A P c s o fr σ K X) (opV B P c s o fr σ K' X') := by
  obtain ⟨dst, op, type, pos, after, guard⟩ := o
  have bb {α : Type} {o : Option α} {K : α → ρ} {K' : α → ρ'} (hK : ∀ a, r (K a) (K' a)) : r (bindO A.fail o K) (bindO B.fail o K') := bindO_rel h hK
  cases op with
  | call q =>
    obtain ⟨callee, args, argTypes⟩ := q
    cases callee with
    | value f => exact callG_rel h (fun e σ => hK _ _) hX
    | invoke _ _ => exact h.fail _
    | builtin b =>
      cases b with
      | len =>
        simp only [opV]
        split
        · exact bb fun k => bb fun x => hK _ _
        · exact h.fail _
      | append =>
        simp only [opV]
        split
        · exact bb fun e => bb fun sz => bb fun by_ => bb fun z => bb fun _ => ite_rel h (fun _ => bb fun r => hK _ _) (fun _ => h.fail _)
        · exact h.fail _
      | min =>
        simp only [opV]
        split
        · exact bb fun k => hK _ _
        · exact h.fail _
      | max =>
        simp only [opV]
        split
        · exact bb fun k => hK _ _
        · exact h.fail _
      | delete =>
        simp only [opV]
        split
        · exact bb fun _ => bb fun _ => bb fun _ => hK _ _
        · exact h.fail _
      | _ => exact h.fail _
  | _ =>
    simp only [opV]
    repeat first
      | exact hK _ _
      | exact hX _ _
      | exact h.fail _
      | exact h.all fun v σ => hK _ _
      | refine bb fun _ => ?_
      | refine ite_rel h (fun _ => ?_) (fun _ => ?_)
      | split

theorem opC_rel (h : AlgRel r A B) {locs : List Nat} {c s : Bool} {o : Oper} {fr : Fr} {σ : St} {K : Fr → St → ρ} {X : PV → Fr → St → ρ} {K' : Fr → St → ρ'} {X' : PV → Fr → St → ρ'} (hK : ∀ e σ, r (K e σ) (K' e σ)) (hX : ∀ v fr σ, r (X v fr σ) (X' v fr σ)) :
    r (opC A P locs c s o fr σ K X) (opC B P locs c s o fr σ K' X') := by
  obtain ⟨dst, op, type, pos, after, guard⟩ := o
  have bb {α : Type} {o : Option α} {K : α → ρ} {K' : α → ρ'} (hK : ∀ a, r (K a) (K' a)) : r (bindO A.fail o K) (bindO B.fail o K') := bindO_rel h hK
  have other : r (opV A P c s ⟨dst, op, type, pos, after, guard⟩ fr σ (fun e σ => K (fr.put dst e) σ) (fun v σ => X v fr σ)) (opV B P c s ⟨dst, op, type, pos, after, guard⟩ fr σ (fun e σ => K' (fr.put dst e) σ) (fun v σ => X' v fr σ)) :=
    opV_rel h (fun e σ => hK _ _) (fun v σ => hX _ _ _)
  cases op with
  | alloc t =>
    simp only [opC]
    repeat first
      | exact hK _ _
      | exact h.fail _
      | refine bb fun _ => ?_
      | refine ite_rel h (fun _ => ?_) (fun _ => ?_)
      | split
  | box t x =>
    simp only [opC]
    repeat first
      | exact hK _ _
      | exact h.fail _
      | refine bb fun _ => ?_
      | refine ite_rel h (fun _ => ?_) (fun _ => ?_)
      | split
  | store t a x =>
    simp only [opC]
    repeat first
      | exact hK _ _
      | exact h.fail _
      | refine bb fun _ => ?_
      | refine ite_rel h (fun _ => ?_) (fun _ => ?_)
      | split
  | defer q =>
    simp only [opC]
    repeat first
      | exact hK _ _
      | exact h.fail _
      | split
  | _ => exact other

theorem seqC_rel (h : AlgRel r A B) : ∀ (ts : List Task) {fr : Fr} {σ : St} {K : Fr → St → ρ} {X : PV → St → ρ} {K' : Fr → St → ρ'} {X' : PV → St → ρ'}, (∀ e σ, r (K e σ) (K' e σ)) → (∀ v σ, r (X v σ) (X' v σ)) →
    r (seqC A P ts fr σ K X) (seqC B P ts fr σ K' X')
  | [], _, _, _, _, _, _, hK, hX => hK _ _
  | t :: ts, _, _, _, _, _, _, hK, hX => opV_rel h (fun e σ => seqC_rel h ts hK hX) hX

theorem opsC_rel (h : AlgRel r A B) {locs : List Nat} {all : List Oper} : ∀ (n : Nat) (ts : List Task) {fr : Fr} {σ : St} {K : Fr → St → ρ} {X : PV → Fr → St → ρ} {K' : Fr → St → ρ'} {X' : PV → Fr → St → ρ'}, (∀ e σ, r (K e σ) (K' e σ)) → (∀ v fr σ, r (X v fr σ) (X' v fr σ)) →
    r (opsC A P locs all n ts fr σ K X) (opsC B P locs all n ts fr σ K' X')
  | 0, [], _, _, _, _, _, _, hK, hX => hK _ _
  | 0, _ :: _, _, _, _, _, _, _, hK, hX => h.fail _
  | n + 1, [], _, _, _, _, _, _, hK, hX => hK _ _
  | n + 1, t :: ts, fr, _, _, _, _, _, hK, hX => by
    simp only [opsC]
    cases t.o.guard with
    | none => exact opC_rel h (fun e σ => opsC_rel h n ts hK hX) hX
    | some g =>
      simp only
      cases all[g.1]? with
      | none => exact h.fail _
      | some oj =>
        simp only
        cases oj.dst with
        | none => exact h.fail _
        | some d =>
          simp only
          refine ite_rel h (fun _ => ?_) (fun _ => h.fail _)
          unfold guardG
          cases gOk (fr.env d).pv g.2 with
          | none => exact h.fail _
          | some b =>
            cases b with
            | true => exact seqC_rel h _ (fun e σ => opsC_rel h n _ hK hX) (fun v σ => hX _ _ _)
            | false => exact opsC_rel h n _ hK hX

theorem toPack_rel (h : AlgRel r A B) {kp : List Nat × List Nat} {fr : Fr} {K : (Nat → PV) → ρ} {K' : (Nat → PV) → ρ'} (hK : ∀ x, r (K x) (K' x)) : r (toPack A kp fr K) (toPack B kp fr K') := by
  unfold toPack
  cases fr.dfr with
  | cons => exact h.fail _
  | nil =>
    simp only
    generalize lookP (packL kp.1 kp.2 fr) = x
    have : ∀ l : List Nat, r (locsThere A fr (K x) l) (locsThere B fr (K' x) l) := by
      intro l
      induction l with
      | nil => exact hK _
      | cons s l ih =>
        simp only [locsThere]
        split
        · exact ite_rel h (fun _ => ih) (fun _ => h.fail _)
        · exact h.fail _
    exact this _

theorem drawC_rel (h : AlgRel r A B) {an : Ann} {id : Nat} {ops : List Oper} {run : List Task → ρ} {run' : List Task → ρ'} (hr : ∀ ts, r (run ts) (run' ts)) : r (drawC A an id ops run) (drawC B an id ops run') := by
  unfold drawC
  cases findDraw an.draws id with
  | none => exact h.fail _
  | some l =>
    simp only
    cases tasksOf ops l with
    | none => exact h.fail _
    | some ts =>
      simp only
      cases findDraw an.alts id with
      | none => exact hr _
      | some l' =>
        simp only
        cases tasksOf ops l' with
        | none => exact h.fail _
        | some ts' => exact h.both (hr _) (hr _)

theorem codeC_rel (h : AlgRel r A B) {an : Ann} : ∀ (c : Code) {fr : Fr} {σ : St} {Q : Out → Fr → St → ρ} {Q' : Out → Fr → St → ρ'}, (∀ o fr σ, r (Q o fr σ) (Q' o fr σ)) →
    r (codeC A P an c fr σ Q) (codeC B P an c fr σ Q')
  | .skip, _, _, _, _, hQ => hQ _ _ _
  | .label _, _, _, _, _, hQ => hQ _ _ _
  | .exit _, _, _, _, _, hQ => hQ _ _ _
  | .ret, _, _, _, _, hQ => hQ _ _ _
  | .region id ops draw, _, _, _, _, hQ => by
    simp only [codeC]
    cases draw with
    | false => exact opsC_rel h _ _ (fun _ _ => hQ _ _ _) (fun _ _ _ => hQ _ _ _)
    | true => exact drawC_rel h fun ts => opsC_rel h _ _ (fun _ _ => hQ _ _ _) (fun _ _ _ => hQ _ _ _)
  | .seq x y, _, _, _, _, hQ => by
    simp only [codeC]
    refine ite_rel h (fun _ => ?_) (fun _ => ?_)
    · cases an.at_ (firstReg y) with
      | none => exact h.fail _
      | some kp =>
        simp only
        refine h.cut (fun J J' hJ => codeC_rel h x fun o fr σ => ?_) (fun x σ => codeC_rel h y hQ)
        cases o with
        | normal => exact toPack_rel h fun x => hJ _ _
        | _ => exact hQ _ _ _
    · refine codeC_rel h x fun o fr σ => ?_
      cases o with
      | normal => exact codeC_rel h y hQ
      | _ => exact hQ _ _ _
  | .cond c x y, fr, _, _, _, hQ => by
    simp only [codeC]
    cases evP fr c with
    | bool b =>
      cases b with
      | true => exact codeC_rel h x hQ
      | false => exact codeC_rel h y hQ
    | _ => exact h.fail _
  | .block id x, _, _, _, _, hQ => by
    simp only [codeC]
    refine codeC_rel h x fun o fr σ => ?_
    cases o with
    | exit id' => exact ite_rel h (fun _ => hQ _ _ _) (fun _ => hQ _ _ _)
    | _ => exact hQ _ _ _
  | .loop x, _, _, _, _, hQ => by
    simp only [codeC]
    cases an.at_ (firstReg x) with
    | none => exact h.fail _
    | some kp =>
      simp only
      refine toPack_rel h fun y => h.loop fun Φ Φ' hΦ y σ => codeC_rel h x fun o fr σ => ?_
      cases o with
      | normal => exact toPack_rel h fun x => hΦ _ _
      | _ => exact hQ _ _ _
  | .rangeFunc _ _ _ _, _, _, _, _, hQ => h.fail _
  | .scope _, _, _, _, _, hQ => h.fail _
  | .goto _, _, _, _, _, hQ => h.fail _
  | .refuse _, _, _, _, _, hQ => h.fail _

theorem deferC_rel (h : AlgRel r A B) {ann : FuncId → Ann} {g : FuncId} {caps : List PV} {m : Option PV} {σ : St} {K : Option PV → St → ρ} {K' : Option PV → St → ρ'} (hK : ∀ m σ, r (K m σ) (K' m σ)) :
    r (deferC A P ann g caps m σ K) (deferC B P ann g caps m σ K') := by
  unfold deferC
  split
  · split
    · split
      · refine ite_rel h (fun _ => ?_) (fun _ => h.fail _)
        refine opsC_rel h _ _ (fun fr σ => codeC_rel h _ fun o fr σ => ?_) (fun _ _ _ => h.fail _)
        split
        · cases o with
          | normal => exact hK _ _
          | ret => exact hK _ _
          | exit _ => exact h.fail _
          | pan v =>
            simp only
            split
            · exact hK _ _
            · exact h.fail _
        · exact h.fail _
      · exact h.fail _
    · exact h.fail _
  · exact h.fail _

theorem leaveC_rel (h : AlgRel r A B) {ann : FuncId → Ann} {σ₀ : St} {R : Res → St → ρ} {R' : Res → St → ρ'} (hR : ∀ x σ, r (R x σ) (R' x σ)) {fn : Func} {fr : Fr} : ∀ (l : List (FuncId × List PV)) (m : Option PV) (σ' : St),
    r (leaveC A P ann σ₀ R fn fr l m σ') (leaveC B P ann σ₀ R' fn fr l m σ')
  | [], none, σ' => bindO_rel h fun vs => h.weak fun v σ => hR _ _
  | [], some v, σ' => hR _ _
  | d :: ds, m, σ' => deferC_rel h fun m σ => leaveC_rel h hR ds m σ

theorem bodyC_rel (h : AlgRel r A B) {ann : FuncId → Ann} {f : FuncId} {args : List PV} {σ : St} {R : Res → St → ρ} {R' : Res → St → ρ'} (hR : ∀ x σ, r (R x σ) (R' x σ)) :
    r (bodyC A P ann f args σ R) (bodyC B P ann f args σ R') := by
  unfold bodyC
  cases (ann f).ext with
  | some g => exact bindO_rel h fun x => hR _ _
  | none =>
    simp only
    cases P.funcs[f]? with
    | none => exact h.fail _
    | some fn =>
      simp only
      cases fn.body with
      | none => exact h.fail _
      | some c =>
        simp only
        refine codeC_rel h c fun o fr σ' => ?_
        cases o with
        | normal => exact leaveC_rel h hR _ _ _
        | ret => exact leaveC_rel h hR _ _ _
        | pan v => exact leaveC_rel h hR _ _ _
        | exit _ => exact h.fail _
end

/-! ### Statements -/

theorem algP_mono {call call' : CallP} (hc : ∀ {f args σ R R'}, (∀ x σ, R x σ → R' x σ) → call f args σ R → call' f args σ R') : AlgRel (fun p q : Prop => p → q) (algP call) (algP call') where
  fail q h := h.elim
  call hR h := hc hR h
  same hpq h := ⟨h.1, hpq h.2⟩
  loop := by
    intro F F' x σ hF h Φ' hΦ'
    refine h Φ' fun x σ hx => hΦ' x σ (hF Φ' Φ' (fun _ _ h => h) x σ hx)
  all := fun hK h p hp => hK _ _ (h p hp)
  cut := by
    rintro a a' b b' ha hb ⟨J, h1, h2⟩
    exact ⟨J, fun x σ hx => hb x σ (h1 x σ hx), ha J J (fun _ _ h => h) h2⟩
  weak := by
    rintro σ₀ v σ' K K' hK ⟨v', σ'', h1, h2⟩
    exact ⟨v', σ'', h1, hK _ _ h2⟩
  both := fun hp hq h => ⟨hp h.1, hq h.2⟩

theorem callW_mono {P : Program} {ann : FuncId → Ann} {f : FuncId} {args : List PV} {σ : St} {R R' : Res → St → Prop} (hR : ∀ x σ, R x σ → R' x σ) (h : callW P ann f args σ R) : callW P ann f args σ R' := by
  have := h (fun f args σ R => ∀ R' : Res → St → Prop, (∀ x σ, R x σ → R' x σ) → callW P ann f args σ R') (by
    intro f args σ R hb R' hR Φ hΦ
    refine hΦ _ _ _ _ ?_
    refine bodyC_rel (algP_mono ?_) hR hb
    intro f args σ R R' hR hc
    exact hc R' hR Φ hΦ)
  exact this R' hR

/-- A call comes to what the body comes to. -/
theorem callW_fold {P : Program} {ann : FuncId → Ann} {f : FuncId} {args : List PV} {σ : St} {R : Res → St → Prop} (h : bodyC (algP (callW P ann)) P ann f args σ R) : callW P ann f args σ R := by
  intro Φ hΦ
  refine hΦ _ _ _ _ (bodyC_rel (algP_mono ?_) (fun _ _ h => h) h)
  intro f args σ R R' hR hc
  exact callW_mono hR hc Φ hΦ

/-- One more turn of a loop. -/
theorem Lfp_fold {F : ((Nat → PV) → St → Prop) → (Nat → PV) → St → Prop} (hF : ∀ Φ Φ', (∀ x σ, Φ x σ → Φ' x σ) → ∀ x σ, F Φ x σ → F Φ' x σ) {x : Nat → PV} {σ : St} (h : F (Lfp F) x σ) : Lfp F x σ :=
  fun Φ hΦ => hΦ _ _ (hF _ _ (fun x σ hx => hx Φ hΦ) _ _ h)

end Go.Abs
