/- Orders: an operation that only leaves a value alone may as well come after one that does not look at it. -/
import Derived.Test.YtiniifbmeobmgaaGreatDoorAbsDraw
set_option linter.unusedVariables false
set_option linter.unusedSimpArgs false
namespace Go.Abs

section
variable {P : Program} {locs : List Nat} {call : CallP}

/-- The answers 'this value, or none'. -/
def algO : Alg (Option EV) where
  fail := none
  call _ _ _ _ := none
  same _ _ _ := none
  all _ _ := none
  loop _ _ _ := none
  cut _ _ := none
  weak _ _ _ _ := none
  both _ _ := none

def pureV (P : Program) (c s : Bool) (o : Oper) (fr : Fr) (σ : St) : Option EV := opV algO P c s o fr σ (fun e _ => some e) (fun _ _ => none)

/-- What is to be shown of one operation is shown by its parts. -/
theorem bindO_par {ρ ρ' : Type} {r : ρ → ρ' → Prop} {fa : ρ} {fb : ρ'} (hf : ∀ q, r fa q) {α : Type} {o : Option α} {K : α → ρ} {K' : α → ρ'} (hK : ∀ a, r (K a) (K' a)) : r (bindO fa o K) (bindO fb o K') := by
  cases o with
  | none => exact hf _
  | some a => exact hK a

theorem bindO_par' {ρ ρ' : Type} {r : ρ → ρ' → Prop} {fa : ρ} {fb : ρ'} (hf : r fa fb) {α : Type} {o : Option α} {K : α → ρ} {K' : α → ρ'} (hK : ∀ a, r (K a) (K' a)) : r (bindO fa o K) (bindO fb o K') := by
  cases o with
  | none => exact hf
  | some a => exact hK a

theorem ite_par {ρ ρ' : Type} {r : ρ → ρ' → Prop} {c : Prop} [Decidable c] {a b : ρ} {a' b' : ρ'} (ha : r a a') (hb : r b b') : r (if c then a else b) (if c then a' else b') := by
  split
  · exact ha
  · exact hb

/-- A relation between the two answers that holds at the ends holds of the operation. -/
theorem opV_par {ρ ρ' : Type} {r : ρ → ρ' → Prop} {A : Alg ρ} {B : Alg ρ'} (hf : r A.fail B.fail) {c s : Bool} {o : Oper} {fr : Fr} {σ : St} {K : EV → St → ρ} {X : PV → St → ρ} {K' : EV → St → ρ'} {X' : PV → St → ρ'} (hp : isP o = true) (hK : ∀ e, r (K e σ) (K' e σ)) :
    r (opV A P c s o fr σ K X) (opV B P c s o fr σ K' X') := by
  obtain ⟨dst, op, type, pos, after, guard⟩ := o
  have bb {α : Type} {o : Option α} {K : α → ρ} {K' : α → ρ'} (hK : ∀ a, r (K a) (K' a)) : r (bindO A.fail o K) (bindO B.fail o K') := bindO_par' hf hK
  cases op with
  | call q =>
    obtain ⟨callee, args, argTypes⟩ := q
    cases callee with
    | builtin b =>
      cases b with
      | len =>
        simp only [opV]
        split
        · exact bb fun k => bb fun x => hK _
        · exact hf
      | min =>
        simp only [opV]
        split
        · exact bb fun k => hK _
        · exact hf
      | max =>
        simp only [opV]
        split
        · exact bb fun k => hK _
        · exact hf
      | _ => simp [isP] at hp
    | _ => simp [isP] at hp
  | load | move | assign | pick | build | buildSlice | nilCheck | binOp | unOp | convert | makeFunc | slice | fieldAddr | indexAddr | index | extract | makeInterface | typeAssert | lookup | entry =>
    simp only [opV]
    repeat first
      | exact hK _
      | exact hf
      | refine bb fun _ => ?_
      | refine ite_par ?_ ?_
      | split
  | _ => simp [isP] at hp

theorem opV_pure {c s : Bool} {o : Oper} {fr : Fr} {σ : St} {K : EV → St → Prop} {X : PV → St → Prop} (hp : isP o = true) :
    opV (algP call) P c s o fr σ K X ↔ ∃ e, pureV P c s o fr σ = some e ∧ K e σ := by
  refine opV_par (r := fun (p : Prop) (q : Option EV) => p ↔ ∃ e, q = some e ∧ K e σ) (B := algO) ?_ hp (fun e => ?_)
  · exact ⟨fun h => h.elim, fun ⟨e, h, _⟩ => by cases h⟩
  · exact ⟨fun h => ⟨e, rfl, h⟩, fun ⟨e', h, h'⟩ => by cases h; exact h'⟩

/-- A slice's parts do not hang on the other slots. -/
theorem evP_congr {fr fr' : Fr} {x : Operand} (h : evE fr x = evE fr' x) : evP fr x = evP fr' x := by unfold evP; rw [h]

theorem partsOf_congr {fr fr' : Fr} {pl : List (Nat × Nat)} : ∀ (l : List (Nat × Operand)), (∀ p ∈ l, evE fr p.2 = evE fr' p.2) → partsOf pl fr l = partsOf pl fr' l
  | [], h => rfl
  | (i, x) :: l, h => by
    simp only [partsOf]
    rw [partsOf_congr l (fun p hp => h p (by simp [hp])), evP_congr (h (i, x) (by simp))]

theorem map_evP_congr {fr fr' : Fr} (l : List Operand) (h : ∀ x ∈ l, evE fr x = evE fr' x) : l.map (evP fr) = l.map (evP fr') :=
  List.map_congr_left fun x hx => evP_congr (h x hx)

/-- An operation looks at its operands, and at the frame's variables. -/
theorem opV_congr {ρ : Type} {A : Alg ρ} {c s : Bool} {o : Oper} {fr fr' : Fr} {σ : St} {K : EV → St → ρ} {X : PV → St → ρ} (h : ∀ x ∈ o.op.operands, evE fr x = evE fr' x) (hl : isLoad o = false ∨ c = true ∨ fr.loc = fr'.loc) :
    opV A P c s o fr σ K X = opV A P c s o fr' σ K X := by
  obtain ⟨dst, op, type, pos, after, guard⟩ := o
  cases op with
  | call q =>
    obtain ⟨callee, args, argTypes⟩ := q
    simp only [Op.operands, Call.operands] at h
    cases callee with
    | builtin b =>
      cases b with
      | len =>
        simp only [opV]
        split
        · rename_i x t hx ht
          have : evP fr x = evP fr' x := evP_congr (h x (by simp [← Array.mem_toList_iff, hx]))
          rw [this]
        · rfl
      | append =>
        simp only [opV]
        split
        · rename_i x y t t2 hx ht
          have h1 : evP fr x = evP fr' x := evP_congr (h x (by simp [← Array.mem_toList_iff, hx]))
          have h2 : evP fr y = evP fr' y := evP_congr (h y (by simp [← Array.mem_toList_iff, hx]))
          rw [h1, h2]
        · rfl
      | min =>
        simp only [opV]
        split
        · rename_i x y hx
          have h1 : evP fr x = evP fr' x := evP_congr (h x (by simp [← Array.mem_toList_iff, hx]))
          have h2 : evP fr y = evP fr' y := evP_congr (h y (by simp [← Array.mem_toList_iff, hx]))
          rw [h1, h2]
        · rfl
      | max =>
        simp only [opV]
        split
        · rename_i x y hx
          have h1 : evP fr x = evP fr' x := evP_congr (h x (by simp [← Array.mem_toList_iff, hx]))
          have h2 : evP fr y = evP fr' y := evP_congr (h y (by simp [← Array.mem_toList_iff, hx]))
          rw [h1, h2]
        · rfl
      | delete =>
        simp only [opV]
        split
        · rename_i x y t t2 hx ht
          have h1 : evP fr x = evP fr' x := evP_congr (h x (by simp [← Array.mem_toList_iff, hx]))
          have h2 : evP fr y = evP fr' y := evP_congr (h y (by simp [← Array.mem_toList_iff, hx]))
          rw [h1, h2]
        · rfl
      | _ => rfl
    | value f =>
      simp only [opV]
      have h1 : evP fr f = evP fr' f := evP_congr (h f (by simp))
      have h2 : args.toList.map (evP fr) = args.toList.map (evP fr') := map_evP_congr _ fun x hx => h x (by simp at hx; simp [hx])
      rw [h1, h2]
    | invoke _ _ => rfl
  | load t a =>
    have ha := h a (by simp [Op.operands])
    rcases hl.resolve_left (by simp [isLoad]) with hl' | hl'
    · subst hl'
      simp only [opV, ha]
    · simp only [opV, ha, hl']
  | build t parts =>
    simp only [Op.operands] at h
    simp only [opV]
    have : ∀ pl, partsOf pl fr parts.toList = partsOf pl fr' parts.toList := fun pl => partsOf_congr _ fun p hp => h p.2 (by simp; exact ⟨p.1, by simpa using hp⟩)
    simp only [this]
  | buildSlice t n parts =>
    simp only [Op.operands] at h
    simp only [opV]
    have : (parts.toList.map fun (i, x) => (i, evP fr x)) = (parts.toList.map fun (i, x) => (i, evP fr' x)) := List.map_congr_left fun p hp => by
      have := evP_congr (h p.2 (by simp; exact ⟨p.1, by simpa using hp⟩))
      simp only [this]
    simp only [this]
  | makeFunc fn first caps =>
    simp only [Op.operands] at h
    simp only [opV]
    have : caps.toList.map (evP fr) = caps.toList.map (evP fr') := map_evP_congr _ fun x hx => h x (by simp at hx; simp [hx])
    simp only [this]
  | slice t x lo hi mx =>
    have hx := evP_congr (h x (by simp [Op.operands]))
    have hlo : lo.map (evP fr) = lo.map (evP fr') := by
      cases lo with
      | none => rfl
      | some y => simp only [Option.map_some]; rw [evP_congr (h y (by simp [Op.operands]))]
    have hhi : hi.map (evP fr) = hi.map (evP fr') := by
      cases hi with
      | none => rfl
      | some y => simp only [Option.map_some]; rw [evP_congr (h y (by simp [Op.operands]))]
    simp only [opV, hx, hlo, hhi]
  | _ =>
    simp only [Op.operands] at h
    try simp only [opV, evP]
    try (simp_all; done)

theorem partsOf_congrP {fr fr' : Fr} {pl : List (Nat × Nat)} : ∀ (l : List (Nat × Operand)), (∀ p ∈ l, evP fr p.2 = evP fr' p.2) → partsOf pl fr l = partsOf pl fr' l
  | [], h => rfl
  | (i, x) :: l, h => by
    simp only [partsOf]
    rw [partsOf_congrP l (fun p hp => h p (by simp [hp])), h (i, x) (by simp)]

/-- Operations that look at places. -/
def looksE (o : Oper) : Bool :=
  match o.op with
  | .load .. => true
  | .move _ => true
  | .assign _ => true
  | .nilCheck _ => true
  | .fieldAddr .. => true
  | _ => false

/-- Operations that look at values alone. -/
theorem opV_congrP {ρ : Type} {A : Alg ρ} {c s : Bool} {o : Oper} {fr fr' : Fr} {σ : St} {K : EV → St → ρ} {X : PV → St → ρ} (h : ∀ x ∈ o.op.operands, evP fr x = evP fr' x) (hl : looksE o = false) :
    opV A P c s o fr σ K X = opV A P c s o fr' σ K X := by
  obtain ⟨dst, op, type, pos, after, guard⟩ := o
  cases op with
  | call q =>
    obtain ⟨callee, args, argTypes⟩ := q
    simp only [Op.operands, Call.operands] at h
    cases callee with
    | builtin b =>
      cases b with
      | len =>
        simp only [opV]
        split
        · rename_i x t hx ht
          have : evP fr x = evP fr' x := h x (by simp [← Array.mem_toList_iff, hx])
          rw [this]
        · rfl
      | append =>
        simp only [opV]
        split
        · rename_i x y t t2 hx ht
          have h1 : evP fr x = evP fr' x := h x (by simp [← Array.mem_toList_iff, hx])
          have h2 : evP fr y = evP fr' y := h y (by simp [← Array.mem_toList_iff, hx])
          rw [h1, h2]
        · rfl
      | min =>
        simp only [opV]
        split
        · rename_i x y hx
          have h1 : evP fr x = evP fr' x := h x (by simp [← Array.mem_toList_iff, hx])
          have h2 : evP fr y = evP fr' y := h y (by simp [← Array.mem_toList_iff, hx])
          rw [h1, h2]
        · rfl
      | max =>
        simp only [opV]
        split
        · rename_i x y hx
          have h1 : evP fr x = evP fr' x := h x (by simp [← Array.mem_toList_iff, hx])
          have h2 : evP fr y = evP fr' y := h y (by simp [← Array.mem_toList_iff, hx])
          rw [h1, h2]
        · rfl
      | delete =>
        simp only [opV]
        split
        · rename_i x y t t2 hx ht
          have h1 : evP fr x = evP fr' x := h x (by simp [← Array.mem_toList_iff, hx])
          have h2 : evP fr y = evP fr' y := h y (by simp [← Array.mem_toList_iff, hx])
          rw [h1, h2]
        · rfl
      | _ => rfl
    | value f =>
      simp only [opV]
      have h1 : evP fr f = evP fr' f := h f (by simp)
      have h2 : args.toList.map (evP fr) = args.toList.map (evP fr') := List.map_congr_left fun x hx => h x (by simp at hx; simp [hx])
      rw [h1, h2]
    | invoke _ _ => rfl
  | load t a => simp [looksE] at hl
  | move a => simp [looksE] at hl
  | assign a => simp [looksE] at hl
  | nilCheck a => simp [looksE] at hl
  | fieldAddr t a f => simp [looksE] at hl
  | build t parts =>
    simp only [Op.operands] at h
    simp only [opV]
    have : ∀ pl, partsOf pl fr parts.toList = partsOf pl fr' parts.toList := fun pl => partsOf_congrP _ fun p hp => h p.2 (by simp; exact ⟨p.1, by simpa using hp⟩)
    simp only [this]
  | buildSlice t n parts =>
    simp only [Op.operands] at h
    simp only [opV]
    have : (parts.toList.map fun (i, x) => (i, evP fr x)) = (parts.toList.map fun (i, x) => (i, evP fr' x)) := List.map_congr_left fun p hp => by
      have := h p.2 (by simp; exact ⟨p.1, by simpa using hp⟩)
      simp only [this]
    simp only [this]
  | makeFunc fn first caps =>
    simp only [Op.operands] at h
    simp only [opV]
    have : caps.toList.map (evP fr) = caps.toList.map (evP fr') := List.map_congr_left fun x hx => h x (by simp at hx; simp [hx])
    simp only [this]
  | slice t x lo hi mx =>
    have hx := h x (by simp [Op.operands])
    have hlo : lo.map (evP fr) = lo.map (evP fr') := by
      cases lo with
      | none => rfl
      | some y => simp only [Option.map_some]; rw [h y (by simp [Op.operands])]
    have hhi : hi.map (evP fr) = hi.map (evP fr') := by
      cases hi with
      | none => rfl
      | some y => simp only [Option.map_some]; rw [h y (by simp [Op.operands])]
    simp only [opV, hx, hlo, hhi]
  | _ =>
    simp only [Op.operands] at h
    try simp only [opV]
    try (simp_all; done)

end
end Go.Abs
