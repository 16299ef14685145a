/- The answers 'yes, reckoned'. -/
import Derived.Test.YtiniifbmeobmgaaGreatDoorAbsMono
set_option linter.unusedVariables false
namespace Go.Abs

def loopB (F : ((Nat → PV) → St → Bool) → (Nat → PV) → St → Bool) : Nat → (Nat → PV) → St → Bool
  | 0, _, _ => false
  | n + 1, x, σ => F (loopB F n) x σ

mutual
def PV.beq : PV → PV → Bool
  | .any, .any => true
  | .bool a, .bool b => a == b
  | .int k a, .int k' b => k == k' && a == b
  | .str a, .str b => a == b
  | .nilptr, .nilptr => true
  | .ptr b g i o, .ptr b' g' i' o' => b == b' && g == g' && i == i' && o == o'
  | .eptr e o, .eptr e' o' => PV.beq e e' && o == o'
  | .list k xs, .list k' ys => k == k' && PV.beqL xs ys
  | .sref b g s o l, .sref b' g' s' o' l' => b == b' && g == g' && s == s' && o == o' && l == l'
  | .nilmap, .nilmap => true
  | .mref b, .mref b' => b == b'
  | .func f c, .func f' c' => f == f' && PV.beqL c c'
  | .nilfunc, .nilfunc => true
  | .iface t v, .iface t' v' => t == t' && PV.beq v v'
  | .nilIface, .nilIface => true
  | .agg xs, .agg ys => PV.beqL xs ys
  | .tuple xs, .tuple ys => PV.beqL xs ys
  | _, _ => false
def PV.beqL : List PV → List PV → Bool
  | [], [] => true
  | x :: xs, y :: ys => PV.beq x y && PV.beqL xs ys
  | _, _ => false
end

def beqE : List (PV × PV) → List (PV × PV) → Bool
  | [], [] => true
  | x :: xs, y :: ys => PV.beq x.1 y.1 && PV.beq x.2 y.2 && beqE xs ys
  | _, _ => false

def beqB : Blk → Blk → Bool
  | .arr g s xs, .arr g' s' ys => g == g' && s == s' && PV.beqL xs ys
  | .map v es, .map v' es' => v == v' && beqE es es'
  | .iter m l r, .iter m' l' r' => m == m' && l == l' && r == r'
  | .dead, .dead => true
  | _, _ => false

def beqS : St → St → Bool
  | [], [] => true
  | x :: xs, y :: ys => beqB x y && beqS xs ys
  | _, _ => false

mutual
/-- A value whose slices have become lists. -/
def frzV (σ : St) : Nat → PV → Option PV
  | 0, _ => none
  | n + 1, .sref b g z o l => match σ[b]? with
    | some (.arr g' _ xs) => (match decide (g = g') && decide (o + l ≤ xs.length) with
      | true => (match frzL σ n ((xs.drop o).take l) with
        | some ys => some (.list .part ys)
        | none => none)
      | false => none)
    | _ => none
  | n + 1, .list k xs => (match frzL σ n xs with
    | some ys => some (.list k ys)
    | none => none)
  | n + 1, .agg xs => (match frzL σ n xs with
    | some ys => some (.agg ys)
    | none => none)
  | n + 1, .tuple xs => (match frzL σ n xs with
    | some ys => some (.tuple ys)
    | none => none)
  | _ + 1, .bool b => some (.bool b)
  | _ + 1, .int k i => some (.int k i)
  | _ + 1, .str s => some (.str s)
  | _ + 1, .nilptr => some .nilptr
  | _ + 1, .nilmap => some .nilmap
  | _ + 1, .nilfunc => some .nilfunc
  | _ + 1, .nilIface => some .nilIface
  | _ + 1, _ => none
def frzL (σ : St) : Nat → List PV → Option (List PV)
  | 0, _ => none
  | _ + 1, [] => some []
  | n + 1, x :: xs => match frzV σ n x with
    | some y => (match frzL σ n xs with
      | some ys => some (y :: ys)
      | none => none)
    | none => none
end

theorem frz_both (σ : St) : ∀ n, (∀ v v', frzV σ n v = some v' → Frz σ 0 v v') ∧ ∀ xs ys, frzL σ n xs = some ys → ys.length = xs.length ∧ ∀ (i : Nat) (x y : PV), xs[i]? = some x → ys[i]? = some y → Frz σ 0 x y := by
  intro n
  induction n with
  | zero => exact ⟨fun v v' h => by simp [frzV] at h, fun xs ys h => by simp [frzL] at h⟩
  | succ n ih =>
    refine ⟨fun v v' h => ?_, fun xs ys h => ?_⟩
    · cases v with
      | sref b g z o l =>
        simp only [frzV] at h
        split at h
        · rename_i g' z' xs hb
          split at h
          · rename_i hh
            simp only [Bool.and_eq_true, decide_eq_true_eq] at hh
            split at h
            · rename_i ys hys
              simp only [Option.some.injEq] at h
              subst h
              obtain ⟨h1, h2⟩ := ih.2 _ _ hys
              refine .sref b g z o l g' z' xs ys hb hh.1 (Nat.zero_le _) (by rw [h1]; simp; omega) hh.2 fun i x y hi hx hy => h2 i x y ?_ hy
              rw [List.getElem?_take, if_pos hi, List.getElem?_drop]
              exact hx
            · cases h
          · cases h
        · cases h
      | list k xs =>
        simp only [frzV] at h
        split at h
        · rename_i ys hys
          simp only [Option.some.injEq] at h
          subst h
          obtain ⟨h1, h2⟩ := ih.2 _ _ hys
          exact .list k xs ys h1 h2
        · cases h
      | agg xs =>
        simp only [frzV] at h
        split at h
        · rename_i ys hys
          simp only [Option.some.injEq] at h
          subst h
          obtain ⟨h1, h2⟩ := ih.2 _ _ hys
          exact .agg xs ys h1 h2
        · cases h
      | tuple xs =>
        simp only [frzV] at h
        split at h
        · rename_i ys hys
          simp only [Option.some.injEq] at h
          subst h
          obtain ⟨h1, h2⟩ := ih.2 _ _ hys
          exact .tuple xs ys h1 h2
        · cases h
      | bool b => simp only [frzV, Option.some.injEq] at h; subst h; exact .base _ (.bool b)
      | int k i => simp only [frzV, Option.some.injEq] at h; subst h; exact .base _ (.int k i)
      | str s => simp only [frzV, Option.some.injEq] at h; subst h; exact .base _ (.str s)
      | nilptr => simp only [frzV, Option.some.injEq] at h; subst h; exact .base _ .nilptr
      | nilmap => simp only [frzV, Option.some.injEq] at h; subst h; exact .base _ .nilmap
      | nilfunc => simp only [frzV, Option.some.injEq] at h; subst h; exact .base _ .nilfunc
      | nilIface => simp only [frzV, Option.some.injEq] at h; subst h; exact .base _ .nilIface
      | _ => simp [frzV] at h
    · cases xs with
      | nil =>
        simp only [frzL, Option.some.injEq] at h
        subst h
        exact ⟨rfl, fun i x y hx => by simp at hx⟩
      | cons x xs =>
        simp only [frzL] at h
        split at h
        · rename_i y hy
          split at h
          · rename_i ys hys
            simp only [Option.some.injEq] at h
            subst h
            obtain ⟨h1, h2⟩ := ih.2 _ _ hys
            refine ⟨by simp [h1], fun i a b ha hb => ?_⟩
            cases i with
            | zero => simp at ha hb; subst ha hb; exact ih.1 _ _ hy
            | succ i => exact h2 i a b (by simpa using ha) (by simpa using hb)
          · cases h
        · cases h

/-- Reckoned answers: n: how deep calls may go, L: how often a loop may turn. -/
def algB (P : Program) (ann : FuncId → Ann) (L : Nat) : Nat → Alg Bool
  | 0 => { fail := false, call := fun _ _ _ _ => false, same := fun _ _ _ => false, all := fun _ _ => false, loop := fun _ _ _ => false, cut := fun _ _ => false, weak := fun _ _ _ _ => false, both := fun _ _ => false }
  | n + 1 => {
      fail := false
      call := fun f args σ R => bodyC (algB P ann L n) P ann f args σ R
      same := fun σ σ' p => beqS σ' σ && p
      all := fun l K => l.all fun r => K r.1 r.2
      loop := fun F x σ => loopB F L x σ
      cut := fun A B => A B
      weak := fun σ₀ v σ' K => match σ₀ with
        | [] => (match frzV σ' 400 v with
          | some v' => K v' []
          | none => K v σ')
        | _ => K v σ'
      both := fun p q => p && q }


mutual
theorem PV.beq_sound : ∀ (x y : PV), PV.beq x y = true → x = y
  | .any, y, h => by cases y <;> simp [PV.beq] at h ⊢
  | .bool a, y, h => by cases y <;> simp [PV.beq] at h ⊢; exact h
  | .int k a, y, h => by cases y <;> simp [PV.beq] at h ⊢; exact h
  | .str a, y, h => by cases y <;> simp [PV.beq] at h ⊢; exact h
  | .nilptr, y, h => by cases y <;> simp [PV.beq] at h ⊢
  | .ptr b g i o, y, h => by cases y <;> simp [PV.beq] at h ⊢; simp [h]
  | .eptr e o, y, h => by
    cases y <;> simp [PV.beq] at h ⊢
    exact ⟨PV.beq_sound _ _ h.1, h.2⟩
  | .list k xs, y, h => by
    cases y <;> simp [PV.beq] at h ⊢
    exact ⟨h.1, PV.beqL_sound _ _ h.2⟩
  | .sref b g s o l, y, h => by cases y <;> simp [PV.beq] at h ⊢; simp [h]
  | .nilmap, y, h => by cases y <;> simp [PV.beq] at h ⊢
  | .mref b, y, h => by cases y <;> simp [PV.beq] at h ⊢; exact h
  | .func f c, y, h => by
    cases y <;> simp [PV.beq] at h ⊢
    exact ⟨h.1, PV.beqL_sound _ _ h.2⟩
  | .nilfunc, y, h => by cases y <;> simp [PV.beq] at h ⊢
  | .iface t v, y, h => by
    cases y <;> simp [PV.beq] at h ⊢
    exact ⟨h.1, PV.beq_sound _ _ h.2⟩
  | .nilIface, y, h => by cases y <;> simp [PV.beq] at h ⊢
  | .agg xs, y, h => by
    cases y <;> simp [PV.beq] at h ⊢
    exact PV.beqL_sound _ _ h
  | .tuple xs, y, h => by
    cases y <;> simp [PV.beq] at h ⊢
    exact PV.beqL_sound _ _ h
theorem PV.beqL_sound : ∀ (xs ys : List PV), PV.beqL xs ys = true → xs = ys
  | [], ys, h => by cases ys <;> simp [PV.beqL] at h ⊢
  | x :: xs, ys, h => by
    cases ys with
    | nil => simp [PV.beqL] at h
    | cons y ys =>
      simp only [PV.beqL, Bool.and_eq_true] at h
      rw [PV.beq_sound _ _ h.1, PV.beqL_sound _ _ h.2]
end

theorem beqE_sound : ∀ (xs ys : List (PV × PV)), beqE xs ys = true → xs = ys
  | [], ys, h => by cases ys <;> simp [beqE] at h ⊢
  | x :: xs, ys, h => by
    cases ys with
    | nil => simp [beqE] at h
    | cons y ys =>
      simp only [beqE, Bool.and_eq_true] at h
      rw [beqE_sound _ _ h.2, Prod.ext (PV.beq_sound _ _ h.1.1) (PV.beq_sound _ _ h.1.2)]

theorem beqB_sound : ∀ (x y : Blk), beqB x y = true → x = y
  | .arr g z xs, y, h => by
    cases y <;> simp [beqB] at h ⊢
    exact ⟨h.1.1, h.1.2, PV.beqL_sound _ _ h.2⟩
  | .map v es, y, h => by
    cases y <;> simp [beqB] at h ⊢
    exact ⟨h.1, beqE_sound _ _ h.2⟩
  | .iter m l r, y, h => by cases y <;> simp [beqB] at h ⊢; exact ⟨h.1.1, h.1.2, h.2⟩
  | .dead, y, h => by cases y <;> simp [beqB] at h ⊢

theorem beqS_sound : ∀ (xs ys : St), beqS xs ys = true → xs = ys
  | [], ys, h => by cases ys <;> simp [beqS] at h ⊢
  | x :: xs, ys, h => by
    cases ys with
    | nil => simp [beqS] at h
    | cons y ys =>
      simp only [beqS, Bool.and_eq_true] at h
      rw [beqB_sound _ _ h.1, beqS_sound _ _ h.2]

/-- What is reckoned holds. -/
theorem algB_rel (P : Program) (ann : FuncId → Ann) (L : Nat) : ∀ n, AlgRel (fun (b : Bool) (p : Prop) => b = true → p) (algB P ann L n) (algP (callW P ann))
  | 0 => {
      fail := fun q h => by cases h
      call := fun _ h => by cases h
      same := fun _ h => by cases h
      loop := fun _ h => by cases h
      all := fun _ h => by cases h
      cut := fun _ _ h => by cases h
      weak := fun _ h => by cases h
      both := fun _ _ h => by cases h }
  | n + 1 => {
      fail := fun q h => by cases h
      call := fun hR h => callW_fold (bodyC_rel (algB_rel P ann L n) hR h)
      same := fun hp h => by
        simp only [algB, Bool.and_eq_true] at h
        exact ⟨beqS_sound _ _ h.1, hp h.2⟩
      loop := by
        intro F F' x σ hF h Φ hΦ
        have key : ∀ (k : Nat) (x : Nat → PV) (σ : St), loopB F k x σ = true → Φ x σ := by
          intro k
          induction k with
          | zero => intro x σ h; cases h
          | succ k ih => intro x σ h; exact hΦ x σ (hF (loopB F k) Φ ih x σ h)
        exact key L x σ h
      all := fun hK h p hp => by
        simp only [algB, List.all_eq_true] at h
        exact hK _ _ (h p hp)
      cut := by
        intro a a' b b' ha hb h
        exact ⟨b', fun _ _ h => h, ha b b' hb h⟩
      weak := by
        intro σ₀ v σ' K K' hK h
        simp only [algB] at h
        split at h
        · split at h
          · rename_i v' hv
            exact ⟨_, [], .clean σ' v' rfl ((frz_both σ' 400).1 _ _ hv), hK _ _ h⟩
          · exact ⟨_, _, .keep, hK _ _ h⟩
        · exact ⟨_, _, .keep, hK _ _ h⟩
      both := fun hp hq h => by
        simp only [algB, Bool.and_eq_true] at h
        exact ⟨hp h.1, hq h.2⟩ }

/-- A reckoned run is a run. -/
theorem callW_of_reckoned {P : Program} {ann : FuncId → Ann} {L n : Nat} {f : FuncId} {args : List PV} {σ : St} {R : Res → St → Bool} {R' : Res → St → Prop} (hR : ∀ x σ, R x σ = true → R' x σ)
    (h : bodyC (algB P ann L n) P ann f args σ R = true) : callW P ann f args σ R' :=
  callW_fold (bodyC_rel (algB_rel P ann L n) hR h)

end Go.Abs
