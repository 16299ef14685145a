/- The operations that touch no memory: what they come to in a world. -/
import Derived.Test.YtiniifbmeobmgaaGreatDoorAbsInv
import Derived.Laws.StructEq
import Derived.Laws.Strings
set_option linter.unusedVariables false
set_option linter.unusedSimpArgs false
namespace Go.Abs

theorem bindO_some {α : Type} {o : Option α} {K : α → Prop} (h : bindO False o K) : ∃ a, o = some a ∧ K a := by
  cases o with
  | none => exact h.elim
  | some a => exact ⟨a, rfl, h⟩

section
variable {P : Program} {G : Gh} (w : World)

theorem RelV.bool_inv {b : Bool} {v : Value} (r : RelV G (.bool b) v) : v = .bool b := by cases r; rfl
theorem RelV.int_inv {k : IntKind} {n : Int} {v : Value} (r : RelV G (.int k n) v) : v = .int k n := by cases r; rfl
theorem RelV.str_inv {l : List UInt8} {v : Value} (r : RelV G (.str l) v) : ∃ s : ByteArray, v = .string s ∧ s.data.toList = l := by cases r with | str s => exact ⟨s, rfl, rfl⟩
theorem RelV.nilIface_inv {v : Value} (r : RelV G .nilIface v) : v = .nilIface := by cases r; rfl

theorem RelV.of_str (s : ByteArray) {l : List UInt8} (h : s.data.toList = l) : RelV G (.str l) (.string s) := by subst h; exact .str s

theorem vArith_sound {op : BinOp} {k : IntKind} {a b : Int} {z : PV} {t : TypeId} (h : vArith op k a b = some z) : ∃ v, (binOp op t (.int k a) (.int k b)).run P w = .ok v w ∧ RelV G z v := by
  have ints : ∀ (n : Int), (binOp op t (.int k a) (.int k b)).run P w = .ok (.int k n) w → z = .int k n → ∃ v, (binOp op t (.int k a) (.int k b)).run P w = .ok v w ∧ RelV G z v := fun n h1 h2 => ⟨_, h1, h2 ▸ .int _ _⟩
  have bools : ∀ (n : Bool), (binOp op t (.int k a) (.int k b)).run P w = .ok (.bool n) w → z = .bool n → ∃ v, (binOp op t (.int k a) (.int k b)).run P w = .ok v w ∧ RelV G z v := fun n h1 h2 => ⟨_, h1, h2 ▸ .bool _⟩
  cases op
  case add => exact ints _ (by simp [binOp, Op.intArith]) (Option.some.inj h).symm
  case sub => exact ints _ (by simp [binOp, Op.intArith]) (Option.some.inj h).symm
  case mul => exact ints _ (by simp [binOp, Op.intArith]) (Option.some.inj h).symm
  case quo =>
    simp only [vArith] at h
    split at h
    · simp at h
    · rename_i hb; exact ints _ (by simp [binOp, Op.intDiv, hb]) (Option.some.inj h).symm
  case rem =>
    simp only [vArith] at h
    split at h
    · simp at h
    · rename_i hb; exact ints _ (by simp [binOp, Op.intDiv, hb]) (Option.some.inj h).symm
  case and => exact ints _ (by rw [binOp_and]; rfl) (Option.some.inj h).symm
  case or => exact ints _ (by rw [binOp_or]; rfl) (Option.some.inj h).symm
  case xor => exact ints _ (by rw [binOp_xor]; rfl) (Option.some.inj h).symm
  case andNot => exact ints _ (by rw [binOp_andNot]; rfl) (Option.some.inj h).symm
  case shl => simp [vArith] at h
  case shr => simp [vArith] at h
  case eql => exact bools _ (by simp [binOp, Op.intCmp]) (Option.some.inj h).symm
  case neq => exact bools _ (by simp [binOp, Op.intCmp]) (Option.some.inj h).symm
  case lss => exact bools _ (by simp [binOp, Op.intCmp]) (Option.some.inj h).symm
  case leq => exact bools _ (by simp [binOp, Op.intCmp]) (Option.some.inj h).symm
  case gtr => exact bools _ (by simp [binOp, Op.intCmp]) (Option.some.inj h).symm
  case geq => exact bools _ (by simp [binOp, Op.intCmp]) (Option.some.inj h).symm

theorem vStrOp_sound {op : BinOp} {s1 s2 : ByteArray} {z : PV} {t : TypeId} (h : vStrOp op s1.data.toList s2.data.toList = some z) : ∃ v, (binOp op t (.string s1) (.string s2)).run P w = .ok v w ∧ RelV G z v := by
  cases op <;> simp only [vStrOp] at h <;> first
    | (simp only [Option.some.injEq] at h; subst h
       exact ⟨_, by simp [binOp, Op.stringOp, ByteArray.toList_eq], .bool _⟩)
    | (split at h
       · rename_i hb
         simp only [Option.some.injEq] at h; subst h
         refine ⟨.string (s1 ++ s2), ?_, .of_str _ ?_⟩
         · have hb' : s1.size + s2.size ≤ 4611686018427387904 := by simpa using hb
           have : ¬ ((s1.size + s2.size : Nat) : Int) > IntKind.i64.max := by
             simp [IntKind.max, IntKind.bits, IntKind.signed]; omega
           simp only [binOp, Op.stringOp, if_neg this, Sem.run_pure]
         · simp [ByteArray.data_append]
       · simp at h)
    | simp at h

theorem eqScalar_eq {t : TypeId} {e : EK1} {d : Nat} {x y : PV} {v u : Value} {b : Bool} (he : eqScalar P t = some e) (rx : RelV G x v) (ry : RelV G y u) (h : vEqS e x y = some b) :
    (Op.equalIn (d + 1) t v u).run P w = .ok b w := by
  unfold eqScalar at he
  unfold vEqS at h
  split at he
  · rename_i hu
    simp only [Option.some.injEq] at he; subst he
    split at h <;> simp_all
    rw [rx.bool_inv, ry.bool_inv]
    rw [run_equalIn_bool' _ _ _ _ _ hu, h]
  · rename_i hu
    simp only [Option.some.injEq] at he; subst he
    split at h <;> simp_all
    obtain ⟨rfl, hb⟩ := h
    rw [rx.int_inv, ry.int_inv, run_equalIn_int _ _ _ _ _ _ _ hu, hb]
  · rename_i hu
    simp only [Option.some.injEq] at he; subst he
    split at h <;> simp_all
    obtain ⟨s1, rfl, rfl⟩ := rx.str_inv
    obtain ⟨s2, rfl, rfl⟩ := ry.str_inv
    rw [run_equalIn_string _ _ _ _ _ hu, ByteArray.toList_eq, ByteArray.toList_eq, h]
  · simp at he

theorem part_scalar {t : TypeId} {e : EK1} {vs : Array Value} {k : Nat} {v : Value} (he : eqScalar P t = some e) (hv : vs[k]? = some v) : (part t vs k).run P w = .ok v w := by
  unfold eqScalar at he
  split at he
  · rename_i hu; simp [part, isAgg, underlying, hu, hv]
  · rename_i hu; simp [part, isAgg, underlying, hu, hv]
  · rename_i hu; simp [part, isAgg, underlying, hu, hv]
  · simp at he

theorem eqFields_eq {d : Nat} {xs ys : List PV} {vs us : Array Value} (hx : ∀ (i : Nat) (x : PV), xs[i]? = some x → ∃ v, vs[i]? = some v ∧ RelV G x v) (hy : ∀ (i : Nat) (x : PV), ys[i]? = some x → ∃ v, us[i]? = some v ∧ RelV G x v) :
    ∀ (fs : List Field) (k : Nat) (ks : List EK1) (b : Bool), Abs.eqFields P fs k = some ks → vEqL ks (xs.drop k) (ys.drop k) = some b → (Op.eqFields (d + 1) vs us fs).run P w = .ok b w
  | [], k, ks, b, hf, h => by
    simp [Abs.eqFields] at hf
    subst hf
    have : b = true := by
      generalize xs.drop k = X at h
      generalize ys.drop k = Y at h
      cases X <;> cases Y <;> simp_all [vEqL]
    subst this
    simp [Op.eqFields]
  | f :: fs, k, ks, b, hf, h => by
    simp only [Abs.eqFields] at hf
    split at hf
    · rename_i hn
      cases he : eqScalar P f.type with
      | none => simp [he] at hf
      | some e =>
        simp only [he] at hf
        cases hl : Abs.eqFields P fs (k + 1) with
        | none => simp [hl] at hf
        | some l =>
          simp only [hl, Option.some.injEq] at hf
          subst hf
          cases hX : xs.drop k with
          | nil => simp [hX, vEqL] at h
          | cons x X =>
            cases hY : ys.drop k with
            | nil => simp [hX, hY, vEqL] at h
            | cons y Y =>
              have hxk : xs[k]? = some x := by
                have := congrArg List.head? hX
                simpa [List.head?_drop] using this
              have hyk : ys[k]? = some y := by
                have := congrArg List.head? hY
                simpa [List.head?_drop] using this
              have hX' : xs.drop (k + 1) = X := by
                have := congrArg List.tail hX
                simpa using this
              have hY' : ys.drop (k + 1) = Y := by
                have := congrArg List.tail hY
                simpa using this
              obtain ⟨v, hv, rv⟩ := hx k x hxk
              obtain ⟨u, hu, ru⟩ := hy k y hyk
              simp only [hX, hY, vEqL] at h
              cases hs : vEqS e x y with
              | none => simp [hs] at h
              | some c =>
                have h1 := eqScalar_eq (d := d) w he rv ru hs
                have hp1 := part_scalar (vs := vs) (k := k) w he hv
                have hp2 := part_scalar (vs := us) (k := k) w he hu
                cases c with
                | true =>
                  simp only [hs] at h
                  have ih := eqFields_eq (d := d) hx hy fs (k + 1) l b hl (by rw [hX', hY']; exact h)
                  simp [Op.eqFields, hn.1, hn.2, hp1, hp2, h1, ih]
                | false =>
                  simp only [hs, Option.some.injEq] at h
                  subst h
                  simp [Op.eqFields, hn.1, hn.2, hp1, hp2, h1]
    · simp at hf

theorem agg_get {cs : List PV} {vs : Array Value} (hl : cs.length = vs.size) (hr : ∀ (i : Nat) (x : PV) (v : Value), cs[i]? = some x → vs[i]? = some v → RelV G x v) (i : Nat) (x : PV) (hi : cs[i]? = some x) : ∃ v, vs[i]? = some v ∧ RelV G x v := by
  have hlt : i < vs.size := by rw [← hl]; exact (List.getElem?_eq_some_iff.1 hi).1
  exact ⟨vs[i], by simp [hlt], hr i x _ hi (by simp [hlt])⟩

set_option maxHeartbeats 1000000 in
theorem vEq_sound {t : TypeId} {c : Bool} {k : EK} {x y : PV} {v u : Value} {b : Bool} {xo yo : Operand} (hk : eqTy P t c = some k) (hc : c = true → (Operand.isConst xo || Operand.isConst yo) = true)
    (rx : RelV G x v) (ry : RelV G y u) (h : vEq k x y = some b) :
    (Op.equal t v u).run P w = .ok b w ∧ (∀ op, (eqGuard op t xo yo v u).run P w = .ok () w) ∧
      (binOp .eql t v u).run P w = .ok (.bool b) w ∧ (binOp .neq t v u).run P w = .ok (.bool !b) w := by
  have done : ∀ {b : Bool} {v u : Value}, (Op.equal t v u).run P w = .ok b w → (∀ op, (eqGuard op t xo yo v u).run P w = .ok () w) → binOp .eql t v u = (do pure (.bool (← Op.equal t v u))) → binOp .neq t v u = (do pure (.bool (!(← Op.equal t v u)))) →
      (Op.equal t v u).run P w = .ok b w ∧ (∀ op, (eqGuard op t xo yo v u).run P w = .ok () w) ∧
      (binOp .eql t v u).run P w = .ok (.bool b) w ∧ (binOp .neq t v u).run P w = .ok (.bool !b) w := by
    intro b v u h1 h2 h3 h4
    exact ⟨h1, h2, by rw [h3]; simp [h1], by rw [h4]; simp [h1]⟩
  unfold eqTy at hk
  split at hk
  · rename_i fs hu
    split at hk
    · rename_i hst
      cases hf : Abs.eqFields P fs.toList 0 with
      | none => simp [hf] at hk
      | some ks =>
        simp only [hf, Option.some.injEq] at hk
        subst hk
        cases rx <;> cases ry <;> simp only [vEq] at h <;> try (simp at h)
        rename_i xs vs hl hr h1 ys us hl' hr' h1'
        have hF : P.fieldsOf t = fs := by simp [Program.fieldsOf, hu]
        refine done ?_ (fun op => run_eqGuard_agg w op t xo yo _ _ hst.2) (by simp [binOp]) (by simp [binOp])
        have := eqFields_eq (G := G) (d := 9998) w (agg_get hl hr) (agg_get hl' hr') fs.toList 0 ks b hf (by simpa using h)
        rw [Op.equal, Op.maxDepth, run_equalIn_struct w 9999 t _ _ (by rw [hF]; exact hu) hst.1, hF, this]
    · simp at hk
  · rename_i ms hu
    split at hk
    · rename_i hcc
      simp only [Option.some.injEq] at hk
      subst hk
      have hconst := hc hcc
      cases rx <;> cases ry <;> simp only [vEq] at h <;> (try (simp at h)) <;> (try subst h) <;>
        refine done (by show (Op.equalIn (9999 + 1) t _ _).run P w = _; rw [Op.equalIn, Sem.run_bind, run_underlying hu]; rfl) (fun op => ?_) (by simp [binOp]) (by simp [binOp])
      all_goals (cases op <;> first | (simp [eqGuard]; done) | skip)
      all_goals (cases xo <;> cases yo <;> simp_all [eqGuard, Operand.isConst])
    · simp at hk
  · rename_i hu
    simp only [Option.some.injEq] at hk
    subst hk
    cases rx <;> cases ry <;> simp only [vEq] at h <;> (try (simp at h)) <;> (try subst h) <;>
      exact done (by show (Op.equalIn (9999 + 1) t _ _).run P w = _; rw [Op.equalIn, Sem.run_bind, run_underlying hu]; rfl) (fun op => by cases op <;> rfl) (by simp [binOp]) (by simp [binOp])
  · rename_i e hu
    simp only [Option.some.injEq] at hk
    subst hk
    cases rx <;> cases ry <;> simp only [vEq] at h <;> (try (simp at h)) <;> (try subst h) <;>
      exact done (by show (Op.equalIn (9999 + 1) t _ _).run P w = _; rw [Op.equalIn, Sem.run_bind, run_underlying hu]; rfl) (fun op => by cases op <;> rfl) (by simp [binOp]) (by simp [binOp])
  · rename_i e hu
    simp only [Option.some.injEq] at hk
    subst hk
    have nilr : ∀ (a : Option Addr) (l c : Nat) (b : Bool), a.isNone = b → (Op.equal t (.slice a l c) (.slice none 0 0)).run P w = .ok b w ∧ (∀ op, (eqGuard op t xo yo (.slice a l c) (.slice none 0 0)).run P w = .ok () w) ∧
        (binOp .eql t (.slice a l c) (.slice none 0 0)).run P w = .ok (.bool b) w ∧ (binOp .neq t (.slice a l c) (.slice none 0 0)).run P w = .ok (.bool !b) w := by
      intro a l c b hb
      refine done (v := .slice a l c) (u := .slice none 0 0) ?_ (fun op => by cases op <;> rfl) (by simp [binOp]) (by simp [binOp])
      cases a <;> simp at hb <;> subst hb <;> (show (Op.equalIn (9999 + 1) t _ _).run P w = _; rw [Op.equalIn, Sem.run_bind, run_underlying hu]; rfl)
    cases ry with
    | nillist =>
      cases rx with
      | nillist => exact nilr _ _ _ _ (by simpa [vEq] using h)
      | emptyl a c => exact nilr _ _ _ _ (by simp only [vEq, Option.some.injEq] at h; rw [← h]; rfl)
      | list k xs B O z cap vs h1 => exact nilr _ _ _ _ (by simp only [vEq, Option.some.injEq] at h; rw [← h]; simp [h1])
      | sref => exact nilr _ _ _ _ (by simpa [vEq] using h)
      | _ => simp [vEq] at h
    | list k xs B O z cap vs h1 =>
      exfalso
      cases k with
      | nil => exact h1 rfl
      | _ => cases rx <;> simp [vEq] at h
    | _ => cases rx <;> simp [vEq] at h
  · rename_i e hu
    simp only [Option.some.injEq] at hk
    subst hk
    cases rx <;> cases ry <;> simp only [vEq] at h <;> (try (simp at h)) <;> (try subst h) <;>
      exact done (by show (Op.equalIn (9999 + 1) t _ _).run P w = _; rw [Op.equalIn, Sem.run_bind, run_underlying hu]; rfl) (fun op => by cases op <;> rfl) (by simp [binOp]) (by simp [binOp])
  · rename_i e hu
    simp only [Option.some.injEq] at hk
    subst hk
    cases rx <;> cases ry <;> simp only [vEq] at h <;> (try (simp at h)) <;> (try subst h) <;>
      exact done (by show (Op.equalIn (9999 + 1) t _ _).run P w = _; rw [Op.equalIn, Sem.run_bind, run_underlying hu]; rfl) (fun op => by cases op <;> rfl) (by simp [binOp]) (by simp [binOp])
  · simp at hk

theorem vShift_sound {op : BinOp} {k yk : IntKind} {a b : Int} {z : PV} (h : vShift op k a b = some z) : ∃ v, (Op.shift op k a yk b).run P w = .ok v w ∧ RelV G z v := by
  unfold vShift at h
  split at h
  · simp at h
  · rename_i hb
    cases op <;> simp only [reduceCtorEq, Option.some.injEq] at h
    · subst h; exact ⟨_, by simp only [Op.shift, if_neg hb]; rfl, .int _ _⟩
    · subst h; exact ⟨_, by simp only [Op.shift, if_neg hb]; rfl, .int _ _⟩

theorem eqGuard_int (op : BinOp) (t : TypeId) (xo yo : Operand) (k : IntKind) (n : Int) (u : Value) : (eqGuard op t xo yo (.int k n) u).run P w = .ok () w := by cases op <;> rfl
theorem eqGuard_str (op : BinOp) (t : TypeId) (xo yo : Operand) (s : ByteArray) (u : Value) : (eqGuard op t xo yo (.string s) u).run P w = .ok () w := by cases op <;> rfl

theorem vBin_sound {t : TypeId} {op : BinOp} {x y z : PV} {v u : Value} {xo yo : Operand}
    (rx : RelV G x v) (ry : RelV G y u) (h : vBin (eqTy P t (Operand.isConst xo || Operand.isConst yo)) op x y = some z) :
    ∃ r, ((do eqGuard op t xo yo v u; binOp op t v u) : Sem Value).run P w = .ok r w ∧ RelV G z r := by
  unfold vBin at h
  split at h
  · obtain rfl := rx.int_inv
    obtain rfl := ry.int_inv
    obtain ⟨r, h1, h2⟩ := vShift_sound (P := P) (G := G) w (yk := _) h
    exact ⟨r, by simp only [Sem.run_bind, eqGuard_int, Result.andThen_ok, binOp_shl]; exact h1, h2⟩
  · obtain rfl := rx.int_inv
    obtain rfl := ry.int_inv
    obtain ⟨r, h1, h2⟩ := vShift_sound (P := P) (G := G) w (yk := _) h
    exact ⟨r, by simp only [Sem.run_bind, eqGuard_int, Result.andThen_ok, binOp_shr]; exact h1, h2⟩
  · split at h
    · rename_i hk
      subst hk
      obtain rfl := rx.int_inv
      obtain rfl := ry.int_inv
      obtain ⟨r, h1, h2⟩ := vArith_sound (P := P) (G := G) w (t := t) h
      exact ⟨r, by simp only [Sem.run_bind, eqGuard_int, Result.andThen_ok]; exact h1, h2⟩
    · simp at h
  · obtain ⟨s1, rfl, rfl⟩ := rx.str_inv
    obtain ⟨s2, rfl, rfl⟩ := ry.str_inv
    obtain ⟨r, h1, h2⟩ := vStrOp_sound (P := P) (G := G) w (t := t) h
    exact ⟨r, by simp only [Sem.run_bind, eqGuard_str, Result.andThen_ok]; exact h1, h2⟩
  · cases hk : eqTy P t (Operand.isConst xo || Operand.isConst yo) with
    | none => simp [hk] at h
    | some k =>
      simp only [hk] at h
      cases he : vEq k x y with
      | none => simp [he] at h
      | some b =>
        simp only [he, Option.some.injEq] at h
        subst h
        obtain ⟨h1, h2, h3, h4⟩ := vEq_sound (xo := xo) (yo := yo) w hk (fun h => h) rx ry he
        exact ⟨.bool b, by simp only [Sem.run_bind, h2, Result.andThen_ok, h3], .bool _⟩
  · cases hk : eqTy P t (Operand.isConst xo || Operand.isConst yo) with
    | none => simp [hk] at h
    | some k =>
      simp only [hk] at h
      cases he : vEq k x y with
      | none => simp [he] at h
      | some b =>
        simp only [he, Option.some.injEq] at h
        subst h
        obtain ⟨h1, h2, h3, h4⟩ := vEq_sound (xo := xo) (yo := yo) w hk (fun h => h) rx ry he
        exact ⟨.bool !b, by simp only [Sem.run_bind, h2, Result.andThen_ok, h4], .bool _⟩
  · simp at h

theorem vUn_sound {op : UnOp} {x z : PV} {v : Value} (rx : RelV G x v) (h : vUn op x = some z) : ∃ r, (Op.unary op v).run P w = .ok r w ∧ RelV G z r := by
  unfold vUn at h
  split at h
  · obtain rfl := rx.bool_inv
    simp only [Option.some.injEq] at h; subst h
    exact ⟨_, rfl, .bool _⟩
  · obtain rfl := rx.int_inv
    simp only [Option.some.injEq] at h; subst h
    exact ⟨_, by simp [Op.unary, Op.intArith], .int _ _⟩
  · simp at h

end
end Go.Abs
