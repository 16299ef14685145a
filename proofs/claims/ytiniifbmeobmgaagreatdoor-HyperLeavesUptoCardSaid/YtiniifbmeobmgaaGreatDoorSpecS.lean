/- Sorting binds by names; a further bind. -/
import Derived.Test.YtiniifbmeobmgaaGreatDoorMatA
import Derived.Test.YtiniifbmeobmgaaGreatDoorFnD
set_option linter.unusedVariables false
set_option linter.unusedSimpArgs false
namespace Go.Proofs.YtiniifbmeobmgaaGreatDoor
open Go Go.Abs

theorem hb145 : hasBody 145 = true := by kernel_rfl

theorem c146 (s t : Str) (σ : St) : Ret W 146 [.str s, .str t] σ (.int .i64 (cmpB s t)) := by
  refine ret_of fun R hR => ?_
  have : bodyC (algP W) Tryz.prog annF 146 [.str s, .str t] σ R = bindO False (extCompare [.str s, .str t] σ) (fun r => R (.ret r.1) r.2) := by kernel_rfl
  rw [this]
  simp only [extCompare, zz, Nat.reduceEqDiff]
  exact hR

theorem c145 (x y : Bind) (σ : St) : Ret W 145 [pvBind x, pvBind y] σ (.int .i64 (cmpB x.1 y.1)) := by
  refine ret_of fun R hR => ?_
  rw [fn145_eq]
  unfold fn145
  have hb : ∀ z : Bind, opC.vBoxAny (pvBind z) = some (2, pvBind z) := fun _ => rfl
  have h0 : ∀ z : Bind, vPart false 1 (pvBind z) 0 = some (.str z.1) := fun _ => rfl
  simp only [hb, h0, zz, Nat.reduceEqDiff]
  refine (c146 _ _ σ).callB ?_
  exact weakW_keep hR

/-! ### Blocks of binds -/

def gb (n : Nat) (f : Nat → Bind) : List PV := (List.range n).map fun k => pvBind (f k)
theorem gb_get {n k : Nat} {f : Nat → Bind} (h : k < n) : (gb n f)[k]? = some (pvBind (f k)) := by simp [gb, h]
theorem gb_set {n t : Nat} {f : Nat → Bind} {y : Bind} : (gb n f).set t (pvBind y) = gb n fun k => if k = t then y else f k := by
  unfold gb
  rw [rng_set]
  refine rng_congr fun k _ => ?_
  show _ = pvBind (if k = t then y else f k)
  split <;> rfl
theorem ix_gb {b g n k : Nat} {q : IntKind} (h : k < n) : vIndex 2 (.sref b g 2 0 n) (.int q (k : Nat)) = some (.ptr b g k 0) := by
  simp [vIndex, h]
theorem ld_gb {σ : St} {b g n k : Nat} {f : Nat → Bind} (hb : σ[b]? = some (.arr g 2 (gb n f))) (h : k < n) : vLoad true 2 (.ptr b g k 0) σ = some (pvBind (f k)) := by
  simp only [vLoad, hb, gb_get h, if_true]
  rfl
theorem st_gb {σ : St} {b g n k : Nat} {f : Nat → Bind} {y : Bind} (hb : σ[b]? = some (.arr g 2 (gb n f))) (h : k < n) : vStore 2 (.ptr b g k 0) (pvBind y) σ = some (σ.set b (.arr g 2 (gb n fun j => if j = k then y else f j))) := by
  have hp : vPut 2 (pvBind (f k)) 0 (pvBind y) = some (pvBind y) := rfl
  simp only [vStore, hb, gb_get h, hp, gb_set, if_true]

/-- A block of binds that is ordered by its names. -/
structure Sorted (n : Nat) (f f' : Nat → Bind) : Prop where
  ord : ∀ p q, p < q → q < n → ltB (f' p).1 (f' q).1 = true
  mem : ∀ k < n, ∃ k' < n, f' k = f k'
  mem' : ∀ k < n, ∃ k' < n, f k = f' k'

/-- Names that differ. -/
def Diff (n : Nat) (f : Nat → Bind) : Prop := ∀ p q, p < n → q < n → p ≠ q → (f p).1 ≠ (f q).1

theorem c191 {σ : St} {b g n : Nat} {f : Nat → Bind} (hb : σ[b]? = some (.arr g 2 (gb n f))) (hn : n ≤ 12) (hd : Diff n f) {R : Res → St → Prop}
    (hR : ∀ σ' f', σ'[b]? = some (.arr g 2 (gb n f')) → (∀ c, c ≠ b → σ'[c]? = σ[c]?) → σ'.length = σ.length → Sorted n f f' → R (.ret (.tuple [])) σ') :
    W 191 [.sref b g 2 0 n, .int .i64 0, .int .i64 (n : Nat), .func 145 []] σ R := by
  refine callW_fold ?_
  rw [fn191_eq]
  unfold fn191
  have one : vBin none .add (.int .i64 0) (.int .i64 1) = some (.int .i64 ((0 + 1 : Nat) : Int)) := rfl
  simp only [one, zA]
  refine Lfp_up n (fun u x σ' => ∃ f', x = lookP [(0, .sref b g 2 0 n), (1, .int .i64 0), (2, .int .i64 (n : Nat)), (3, .func 145 []), (8, .int .i64 ((u + 1 : Nat) : Int))] ∧ σ'[b]? = some (.arr g 2 (gb n f')) ∧ (∀ c, c ≠ b → σ'[c]? = σ[c]?) ∧ σ'.length = σ.length ∧ Diff n f' ∧
      (∀ p q, p < q → q < u + 1 → q < n → ltB (f' p).1 (f' q).1 = true) ∧ (∀ k < n, ∃ k' < n, f' k = f k') ∧ (∀ k < n, ∃ k' < n, f k = f' k')) ?_
    ⟨f, rfl, hb, fun _ _ => rfl, rfl, hd, fun p q h1 h2 _ => by omega, fun k hk => ⟨k, hk, rfl⟩, fun k hk => ⟨k, hk, rfl⟩⟩
  rintro Φ u x σ' hu ⟨f1, rfl, hb1, ha1, hl1, hd1, ho1, hm1, hm1'⟩ next
  simp only [Int.ofNat_lt, zz, Nat.reduceEqDiff]
  by_cases hlt : u + 1 < n
  · simp only [hlt, zz, Nat.reduceEqDiff]
    refine Lfp_up (u + 1) (fun w x σ2 => ∃ f', x = lookP [(0, .sref b g 2 0 n), (1, .int .i64 0), (2, .int .i64 (n : Nat)), (3, .func 145 []), (8, .int .i64 ((u + 1 : Nat) : Int)), (9, .int .i64 ((u + 1 - w : Nat) : Int))] ∧ σ2[b]? = some (.arr g 2 (gb n f')) ∧ (∀ c, c ≠ b → σ2[c]? = σ[c]?) ∧ σ2.length = σ.length ∧ Diff n f' ∧
        (∀ p q, p < q → q ≤ u + 1 → q ≠ u + 1 - w → ltB (f' p).1 (f' q).1 = true) ∧ (∀ k < n, ∃ k' < n, f' k = f k') ∧ (∀ k < n, ∃ k' < n, f k = f' k')) ?_
      ⟨f1, rfl, hb1, ha1, hl1, hd1, fun p q h1 h2 h3 => ho1 p q h1 (by omega) (by omega), hm1, hm1'⟩
    rintro Φ2 w x σ2 hw ⟨f2, rfl, hb2, ha2, hl2, hd2, ho2, hm2, hm2'⟩ next2
    -- the turn's end
    have stop : (u + 1 - w = 0 ∨ ltB (f2 (u + 1 - w)).1 (f2 (u + 1 - w - 1)).1 = false) → Φ (lookP [(0, .sref b g 2 0 n), (1, .int .i64 0), (2, .int .i64 (n : Nat)), (3, .func 145 []), (8, .int .i64 ((u + 1 + 1 : Nat) : Int))]) σ2 := by
      intro hstop
      refine next _ _ (by omega) ⟨f2, rfl, hb2, ha2, hl2, hd2, fun p q h1 h2 h3 => ?_, hm2, hm2'⟩
      by_cases hq : q = u + 1 - w
      · subst hq
        rcases hstop with h | h
        · omega
        · have hlast : ltB (f2 (u + 1 - w - 1)).1 (f2 (u + 1 - w)).1 = true := by
            cases hh : ltB (f2 (u + 1 - w - 1)).1 (f2 (u + 1 - w)).1 with
            | true => rfl
            | false => exact absurd (ltB_tri hh h) (hd2 _ _ (by omega) (by omega) (by omega))
          by_cases hp : p = u + 1 - w - 1
          · subst hp; exact hlast
          · exact ltB_trans (ho2 p (u + 1 - w - 1) (by omega) (by omega) (by omega)) hlast
      · exact ho2 p q h1 (by omega) hq
    by_cases hj : u + 1 - w = 0
    · have hg : decide (((u + 1 - w : Nat) : Int) > 0) = false := by rw [decide_eq_false_iff_not]; omega
      simp only [hg, add_one (a := u + 1) (by omega), zz, Nat.reduceEqDiff]
      exact stop (.inl hj)
    · have hg : decide (((u + 1 - w : Nat) : Int) > 0) = true := by rw [decide_eq_true_eq]; omega
      have hjn : u + 1 - w < n := by omega
      have hjn1 : u + 1 - w - 1 < n := by omega
      have sub1 : vBin none .sub (.int .i64 ((u + 1 - w : Nat) : Int)) (.int .i64 1) = some (.int .i64 ((u + 1 - w - 1 : Nat) : Int)) := sub_nat (b := 1) (by omega) (by omega)
      have hnn : n ≤ 12 := hn
      simp only [hg, sub1, ix_gb (b := b) (g := g) (q := .i64) hjn, ix_gb (b := b) (g := g) (q := .i64) hjn1, ld_gb hb2 hjn, ld_gb hb2 hjn1, callG_func hb145, List.cons_append, List.nil_append, zz, Nat.reduceEqDiff]
      refine (c145 _ _ σ2).callB ?_
      have hc := ltB_cmp (f2 (u + 1 - w)).1 (f2 (u + 1 - w - 1)).1
      simp only [zz, Nat.reduceEqDiff]
      rw [hc]
      cases hlt2 : ltB (f2 (u + 1 - w)).1 (f2 (u + 1 - w - 1)).1 with
      | false =>
        simp only [add_one (a := u + 1) (by omega), zz, Nat.reduceEqDiff]
        exact stop (.inr hlt2)
      | true =>
        have hb3 : (σ2.set b (.arr g 2 (gb n fun j => if j = u + 1 - w then f2 (u + 1 - w - 1) else f2 j)))[b]? = some (.arr g 2 (gb n fun j => if j = u + 1 - w then f2 (u + 1 - w - 1) else f2 j)) := List.getElem?_set_self (List.getElem?_eq_some_iff.1 hb2).1
        simp only [sub1, ix_gb (b := b) (g := g) (q := .i64) hjn, ix_gb (b := b) (g := g) (q := .i64) hjn1, ld_gb hb2 hjn, ld_gb hb2 hjn1, st_gb hb2 hjn, st_gb hb3 hjn1, List.set_set, zz, Nat.reduceEqDiff]
        have hsw : ∀ k, (if k = u + 1 - w - 1 then f2 (u + 1 - w) else if k = u + 1 - w then f2 (u + 1 - w - 1) else f2 k) = f2 (if k = u + 1 - w - 1 then u + 1 - w else if k = u + 1 - w then u + 1 - w - 1 else k) := fun k => by
          split
          · rfl
          · split <;> rfl
        refine next2 _ _ (by omega) ⟨fun k => if k = u + 1 - w - 1 then f2 (u + 1 - w) else if k = u + 1 - w then f2 (u + 1 - w - 1) else f2 k, by rw [show u + 1 - (w + 1) = u + 1 - w - 1 by omega], ?_, fun c hc => ?_, by simpa using hl2, fun p q h1 h2 h3 => ?_, fun p q h1 h2 h3 => ?_, fun k hk => ?_, fun k hk => ?_⟩
        · exact List.getElem?_set_self (List.getElem?_eq_some_iff.1 hb2).1
        · rw [List.getElem?_set_ne (Ne.symm hc)]; exact ha2 c hc
        · simp only [hsw]
          refine hd2 _ _ ?_ ?_ ?_
          · split
            · omega
            · split <;> omega
          · split
            · omega
            · split <;> omega
          · split <;> split <;> (try split) <;> (try split) <;> omega
        · rw [show u + 1 - (w + 1) = u + 1 - w - 1 by omega] at h3
          show ltB (if p = u + 1 - w - 1 then f2 (u + 1 - w) else if p = u + 1 - w then f2 (u + 1 - w - 1) else f2 p).1 (if q = u + 1 - w - 1 then f2 (u + 1 - w) else if q = u + 1 - w then f2 (u + 1 - w - 1) else f2 q).1 = true
          rw [if_neg h3]
          by_cases q1 : q = u + 1 - w
          · subst q1
            rw [if_pos rfl]
            by_cases p1 : p = u + 1 - w - 1
            · subst p1
              rw [if_pos rfl]
              exact hlt2
            · rw [if_neg p1, if_neg (by omega)]
              exact ho2 p (u + 1 - w - 1) (by omega) (by omega) (by omega)
          · rw [if_neg q1]
            by_cases p1 : p = u + 1 - w - 1
            · subst p1
              rw [if_pos rfl]
              exact ho2 (u + 1 - w) q (by omega) h2 q1
            · rw [if_neg p1]
              by_cases p2 : p = u + 1 - w
              · subst p2
                rw [if_pos rfl]
                exact ho2 (u + 1 - w - 1) q (by omega) h2 q1
              · rw [if_neg p2]
                exact ho2 p q h1 h2 q1
        · simp only [hsw]
          refine hm2 _ ?_
          split
          · omega
          · split <;> omega
        · obtain ⟨k', hk', he⟩ := hm2' k hk
          refine ⟨if k' = u + 1 - w - 1 then u + 1 - w else if k' = u + 1 - w then u + 1 - w - 1 else k', ?_, ?_⟩
          · split
            · omega
            · split <;> omega
          · show f k = (if (if k' = u + 1 - w - 1 then u + 1 - w else if k' = u + 1 - w then u + 1 - w - 1 else k') = u + 1 - w - 1 then f2 (u + 1 - w) else if (if k' = u + 1 - w - 1 then u + 1 - w else if k' = u + 1 - w then u + 1 - w - 1 else k') = u + 1 - w then f2 (u + 1 - w - 1) else f2 (if k' = u + 1 - w - 1 then u + 1 - w else if k' = u + 1 - w then u + 1 - w - 1 else k'))
            rw [hsw, he]
            congr 1
            by_cases k1 : k' = u + 1 - w - 1
            · subst k1
              simp
              omega
            · by_cases k2 : k' = u + 1 - w
              · subst k2
                simp
              · simp [k1, k2]
  · simp only [hlt, zz, Nat.reduceEqDiff]
    exact weakW_keep (hR σ' f1 hb1 ha1 hl1 ⟨fun p q h1 h2 => ho1 p q h1 (by omega) h2, hm1, hm1'⟩)

theorem c200_0 (σ : St) (R : Res → St → Prop) : bodyC (algP W) Tryz.prog annF 200 [.int .u64 0] σ R = weakW σ (.int .i64 0) σ fun v σ => R (.ret v) σ := by kernel_rfl
theorem c200_1 (σ : St) (R : Res → St → Prop) : bodyC (algP W) Tryz.prog annF 200 [.int .u64 1] σ R = weakW σ (.int .i64 1) σ fun v σ => R (.ret v) σ := by kernel_rfl
theorem c200_2 (σ : St) (R : Res → St → Prop) : bodyC (algP W) Tryz.prog annF 200 [.int .u64 2] σ R = weakW σ (.int .i64 2) σ fun v σ => R (.ret v) σ := by kernel_rfl
theorem c200_3 (σ : St) (R : Res → St → Prop) : bodyC (algP W) Tryz.prog annF 200 [.int .u64 3] σ R = weakW σ (.int .i64 2) σ fun v σ => R (.ret v) σ := by kernel_rfl
theorem c200_4 (σ : St) (R : Res → St → Prop) : bodyC (algP W) Tryz.prog annF 200 [.int .u64 4] σ R = weakW σ (.int .i64 3) σ fun v σ => R (.ret v) σ := by kernel_rfl
theorem c200_5 (σ : St) (R : Res → St → Prop) : bodyC (algP W) Tryz.prog annF 200 [.int .u64 5] σ R = weakW σ (.int .i64 3) σ fun v σ => R (.ret v) σ := by kernel_rfl
theorem c200_6 (σ : St) (R : Res → St → Prop) : bodyC (algP W) Tryz.prog annF 200 [.int .u64 6] σ R = weakW σ (.int .i64 3) σ fun v σ => R (.ret v) σ := by kernel_rfl
theorem c200_7 (σ : St) (R : Res → St → Prop) : bodyC (algP W) Tryz.prog annF 200 [.int .u64 7] σ R = weakW σ (.int .i64 3) σ fun v σ => R (.ret v) σ := by kernel_rfl
theorem c200_8 (σ : St) (R : Res → St → Prop) : bodyC (algP W) Tryz.prog annF 200 [.int .u64 8] σ R = weakW σ (.int .i64 4) σ fun v σ => R (.ret v) σ := by kernel_rfl

theorem c200 : ∀ (k : Nat), k < 9 → ∀ σ : St, ∃ v, Ret W 200 [.int .u64 (k : Nat)] σ (.int .i64 v)
  | 0, _, σ => ⟨0, ret_of fun R hR => by rw [show ((0 : Nat) : Int) = 0 from rfl, c200_0]; exact weakW_keep hR⟩
  | 1, _, σ => ⟨1, ret_of fun R hR => by rw [show ((1 : Nat) : Int) = 1 from rfl, c200_1]; exact weakW_keep hR⟩
  | 2, _, σ => ⟨2, ret_of fun R hR => by rw [show ((2 : Nat) : Int) = 2 from rfl, c200_2]; exact weakW_keep hR⟩
  | 3, _, σ => ⟨2, ret_of fun R hR => by rw [show ((3 : Nat) : Int) = 3 from rfl, c200_3]; exact weakW_keep hR⟩
  | 4, _, σ => ⟨3, ret_of fun R hR => by rw [show ((4 : Nat) : Int) = 4 from rfl, c200_4]; exact weakW_keep hR⟩
  | 5, _, σ => ⟨3, ret_of fun R hR => by rw [show ((5 : Nat) : Int) = 5 from rfl, c200_5]; exact weakW_keep hR⟩
  | 6, _, σ => ⟨3, ret_of fun R hR => by rw [show ((6 : Nat) : Int) = 6 from rfl, c200_6]; exact weakW_keep hR⟩
  | 7, _, σ => ⟨3, ret_of fun R hR => by rw [show ((7 : Nat) : Int) = 7 from rfl, c200_7]; exact weakW_keep hR⟩
  | 8, _, σ => ⟨4, ret_of fun R hR => by rw [show ((8 : Nat) : Int) = 8 from rfl, c200_8]; exact weakW_keep hR⟩
  | k + 9, h, _ => absurd h (by omega)

theorem c175 (k : Nat) (hk : k < 9) (σ : St) : ∃ v, Ret W 175 [.int .u64 (k : Nat)] σ (.int .i64 v) := by
  obtain ⟨v, hv⟩ := c200 k hk σ
  refine ⟨v, ret_of fun R hR => ?_⟩
  rw [fn175_eq]
  unfold fn175
  simp only [zz, Nat.reduceEqDiff]
  refine hv.callB ?_
  exact weakW_keep hR

/-- Sorting at most 8 binds. -/
theorem c144 {σ : St} {b g n : Nat} {f : Nat → Bind} (hb : σ[b]? = some (.arr g 2 (gb n f))) (hn : n < 9) (hd : Diff n f) {R : Res → St → Prop}
    (hR : ∀ σ' f', σ'[b]? = some (.arr g 2 (gb n f')) → (∀ c, c ≠ b → σ'[c]? = σ[c]?) → σ'.length = σ.length → Sorted n f f' → R (.ret (.tuple [])) σ') :
    W 144 [.sref b g 2 0 n, .func 145 []] σ R := by
  refine callW_fold ?_
  rw [fn144_eq]
  unfold fn144
  have hconv : vConv .u64 (.int .i64 (n : Nat)) = some (.int .u64 (n : Nat)) := by
    simp only [vConv]
    congr 2
    simp only [IntKind.wrap, IntKind.bits, IntKind.signed]
    simp
    omega
  simp only [hconv, zz, Nat.reduceEqDiff]
  obtain ⟨v, hv⟩ := c175 n hn σ
  refine hv.callB ?_
  refine (?_ : W 174 _ _ _)
  refine callW_fold ?_
  rw [fn174_eq]
  unfold fn174
  have hsub : vBin none .sub (.int .i64 (n : Nat)) (.int .i64 0) = some (.int .i64 (n : Nat)) := by
    have := sub_nat (a := n) (b := 0) (by omega) (by omega)
    simpa using this
  refine fun Φ hΦ _ => hΦ _ _ ?_
  have hle : decide ((n : Int) ≤ 12) = true := by rw [decide_eq_true_eq]; omega
  simp only [hsub, hle, zz, Nat.reduceEqDiff]
  refine c191 hb (by omega) hd fun σ' f' h1 h2 h3 h4 => ?_
  exact weakW_keep (weakW_keep (hR σ' f' h1 h2 h3 h4))

/-- Nothing to sort. -/
theorem c144_nil {σ : St} : Ret W 144 [.list .nil [], .func 145 []] σ (.tuple []) := by
  refine ret_of fun R hR => ?_
  rw [fn144_eq]
  unfold fn144
  have hconv : vConv .u64 (.int .i64 (0 : Nat)) = some (.int .u64 (0 : Nat)) := rfl
  simp only [List.length_nil, hconv, zz, Nat.reduceEqDiff]
  obtain ⟨v, hv⟩ := c175 0 (by omega) σ
  refine hv.callB ?_
  refine (?_ : W 174 _ _ _)
  refine callW_fold ?_
  rw [fn174_eq]
  unfold fn174
  have hsub : vBin none .sub (.int .i64 (0 : Nat)) (.int .i64 0) = some (.int .i64 (0 : Nat)) := rfl
  refine fun Φ hΦ _ => hΦ _ _ ?_
  have hle : decide (((0 : Nat) : Int) ≤ 12) = true := rfl
  simp only [hsub, hle, zz, Nat.reduceEqDiff]
  refine (?_ : W 191 _ _ _)
  refine callW_fold ?_
  rw [fn191_eq]
  unfold fn191
  have one : vBin none .add (.int .i64 0) (.int .i64 1) = some (.int .i64 1) := rfl
  refine bindO_go one ?_
  refine fun Φ hΦ _ => hΦ _ _ ?_
  have hl : decide ((1 : Int) < ((0 : Nat) : Int)) = false := rfl
  simp only [hl, zz, Nat.reduceEqDiff]
  exact weakW_keep (weakW_keep (weakW_keep hR))

end Go.Proofs.YtiniifbmeobmgaaGreatDoor
