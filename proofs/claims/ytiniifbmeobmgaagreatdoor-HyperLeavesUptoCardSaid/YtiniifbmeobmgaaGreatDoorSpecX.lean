/- The package's Matches. -/
import Derived.Test.YtiniifbmeobmgaaGreatDoorSpecW
set_option linter.unusedVariables false
set_option linter.unusedSimpArgs false
namespace Go.Proofs.YtiniifbmeobmgaaGreatDoor
open Go Go.Abs

theorem flat_congr {α : Type} {N : Nat} {f h : Nat → List α} (he : ∀ n < N, f n = h n) : (List.range N).flatMap f = (List.range N).flatMap h := by
  induction N with
  | zero => rfl
  | succ N ih => rw [flat_succ, flat_succ, ih fun n hn => he n (by omega), he N (by omega)]

theorem allB_congr {ws : List Str} {fp fp' : Part → Nat → Nat → Bool} : ∀ {l : List Part} {a : Nat} {B : Binds}, a ≤ ws.length → (∀ p ∈ l, ∀ a b, a ≤ b → b ≤ ws.length → fp p a b = fp' p a b) → allB ws fp l a B = allB ws fp' l a B
  | [], a, B, _, _ => rfl
  | p :: l, a, B, ha, h => by
    have ih := fun (a : Nat) (B : Binds) (ha : a ≤ ws.length) => @allB_congr ws fp fp' l a B ha fun q hq => h q (by simp [hq])
    rw [allB, allB]
    refine flat_congr fun n hn => ?_
    rw [h p (by simp) a (a + n) (by omega) (by omega)]
    split
    · split
      · exact ih _ _ (by omega)
      · rfl
    · rfl

/-- The table of what is produced. -/
noncomputable abbrev derT (g : Gram) (ws : List Str) : Tab := fun m i j => derG g ws m i j

theorem allB_right {g : Gram} {ws : List Str} {T : Tab} (hT : ∀ a b, a ≤ b → b ≤ ws.length → RightG g ws T a b) {l : List Part} (hk : ∀ p ∈ l, knownP g p) {a : Nat} (ha : a ≤ ws.length) (B : Binds) : allB ws (fpart g ws T) l a B = allB ws (fpart g ws (derT g ws)) l a B := by
  refine allB_congr ha fun p hp a b h1 h2 => ?_
  unfold fpart partB
  split
  · rename_i hm
    have hlt := ixN_lt (hk p hp hm)
    exact hT a b h1 h2 _ (by simpa [names] using hlt)
  · rfl

/-- What Matches answers. -/
noncomputable def matG (g : Gram) (l : List Part) (s : Str) (most : Int) : List Binds × Int :=
  if checkG g = 0 then
    if l.any (badPart true) then ([], 8)
    else if l.any (unkPart (names g)) then ([], 4)
    else if wordsOk s = false then ([], 2)
    else if 200 < (wordsL s).length ∨ most < 0 then ([], 3)
    else if ((allB (wordsL s) (fpart g (wordsL s) (derT g (wordsL s))) l 0 []).length : Int) ≤ most then (allB (wordsL s) (fpart g (wordsL s) (derT g (wordsL s))) l 0 [], 0)
    else ([], 3)
  else ([], checkG g)

theorem hb91 : hasBody 91 = true := by kernel_rfl
theorem hb92 : hasBody 92 = true := by kernel_rfl

theorem c92 {m : Meta19} {p : Part} (hp : okS p.2) {σ : St} {b : Nat} (hb : σ[b]? = some (.arr 0 2 [pvPart p])) : Ret W 92 [pvMeta m, .ptr b 0 0 0] σ (.bool (m.1 == metaOf p.2)) := by
  refine ret_of fun R hR => ?_
  rw [fn92_eq]
  unfold fn92
  have hbox : opC.vBoxAny (pvMeta m) = some (2, pvMeta m) := rfl
  have h0 : vPart false 1 (pvMeta m) 0 = some (.str m.1) := rfl
  have hld : vLoad false 1 (.ptr b 0 0 1) σ = some (.str p.2) := by simp [vLoad, hb, pvPart]
  simp only [hbox, h0, hld, zz, Nat.reduceEqDiff]
  refine (c64 hp σ).callB ?_
  simp only [zz, Nat.reduceEqDiff]
  exact weakW_keep hR

theorem c91 {g : Gram} (hg : OkGram g) {p : Part} (hp : okS p.2) {σ : St} {b : Nat} (hb : σ[b]? = some (.arr 0 2 [pvGram g])) : Ret W 91 [pvPart p, .ptr b 0 0 0] σ (.bool (unkPart (names g) p)) := by
  refine ret_of fun R hR => ?_
  rw [fn91_eq]
  unfold fn91
  have hmlen := hg.ml
  have hbox : opC.vBoxAny (pvPart p) = some (2, pvPart p) := rfl
  have h02 : 0 < 2 := by decide
  simp only [hbox, h02, newW_eq, zz, Nat.reduceEqDiff]
  have hq : (σ ++ [Blk.arr 0 2 [pvPart p]])[σ.length]? = some (.arr 0 2 [pvPart p]) := new_get _ _
  have hp1 : σ <+: σ ++ [Blk.arr 0 2 [pvPart p]] := ⟨_, rfl⟩
  have hb1 := get_pre hp1 hb
  have hl0 : vLoad false 1 (.ptr σ.length 0 0 0) (σ ++ [Blk.arr 0 2 [pvPart p]]) = some (.bool p.1) := by simp [vLoad, pvPart]
  have hl1 : vLoad false 1 (.ptr b 0 0 0) (σ ++ [Blk.arr 0 2 [pvPart p]]) = some (.list g.1.1 (g.1.2.map pvMeta)) := by
    simp only [vLoad, hb1, if_true, List.getElem?_cons_zero]
    rfl
  simp only [hl0, zz, Nat.reduceEqDiff]
  cases hm : p.1 with
  | false =>
    have : unkPart (names g) p = false := by unfold unkPart; rw [hm]; rfl
    rw [this] at hR
    simp only [zz, Nat.reduceEqDiff]
    exact weakW_clean hp1 (.base _ (.bool _)) hR
  | true =>
    simp only [hl1, zz, Nat.reduceEqDiff]
    refine (c35 encMeta (fun m => m.1 == metaOf p.2) hb92 (Nat.lt_of_le_of_lt hmlen (by decide)) fun m _ => c92 hp hq).callB ?_
    have : unkPart (names g) p = !(g.1.2.any fun m => m.1 == metaOf p.2) := by
      rw [any_names]
      unfold unkPart
      rw [hm]
      rfl
    rw [this] at hR
    simp only [zz, Nat.reduceEqDiff]
    exact weakW_clean hp1 (.base _ (.bool _)) hR

/-! ### Whether the rest can match -/

/-- Rows made from the last on. -/
structure May (σb σ : St) (Y N : Nat) (ws : List Str) (fp : Part → Nat → Nat → Bool) (l : List Part) (k0 : Nat) : Prop where
  len : σ.length = σb.length + (l.length + 1 - k0)
  agree : ∀ c < σb.length, c ≠ Y → σ[c]? = σb[c]?
  top : σ[Y]? = some (.arr 0 1 ((List.range (l.length + 1)).map fun k => if k0 ≤ k then .sref (σb.length + (l.length - k)) 0 1 0 (N + 1) else .list .nil []))
  row : ∀ k, k0 ≤ k → k ≤ l.length → σ[σb.length + (l.length - k)]? = some (.arr 0 1 (bl (N + 1) fun a => mayB ws fp (l.drop k) a))

end Go.Proofs.YtiniifbmeobmgaaGreatDoor
