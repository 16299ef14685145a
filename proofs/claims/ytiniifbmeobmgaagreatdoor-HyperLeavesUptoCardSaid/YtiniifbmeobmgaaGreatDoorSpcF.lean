/- The package's table is made. -/
import Derived.Test.YtiniifbmeobmgaaGreatDoorSpcE
set_option linter.unusedVariables false
set_option linter.unusedSimpArgs false
namespace Go.Proofs.YtiniifbmeobmgaaGreatDoor
open Go Go.Abs

/-! ### Making the blocks of a table -/

theorem rng_get {n k : Nat} {f : Nat → PV} (h : k < n) : ((List.range n).map f)[k]? = some (f k) := by simp [h]

theorem rng_congr {n : Nat} {f g : Nat → PV} (h : ∀ k < n, f k = g k) : (List.range n).map f = (List.range n).map g :=
  List.map_congr_left fun k hk => h k (by simpa using hk)

theorem rng_set {n t : Nat} {f : Nat → PV} {v : PV} : ((List.range n).map f).set t v = (List.range n).map fun k => if k = t then v else f k := by
  refine List.ext_getElem? fun k => ?_
  rw [List.getElem?_set]
  by_cases h : k < n
  · rw [rng_get h, rng_get h]
    by_cases hk : t = k
    · subst hk; simp [h]
    · rw [if_neg hk, if_neg (Ne.symm hk)]
  · have h1 : ((List.range n).map f)[k]? = none := by simp; omega
    have h2 : ((List.range n).map fun k => if k = t then v else f k)[k]? = none := by simp; omega
    rw [h1, h2]
    simp only [List.length_map, List.length_range]
    split
    · split
      · omega
      · rfl
    · rfl

theorem rng_rep (n : Nat) (v : PV) : List.replicate n v = (List.range n).map fun _ => v := by
  refine List.ext_getElem? fun k => ?_
  by_cases h : k < n
  · rw [rng_get h]; simp [h]
  · simp [h]

theorem st_rng {σ : St} {b n k : Nat} {f : Nat → PV} {x : PV} (hb : σ[b]? = some (.arr 0 1 ((List.range n).map f))) (hk : k < n) (hf : f k = .list .nil []) (hx : x.cells? = some [x]) :
    vStore 1 (.ptr b 0 k 0) x σ = some (σ.set b (.arr 0 1 ((List.range n).map fun j => if j = k then x else f j))) := by
  have hp : vPut 1 (.list .nil []) 0 x = some x := by
    unfold vPut
    rw [hx]
    rfl
  simp only [vStore, hb, rng_get hk, hf, hp, rng_set, if_true]

def rowOf (base N m : Nat) : Nat := base + m * (N + 2)
theorem rowOf_succ (base N m : Nat) : rowOf base N (m + 1) = rowOf base N m + (N + 2) := by
  unfold rowOf
  rw [Nat.succ_mul]
  omega
theorem rowOf_le {base N m m' : Nat} (h : m < m') : rowOf base N m + (N + 2) ≤ rowOf base N m' := by
  rw [← rowOf_succ]
  unfold rowOf
  have := Nat.mul_le_mul_right (N + 2) (show m + 1 ≤ m' from h)
  omega
theorem rowOf_ge (base N m : Nat) : base ≤ rowOf base N m := by unfold rowOf; omega

structure Bld (σ : St) (A base M N : Nat) (L : Nat → Nat) (m0 : Nat) : Prop where
  len : σ.length = rowOf base N m0
  top : σ[A]? = some (.arr 0 1 ((List.range M).map fun m => if m < m0 then .sref (rowOf base N m) 0 1 0 (N + 1) else .list .nil []))
  mid : ∀ m < m0, σ[rowOf base N m]? = some (.arr 0 1 ((List.range (N + 1)).map fun a => .sref (rowOf base N m + 1 + a) 0 1 0 (L a)))
  bot : ∀ m < m0, ∀ a ≤ N, σ[rowOf base N m + 1 + a]? = some (.arr 0 1 (bl (L a) fun _ => false))
  lt : A < base

structure Bld2 (σ : St) (A base M N : Nat) (L : Nat → Nat) (m0 a0 : Nat) : Prop where
  len : σ.length = rowOf base N m0 + 1 + a0
  top : σ[A]? = some (.arr 0 1 ((List.range M).map fun m => if m < m0 + 1 then .sref (rowOf base N m) 0 1 0 (N + 1) else .list .nil []))
  mid : ∀ m < m0, σ[rowOf base N m]? = some (.arr 0 1 ((List.range (N + 1)).map fun a => .sref (rowOf base N m + 1 + a) 0 1 0 (L a)))
  bot : ∀ m < m0, ∀ a ≤ N, σ[rowOf base N m + 1 + a]? = some (.arr 0 1 (bl (L a) fun _ => false))
  row : σ[rowOf base N m0]? = some (.arr 0 1 ((List.range (N + 1)).map fun a => if a < a0 then .sref (rowOf base N m0 + 1 + a) 0 1 0 (L a) else .list .nil []))
  cel : ∀ a < a0, σ[rowOf base N m0 + 1 + a]? = some (.arr 0 1 (bl (L a) fun _ => false))
  lt : A < base

section
variable {σ : St} {A base M N : Nat} {L : Nat → Nat} {m0 a0 : Nat}

/-- Only one block has changed, that is none of the table's. -/
theorem Bld.set (h : Bld σ A base M N L m0) {c : Nat} (hc : c < base) (hA : c ≠ A) (k : Blk) : Bld (σ.set c k) A base M N L m0 := by
  have hr := fun m => rowOf_ge base N m
  refine ⟨by simpa using h.len, by rw [List.getElem?_set_ne hA]; exact h.top, fun m hm => ?_, fun m hm a ha => ?_, h.lt⟩
  · have := hr m
    rw [List.getElem?_set_ne (by omega)]; exact h.mid m hm
  · have := hr m
    rw [List.getElem?_set_ne (by omega)]; exact h.bot m hm a ha

/-- A row is begun. -/
theorem Bld.row0 (h : Bld σ A base M N L m0) (hm : m0 < M) :
    vStore 1 (.ptr A 0 m0 0) (.sref σ.length 0 1 0 (N + 1)) (σ ++ [Blk.arr 0 1 (List.replicate (N + 1) (.list .nil []))]) = some ((σ ++ [Blk.arr 0 1 (List.replicate (N + 1) (.list .nil []))]).set A (Blk.arr 0 1 ((List.range M).map fun j => if j = m0 then .sref σ.length 0 1 0 (N + 1) else if j < m0 then .sref (rowOf base N j) 0 1 0 (N + 1) else .list .nil []))) ∧
    Bld2 ((σ ++ [Blk.arr 0 1 (List.replicate (N + 1) (.list .nil []))]).set A (Blk.arr 0 1 ((List.range M).map fun j => if j = m0 then .sref σ.length 0 1 0 (N + 1) else if j < m0 then .sref (rowOf base N j) 0 1 0 (N + 1) else .list .nil []))) A base M N L m0 0 := by
  have hlen := h.len
  have hr := fun m => rowOf_ge base N m
  have hlt := h.lt
  have hAl : A < σ.length := by have := hr m0; omega
  have htop : (σ ++ [Blk.arr 0 1 (List.replicate (N + 1) (.list .nil []))])[A]? = some (.arr 0 1 ((List.range M).map fun m => if m < m0 then .sref (rowOf base N m) 0 1 0 (N + 1) else .list .nil [])) := by
    rw [List.getElem?_append_left hAl]; exact h.top
  refine ⟨st_rng htop hm (by simp) rfl, ?_, ?_, fun m hm' => ?_, fun m hm' a ha => ?_, ?_, fun a ha => absurd ha (Nat.not_lt_zero _), h.lt⟩
  · simp [hlen]
  · rw [List.getElem?_set_self (by simp; omega)]
    congr 2
    refine rng_congr fun k hk => ?_
    by_cases hkm : k = m0
    · subst hkm
      simp [hlen]
    · rw [if_neg hkm]
      by_cases hk2 : k < m0
      · rw [if_pos hk2, if_pos (by omega)]
      · rw [if_neg hk2, if_neg (by omega)]
  · have h1 := hr m
    have h2 := rowOf_le (base := base) (N := N) hm'
    rw [List.getElem?_set_ne (by omega), List.getElem?_append_left (by omega)]
    exact h.mid m hm'
  · have h1 := hr m
    have h2 := rowOf_le (base := base) (N := N) hm'
    rw [List.getElem?_set_ne (by omega), List.getElem?_append_left (by omega)]
    exact h.bot m hm' a ha
  · have h1 := hr m0
    rw [List.getElem?_set_ne (by omega), ← hlen, new_get, rng_rep]
    congr 2

theorem Bld2.ld (h : Bld2 σ A base M N L m0 a0) (hm : m0 < M) : vLoad false 1 (.ptr A 0 m0 0) σ = some (.sref (rowOf base N m0) 0 1 0 (N + 1)) := by
  simp only [vLoad, h.top, rng_get hm, if_true, if_pos (Nat.lt_succ_self m0)]
  rfl

theorem Bld2.app (h : Bld2 σ A base M N L m0 a0) (k : Blk) : Bld2 σ A base M N L m0 a0 → (σ ++ [k])[A]? = σ[A]? ∧ (∀ m < m0, (σ ++ [k])[rowOf base N m]? = σ[rowOf base N m]?) ∧ (∀ m < m0, ∀ a ≤ N, (σ ++ [k])[rowOf base N m + 1 + a]? = σ[rowOf base N m + 1 + a]?) ∧ (σ ++ [k])[rowOf base N m0]? = σ[rowOf base N m0]? ∧ ∀ a < a0, (σ ++ [k])[rowOf base N m0 + 1 + a]? = σ[rowOf base N m0 + 1 + a]? := by
  intro _
  have hlen := h.len
  have hlt := h.lt
  have hr := fun m => rowOf_ge base N m
  have h0 := hr m0
  refine ⟨List.getElem?_append_left (by omega), fun m hm => List.getElem?_append_left ?_, fun m hm a ha => List.getElem?_append_left ?_, List.getElem?_append_left (by omega), fun a ha => List.getElem?_append_left (by omega)⟩
  · have := rowOf_le (base := base) (N := N) hm
    omega
  · have := rowOf_le (base := base) (N := N) hm
    omega

/-- A cell of a row is made. -/
theorem Bld2.step (h : Bld2 σ A base M N L m0 a0) (ha : a0 < N + 1) :
    vStore 1 (.ptr (rowOf base N m0) 0 a0 0) (.sref σ.length 0 1 0 (L a0)) (σ ++ [Blk.arr 0 1 (bl (L a0) fun _ => false)]) = some ((σ ++ [Blk.arr 0 1 (bl (L a0) fun _ => false)]).set (rowOf base N m0) (Blk.arr 0 1 ((List.range (N + 1)).map fun j => if j = a0 then .sref σ.length 0 1 0 (L a0) else if j < a0 then .sref (rowOf base N m0 + 1 + j) 0 1 0 (L j) else .list .nil []))) ∧
    Bld2 ((σ ++ [Blk.arr 0 1 (bl (L a0) fun _ => false)]).set (rowOf base N m0) (Blk.arr 0 1 ((List.range (N + 1)).map fun j => if j = a0 then .sref σ.length 0 1 0 (L a0) else if j < a0 then .sref (rowOf base N m0 + 1 + j) 0 1 0 (L j) else .list .nil []))) A base M N L m0 (a0 + 1) := by
  obtain ⟨k1, k2, k3, k4, k5⟩ := h.app (.arr 0 1 (bl (L a0) fun _ => false)) h
  have hlen := h.len
  have hlt := h.lt
  have hr := fun m => rowOf_ge base N m
  have h0 := hr m0
  refine ⟨st_rng (by rw [k4]; exact h.row) ha (by simp) rfl, ?_, ?_, fun m hm' => ?_, fun m hm' a ha => ?_, ?_, fun a ha' => ?_, h.lt⟩
  · simp [hlen]
    omega
  · rw [List.getElem?_set_ne (by omega), k1]
    exact h.top
  · have h2 := rowOf_le (base := base) (N := N) hm'
    rw [List.getElem?_set_ne (by omega), k2 m hm']
    exact h.mid m hm'
  · have h2 := rowOf_le (base := base) (N := N) hm'
    rw [List.getElem?_set_ne (by omega), k3 m hm' a ha]
    exact h.bot m hm' a ha
  · rw [List.getElem?_set_self (by simp; omega)]
    congr 2
    refine rng_congr fun k hk => ?_
    by_cases hkm : k = a0
    · subst hkm
      simp [hlen]
    · rw [if_neg hkm]
      by_cases hk2 : k < a0
      · rw [if_pos hk2, if_pos (by omega)]
      · rw [if_neg hk2, if_neg (by omega)]
  · rw [List.getElem?_set_ne (by omega)]
    by_cases he : a = a0
    · subst he
      rw [← hlen, new_get]
    · rw [k5 a (by omega)]
      exact h.cel a (by omega)

theorem Bld2.done (h : Bld2 σ A base M N L m0 (N + 1)) : Bld σ A base M N L (m0 + 1) := by
  refine ⟨by rw [h.len, rowOf_succ]; omega, h.top, fun m hm => ?_, fun m hm a ha => ?_, h.lt⟩
  · by_cases he : m = m0
    · subst he
      rw [h.row]
      congr 2
      exact rng_congr fun k hk => by rw [if_pos hk]
    · exact h.mid m (by omega)
  · by_cases he : m = m0
    · subst he
      exact h.cel a (by omega)
    · exact h.bot m (by omega) a ha

theorem Bld.tab (h : Bld σ A base M N L M) (s : Nat → Nat) : TabAt σ A (rowOf base N) (fun m a => rowOf base N m + 1 + a) M N s L (fun _ _ _ => false) := by
  have hr := fun m => rowOf_ge base N m
  have hlt := h.lt
  refine ⟨?_, h.mid, h.bot, fun m hm a ha m' hm' a' ha' he => ?_, fun m hm a ha => ?_, fun m hm a ha m' hm' he => ?_⟩
  · rw [h.top]
    congr 2
    exact rng_congr fun k hk => by rw [if_pos hk]
  · rcases Nat.lt_trichotomy m m' with h1 | h1 | h1
    · have := rowOf_le (base := base) (N := N) h1
      omega
    · subst h1
      exact ⟨rfl, by omega⟩
    · have := rowOf_le (base := base) (N := N) h1
      omega
  · have := hr m
    omega
  · rcases Nat.lt_trichotomy m m' with h1 | h1 | h1
    · have := rowOf_le (base := base) (N := N) h1
      omega
    · subst h1
      omega
    · have := rowOf_le (base := base) (N := N) h1
      omega
end

/-- What the package's tabulate does once its blocks are there (printed). -/
def rest73 (W : CallP) (gv a1 p10 : PV) (σ σ11 : St) (R : Res → St → Prop) : Prop :=
bindO False (vPart false 1 gv 0) fun v12 =>
bindO False (vLen .sl v12 σ11) fun v13 =>
Lfp σ (fun Φ14 x15 σ16 =>
bindO False (vBin none .lss (x15 23) (x15 22)) fun v17 =>
condW v17 (
bindO False (vIndex 2 (x15 21) (x15 23)) fun v18 =>
bindO False (vLoad true 2 v18 σ16) fun v19 =>
bindO False (vPut 2 (.agg [(.str []), (.list .nil [])]) 0 v19) fun z20 =>
bindO False (vNil (x15 5)) fun v21 =>
bindO False (vField 2 v21) fun v22 =>
bindO False (vLoad false 1 v22 σ16) fun v23 =>
bindO False (vPart false 1 z20 0) fun v24 =>
bindO False (vMapSet .str v23 v24 (x15 23) σ16) fun σ25 =>
bindO False (vNil (x15 5)) fun v26 =>
bindO False (vField 4 v26) fun v27 =>
bindO False (vLoad false 1 v27 σ25) fun v28 =>
bindO False (vLen .sl (x15 1) σ25) fun v29 =>
bindO False (vBin none .add v29 (.int .i64 1)) fun v30 =>
bindS (vMakeSl 1 24 (.list .nil []) v30 v30 σ25) fun v31 σ32 =>
bindO False (vIndex 1 v28 (x15 23)) fun v33 =>
bindO False (vStore 1 v33 v31 σ32) fun σ34 =>
bindO False (vNil (x15 5)) fun v35 =>
bindO False (vField 4 v35) fun v36 =>
bindO False (vLoad false 1 v36 σ34) fun v37 =>
bindO False (vIndex 1 v37 (x15 23)) fun v38 =>
bindO False (vLoad false 1 v38 σ34) fun v39 =>
bindO False (vLen .sl v39 σ34) fun v40 =>
Lfp σ (fun Φ41 x42 σ43 =>
bindO False (vBin none .lss (x42 53) (x42 52)) fun v44 =>
condW v44 (
bindO False (vNil (x42 5)) fun v45 =>
bindO False (vField 4 v45) fun v46 =>
bindO False (vLoad false 1 v46 σ43) fun v47 =>
bindO False (vIndex 1 v47 (x42 6)) fun v48 =>
bindO False (vLoad false 1 v48 σ43) fun v49 =>
bindO False (vLen .sl (x42 1) σ43) fun v50 =>
bindO False (vBin none .add v50 (.int .i64 1)) fun v51 =>
bindO False (vBin none .sub v51 (x42 53)) fun v52 =>
bindS (vMakeSl 1 1 (.bool false) v52 v52 σ43) fun v53 σ54 =>
bindO False (vIndex 1 v49 (x42 53)) fun v55 =>
bindO False (vStore 1 v55 v53 σ54) fun σ56 =>
bindO False (vBin none .add (x42 53) (.int .i64 1)) fun v57 =>
Φ41 (lookP [(1, (x42 1)), (5, (x42 5)), (6, (x42 6)), (21, (x42 21)), (22, (x42 22)), (23, (x42 23)), (52, (x42 52)), (53, v57)]) σ56) (
bindO False (vBin none .add (x42 23) (.int .i64 1)) fun v58 =>
Φ14 (lookP [(1, (x42 1)), (5, (x42 5)), (21, (x42 21)), (22, (x42 22)), (23, v58)]) σ43)) (lookP [(1, (x15 1)), (5, (x15 5)), (6, (x15 23)), (21, (x15 21)), (22, (x15 22)), (23, (x15 23)), (52, v40), (53, (.int .i64 0))]) σ34) (
bindO False (vLen .sl (x15 1) σ16) fun v59 =>
bindO False (vBin none .add v59 (.int .i64 1)) fun v60 =>
Lfp σ (fun Φ61 x62 σ63 =>
bindO False (vBin none .lss (x62 76) (x62 75)) fun v64 =>
condW v64 (
Lfp σ (fun Φ65 x66 σ67 =>
bindO False (vBin none .add (x66 10) (x66 9)) fun v68 =>
bindO False (vLen .sl (x66 1) σ67) fun v69 =>
bindO False (vBin none .leq v68 v69) fun v70 =>
condW v70 (
Lfp σ (fun Φ71 x72 σ73 =>
callB W 134 [(x72 5), (x72 10), (x72 9)] σ73 (fun v74 σ75 =>
condW v74 (
Φ71 (lookP [(1, (x72 1)), (5, (x72 5)), (9, (x72 9)), (10, (x72 10)), (75, (x72 75)), (76, (x72 76))]) σ75) (
bindO False (vBin none .add (x72 10) (.int .i64 1)) fun v76 =>
Φ65 (lookP [(1, (x72 1)), (5, (x72 5)), (9, (x72 9)), (10, v76), (75, (x72 75)), (76, (x72 76))]) σ75)) (fun e77 σ78 => R (.pan e77) σ78)) (lookP [(1, (x66 1)), (5, (x66 5)), (9, (x66 9)), (10, (x66 10)), (75, (x66 75)), (76, (x66 76))]) σ67) (
bindO False (vBin none .add (x66 76) (.int .i64 1)) fun v79 =>
Φ61 (lookP [(1, (x66 1)), (5, (x66 5)), (75, (x66 75)), (76, v79)]) σ67)) (lookP [(1, (x62 1)), (5, (x62 5)), (9, (x62 76)), (10, (.int .i64 0)), (75, (x62 75)), (76, (x62 76))]) σ63) (
weakW σ (x62 5) σ63 fun v σ => R (.ret v) σ)) (lookP [(1, (x15 1)), (5, (x15 5)), (75, v60), (76, (.int .i64 0))]) σ16)) (lookP [(1, a1), (5, p10), (21, v12), (22, v13), (23, (.int .i64 0))]) σ11

/-- What a table that has been made holds. -/
structure Made (σ : St) (g : Gram) (ws : List Str) (wk : LK) (σ' : St) (t : Nat) : Prop where
  has : ∃ A ixb bm bc T, HT σ' t A ixb bm bc g ws wk T ∧ ∀ a b, a ≤ b → b ≤ ws.length → RightG g ws T a b
  pre : ∀ c < σ.length, σ'[c]? = σ[c]?

theorem rest73_ok {g : Gram} (hg : OkGram g) (hck : checkG g = 0) {ws : List Str} {wk : LK} (hw : ws.length ≤ 1048576) {σ σ2 : St} {A ixb : Nat} {R : Res → St → Prop}
    (hA : σ2[A]? = some (.arr 0 1 (List.replicate g.1.2.length (.list .nil [])))) (hI : σ2[ixb]? = some (.map 0 [])) (hp : σ <+: σ2) (lA : σ.length ≤ A) (lI : σ.length ≤ ixb)
    (hR : ∀ σ' t, Made σ g ws wk σ' t → R (.ret (.ptr t 0 0 0)) σ') :
    rest73 W (pvGram g) (.list wk (ws.map .str)) (.ptr σ2.length 0 0 0) σ (σ2 ++ [Blk.arr 0 5 [.agg [pvSl pvMeta g.1, pvSl pvRule g.2, .mref ixb, .list wk (ws.map .str), .sref A 0 1 0 g.1.2.length]]]) R := by
  unfold rest73
  have hAl : A < σ2.length := (List.getElem?_eq_some_iff.1 hA).1
  have hIl : ixb < σ2.length := (List.getElem?_eq_some_iff.1 hI).1
  have hmlen := hg.ml
  have cell0 := new_get σ2 (.arr 0 5 [.agg [pvSl pvMeta g.1, pvSl pvRule g.2, .mref ixb, .list wk (ws.map .str), .sref A 0 1 0 g.1.2.length]])
  have hA1 : (σ2 ++ [Blk.arr 0 5 [.agg [pvSl pvMeta g.1, pvSl pvRule g.2, .mref ixb, .list wk (ws.map .str), .sref A 0 1 0 g.1.2.length]]])[A]? = some (.arr 0 1 (List.replicate g.1.2.length (.list .nil []))) := by rw [List.getElem?_append_left hAl]; exact hA
  have hI1 : (σ2 ++ [Blk.arr 0 5 [.agg [pvSl pvMeta g.1, pvSl pvRule g.2, .mref ixb, .list wk (ws.map .str), .sref A 0 1 0 g.1.2.length]]])[ixb]? = some (.map 0 []) := by rw [List.getElem?_append_left hIl]; exact hI
  have hpre1 : ∀ c < σ.length, (σ2 ++ [Blk.arr 0 5 [.agg [pvSl pvMeta g.1, pvSl pvRule g.2, .mref ixb, .list wk (ws.map .str), .sref A 0 1 0 g.1.2.length]]])[c]? = σ[c]? := fun c hc => by
    obtain ⟨e, rfl⟩ := hp
    rw [List.append_assoc, List.getElem?_append_left hc]
  have hlen1 : (σ2 ++ [Blk.arr 0 5 [.agg [pvSl pvMeta g.1, pvSl pvRule g.2, .mref ixb, .list wk (ws.map .str), .sref A 0 1 0 g.1.2.length]]]).length = σ2.length + 1 := by simp
  have hlt2 : σ.length ≤ σ2.length := hp.length_le
  generalize (σ2 ++ [Blk.arr 0 5 [.agg [pvSl pvMeta g.1, pvSl pvRule g.2, .mref ixb, .list wk (ws.map .str), .sref A 0 1 0 g.1.2.length]]]) = σ1 at cell0 hA1 hI1 hpre1 hlen1 ⊢
  generalize ht : σ2.length = t at cell0 hlen1 hAl hIl hlt2 ⊢
  clear hA hI hp ht
  have hneA : A ≠ t := by omega
  have hneI : ixb ≠ t := by omega
  have hAI : ixb ≠ A := fun he => by rw [he, hA1] at hI1; cases hI1
  have ld2 : ∀ σ' : St, σ'[t]? = some (.arr 0 5 [.agg [pvSl pvMeta g.1, pvSl pvRule g.2, .mref ixb, .list wk (ws.map .str), .sref A 0 1 0 g.1.2.length]]) → vLoad false 1 (.ptr t 0 0 2) σ' = some (.mref ixb) := fun σ' e => by simp [vLoad, e]
  have ld4 : ∀ σ' : St, σ'[t]? = some (.arr 0 5 [.agg [pvSl pvMeta g.1, pvSl pvRule g.2, .mref ixb, .list wk (ws.map .str), .sref A 0 1 0 g.1.2.length]]) → vLoad false 1 (.ptr t 0 0 4) σ' = some (.sref A 0 1 0 g.1.2.length) := fun σ' e => by simp [vLoad, e]
  have hB0 : Bld σ1 A (t + 1) g.1.2.length ws.length (fun a => ws.length + 1 - a) 0 := by
    refine ⟨by rw [hlen1]; simp [rowOf], ?_, fun m hm => absurd hm (Nat.not_lt_zero _), fun m hm => absurd hm (Nat.not_lt_zero _), by omega⟩
    rw [hA1, rng_rep]
    congr 2
  have hgp : vPart false 1 (pvGram g) 0 = some (.list g.1.1 (g.1.2.map pvMeta)) := rfl
  simp only [hgp, List.length_map, zz, Nat.reduceEqDiff]
  refine Lfp_up g.1.2.length (fun m x σ' => x = lookP [(1, .list wk (ws.map .str)), (5, .ptr t 0 0 0), (21, .list g.1.1 (g.1.2.map pvMeta)), (22, .int .i64 g.1.2.length), (23, .int .i64 m)] ∧ Bld σ' A (t + 1) g.1.2.length ws.length (fun a => ws.length + 1 - a) m ∧
      σ'[t]? = some (.arr 0 5 [.agg [pvSl pvMeta g.1, pvSl pvRule g.2, .mref ixb, .list wk (ws.map .str), .sref A 0 1 0 g.1.2.length]]) ∧ (∃ v, σ'[ixb]? = some (.map v (pvIx ((g.1.2.take m).map (·.1)) 0))) ∧ ∀ c < σ.length, σ'[c]? = σ[c]?) ?_ ⟨rfl, hB0, cell0, ⟨0, hI1⟩, hpre1⟩
  rintro Φ m x σ' hm ⟨rfl, hB, hcell, ⟨v, hI⟩, hpre⟩ next
  simp only [zz, Nat.reduceEqDiff]
  by_cases hlt : m < g.1.2.length
  · have hgi : g.1.2[m]? = some g.1.2[m] := by simp [hlt]
    generalize g.1.2[m] = y at hgi
    have hput : vPut 2 (.agg [.str [], .list .nil []]) 0 (pvMeta y) = some (pvMeta y) := rfl
    have hy0 : vPart false 1 (pvMeta y) 0 = some (.str y.1) := rfl
    have htk : (g.1.2.take (m + 1)).map (·.1) = (g.1.2.take m).map (·.1) ++ [y.1] := by rw [List.take_add_one, hgi]; simp
    have hset := set_ix hI (names_once hck hgi)
    rw [show ((g.1.2.take m).map (·.1)).length = m by simp; omega, ← htk] at hset
    have hcell1 : (σ'.set ixb (.map (v + 1) (pvIx ((g.1.2.take (m + 1)).map (·.1)) 0)))[t]? = some (.arr 0 5 [.agg [pvSl pvMeta g.1, pvSl pvRule g.2, .mref ixb, .list wk (ws.map .str), .sref A 0 1 0 g.1.2.length]]) := by rw [List.getElem?_set_ne hneI]; exact hcell
    have hB1 := hB.set (c := ixb) (by omega) hAI (.map (v + 1) (pvIx ((g.1.2.take (m + 1)).map (·.1)) 0))
    have hI1 : (σ'.set ixb (.map (v + 1) (pvIx ((g.1.2.take (m + 1)).map (·.1)) 0)))[ixb]? = some (.map (v + 1) (pvIx ((g.1.2.take (m + 1)).map (·.1)) 0)) := List.getElem?_set_self (List.getElem?_eq_some_iff.1 hI).1
    have hpre1 : ∀ c < σ.length, (σ'.set ixb (.map (v + 1) (pvIx ((g.1.2.take (m + 1)).map (·.1)) 0)))[c]? = σ[c]? := fun c hc => by rw [List.getElem?_set_ne (by omega)]; exact hpre c hc
    simp only [hlt, encMeta.index hgi, encMeta.part, hput, hy0, vNil_ptr, ld2 σ' hcell, hset, zz, Nat.reduceEqDiff]
    generalize (σ'.set ixb (.map (v + 1) (pvIx ((g.1.2.take (m + 1)).map (·.1)) 0))) = σ4 at hcell1 hB1 hI1 hpre1 ⊢
    obtain ⟨s1, hB2⟩ := hB1.row0 hlt
    have hs4 : t < σ4.length := (List.getElem?_eq_some_iff.1 hcell1).1
    simp only [ld4 σ4 hcell1, List.length_map, add_one (a := ws.length) (by omega), mk_nl (σ := σ4) (n := ws.length + 1) (by omega), ix_sref (b := A) (q := .i64) hlt, s1, zz, Nat.reduceEqDiff]
    have hcell2 : ((σ4 ++ [Blk.arr 0 1 (List.replicate (ws.length + 1) (.list .nil []))]).set A (Blk.arr 0 1 ((List.range g.1.2.length).map fun j => if j = m then .sref σ4.length 0 1 0 (ws.length + 1) else if j < m then .sref (rowOf (t + 1) ws.length j) 0 1 0 (ws.length + 1) else .list .nil [])))[t]? = some (.arr 0 5 [.agg [pvSl pvMeta g.1, pvSl pvRule g.2, .mref ixb, .list wk (ws.map .str), .sref A 0 1 0 g.1.2.length]]) := by
      rw [List.getElem?_set_ne hneA, List.getElem?_append_left hs4]; exact hcell1
    have hI2 : ((σ4 ++ [Blk.arr 0 1 (List.replicate (ws.length + 1) (.list .nil []))]).set A (Blk.arr 0 1 ((List.range g.1.2.length).map fun j => if j = m then .sref σ4.length 0 1 0 (ws.length + 1) else if j < m then .sref (rowOf (t + 1) ws.length j) 0 1 0 (ws.length + 1) else .list .nil [])))[ixb]? = some (.map (v + 1) (pvIx ((g.1.2.take (m + 1)).map (·.1)) 0)) := by
      rw [List.getElem?_set_ne (Ne.symm hAI), List.getElem?_append_left (by omega)]; exact hI1
    have hpre2 : ∀ c < σ.length, ((σ4 ++ [Blk.arr 0 1 (List.replicate (ws.length + 1) (.list .nil []))]).set A (Blk.arr 0 1 ((List.range g.1.2.length).map fun j => if j = m then .sref σ4.length 0 1 0 (ws.length + 1) else if j < m then .sref (rowOf (t + 1) ws.length j) 0 1 0 (ws.length + 1) else .list .nil [])))[c]? = σ[c]? := fun c hc => by
      rw [List.getElem?_set_ne (by omega), List.getElem?_append_left (by omega)]; exact hpre1 c hc
    generalize ((σ4 ++ [Blk.arr 0 1 (List.replicate (ws.length + 1) (.list .nil []))]).set A (Blk.arr 0 1 ((List.range g.1.2.length).map fun j => if j = m then .sref σ4.length 0 1 0 (ws.length + 1) else if j < m then .sref (rowOf (t + 1) ws.length j) 0 1 0 (ws.length + 1) else .list .nil []))) = σ5 at hcell2 hI2 hB2 hpre2 ⊢
    simp only [ld4 σ5 hcell2, vNil_ptr, ix_sref (b := A) (q := .i64) hlt, hB2.ld hlt, zz, Nat.reduceEqDiff]
    refine Lfp_up (ws.length + 1) (fun a x σ' => x = lookP [(1, .list wk (ws.map .str)), (5, .ptr t 0 0 0), (6, .int .i64 m), (21, .list g.1.1 (g.1.2.map pvMeta)), (22, .int .i64 g.1.2.length), (23, .int .i64 m), (52, .int .i64 ((ws.length + 1 : Nat) : Int)), (53, .int .i64 a)] ∧ Bld2 σ' A (t + 1) g.1.2.length ws.length (fun a => ws.length + 1 - a) m a ∧
      σ'[t]? = some (.arr 0 5 [.agg [pvSl pvMeta g.1, pvSl pvRule g.2, .mref ixb, .list wk (ws.map .str), .sref A 0 1 0 g.1.2.length]]) ∧ (∃ v, σ'[ixb]? = some (.map v (pvIx ((g.1.2.take (m + 1)).map (·.1)) 0))) ∧ ∀ c < σ.length, σ'[c]? = σ[c]?) ?_ ⟨rfl, hB2, hcell2, ⟨_, hI2⟩, hpre2⟩
    rintro Φ2 a x σ6 ha ⟨rfl, hB6, hcell6, ⟨v6, hI6⟩, hpre6⟩ next2
    simp only [zz, Nat.reduceEqDiff]
    by_cases hal : a < ws.length + 1
    · obtain ⟨s1, hB7⟩ := hB6.step hal
      have hr := rowOf_ge (t + 1) ws.length m
      have hs6 : t < σ6.length := (List.getElem?_eq_some_iff.1 hcell6).1
      have l4 : ld4 = ld4 := rfl
      have hc6 : ∀ k : Blk, (σ6 ++ [k])[t]? = some (.arr 0 5 [.agg [pvSl pvMeta g.1, pvSl pvRule g.2, .mref ixb, .list wk (ws.map .str), .sref A 0 1 0 g.1.2.length]]) := fun k => by rw [List.getElem?_append_left hs6]; exact hcell6
      simp only at s1 hB7
      simp only [hal, vNil_ptr, ld4 σ6 hcell6, ix_sref (b := A) (q := .i64) hlt, hB6.ld hlt, List.length_map, add_one (a := ws.length) (by omega), sub_nat (a := ws.length + 1) (b := a) (by omega) (by omega), mk_bl (σ := σ6) (n := ws.length + 1 - a) (by omega), ix_sref (b := rowOf (t + 1) ws.length m) (q := .i64) hal, s1, add_one (a := a) (by omega), zz, Nat.reduceEqDiff]
      refine next2 _ _ hal ⟨rfl, hB7, ?_, ⟨v6, ?_⟩, fun c hc => ?_⟩
      · rw [List.getElem?_set_ne (by omega)]; exact hc6 _
      · rw [List.getElem?_set_ne (by omega), List.getElem?_append_left (by omega)]; exact hI6
      · rw [List.getElem?_set_ne (by omega), List.getElem?_append_left (by omega)]; exact hpre6 c hc
    · obtain rfl : a = ws.length + 1 := by omega
      simp only [hal, add_one (a := m) (by omega), zz, Nat.reduceEqDiff]
      exact next _ _ hlt ⟨rfl, hB6.done, hcell6, ⟨v6, hI6⟩, hpre6⟩
  obtain rfl : m = g.1.2.length := by omega
  rw [List.take_length] at hI
  have hbc : ∀ m a, σ.length ≤ rowOf (t + 1) ws.length m + 1 + a := fun m a => by have := rowOf_ge (t + 1) ws.length m; omega
  have hH0 : HT σ' t A ixb (rowOf (t + 1) ws.length) (fun m a => rowOf (t + 1) ws.length m + 1 + a) g ws wk (fun _ _ _ => false) := ⟨hcell, ⟨v, hI⟩, hB.tab _⟩
  have hlen' : σ.length ≤ σ'.length := by have := hB.len; have := rowOf_ge (t + 1) ws.length g.1.2.length; omega
  generalize hbcd : (fun m a => rowOf (t + 1) ws.length m + 1 + a) = bc at hH0
  generalize hbm : rowOf (t + 1) ws.length = bm at hH0
  have hbc : ∀ m a, σ.length ≤ bc m a := fun m a => by subst hbcd; exact hbc m a
  simp only [hlt, List.length_map, add_one (a := ws.length) (by omega), zz, Nat.reduceEqDiff]
  clear hbm hbcd next hB
  -- lengths
  refine Lfp_up (ws.length + 1) (fun n x σ3 => x = lookP [(1, .list wk (ws.map .str)), (5, .ptr t 0 0 0), (75, .int .i64 ((ws.length + 1 : Nat) : Int)), (76, .int .i64 n)] ∧ (∀ c < σ.length, σ3[c]? = σ[c]?) ∧ σ.length ≤ σ3.length ∧ ∃ T, HT σ3 t A ixb bm bc g ws wk T ∧ SoundG g ws T ∧ ∀ a b, a ≤ b → b ≤ ws.length → b - a < n → RightG g ws T a b) ?_
    ⟨rfl, hpre, hlen', _, hH0, (fun m a b h => by cases h), fun a b _ _ h => absurd h (Nat.not_lt_zero _)⟩
  rintro Φ2 n x σ3 hn ⟨rfl, hpre3, hlen3, T, hH3, hS3, hR3⟩ next2
  simp only [zz, Nat.reduceEqDiff]
  by_cases hnl : n < ws.length + 1
  · simp only [hnl, zz, Nat.reduceEqDiff]
    -- beginnings
    refine Lfp_up (ws.length + 1 - n) (fun i x σ4 => x = lookP [(1, .list wk (ws.map .str)), (5, .ptr t 0 0 0), (9, .int .i64 n), (10, .int .i64 i), (75, .int .i64 ((ws.length + 1 : Nat) : Int)), (76, .int .i64 n)] ∧ (∀ c < σ.length, σ4[c]? = σ[c]?) ∧ σ.length ≤ σ4.length ∧ ∃ T, HT σ4 t A ixb bm bc g ws wk T ∧ SoundG g ws T ∧ (∀ a b, a ≤ b → b ≤ ws.length → b - a < n → RightG g ws T a b) ∧ ∀ a, a < i → a + n ≤ ws.length → RightG g ws T a (a + n)) ?_
      ⟨rfl, hpre3, hlen3, T, hH3, hS3, hR3, fun a h => absurd h (Nat.not_lt_zero _)⟩
    rintro Φ3 i x σ4 hi ⟨rfl, hpre4, hlen4, T4, hH4, hS4, hR4, hQ4⟩ next3
    simp only [add_nat (a := i) (b := n) (by omega), List.length_map, Int.ofNat_le, zz, Nat.reduceEqDiff]
    by_cases hil : i + n ≤ ws.length
    · simp only [hil, zz, Nat.reduceEqDiff]
      -- growing
      refine Lfp_up g.1.2.length (fun k x σ5 => x = lookP [(1, .list wk (ws.map .str)), (5, .ptr t 0 0 0), (9, .int .i64 n), (10, .int .i64 i), (75, .int .i64 ((ws.length + 1 : Nat) : Int)), (76, .int .i64 n)] ∧ (∀ c < σ.length, σ5[c]? = σ[c]?) ∧ σ.length ≤ σ5.length ∧ ∃ T, HT σ5 t A ixb bm bc g ws wk T ∧ SoundG g ws T ∧ (∀ a b, a ≤ b → b ≤ ws.length → b - a < n → RightG g ws T a b) ∧ (∀ a, a < i → a + n ≤ ws.length → RightG g ws T a (a + n)) ∧ k ≤ cnt g.1.2.length T i (i + n)) ?_
        ⟨rfl, hpre4, hlen4, T4, hH4, hS4, hR4, hQ4, Nat.zero_le _⟩
      rintro Φ4 k x σ5 hk ⟨rfl, hpre5, hlen5, T5, hH5, hS5, hR5, hQ5, hcnt⟩ next4
      simp only [zz, Nat.reduceEqDiff]
      refine c134 hg hck hH5 hS5 hil hw fun b σ6 T6 hH6 hG => ?_
      have hpre6 : ∀ c < σ.length, σ6[c]? = σ[c]? := fun c hc => by
        rw [hG.agree c (by omega) fun m _ he => by have := hbc m i; omega]
        exact hpre5 c hc
      have hlen6 : σ.length ≤ σ6.length := Nat.le_trans hlen5 hG.len
      have hR6 : ∀ a b, a ≤ b → b ≤ ws.length → b - a < n → RightG g ws T6 a b := fun a b h1 h2 h3 => (hR5 a b h1 h2 h3).congr fun m _ => hG.other m a b (fun h => by omega)
      have hQ6 : ∀ a, a < i → a + n ≤ ws.length → RightG g ws T6 a (a + n) := fun a h1 h2 => (hQ5 a h1 h2).congr fun m _ => hG.other m a (a + n) (fun h => by omega)
      cases b with
      | true =>
        have hmore := hG.more rfl
        have hle := cnt_le (M := g.1.2.length) T6 i (i + n)
        simp only [zz, Nat.reduceEqDiff]
        exact next4 _ _ (by omega) ⟨rfl, hpre6, hlen6, T6, hH6, hG.sound, hR6, hQ6, by omega⟩
      | false =>
        simp only [add_one (a := i) (by omega), zz, Nat.reduceEqDiff]
        have hright : RightG g ws T6 i (i + n) := right_of (by omega) hG.sound (fun a b h1 h2 h3 h4 => by
          by_cases hl : b - a < n
          · exact hR6 a b h2 (by omega) hl
          · exact absurd ⟨by omega, by omega⟩ h4) (hG.closed rfl)
        refine next3 _ _ (by omega) ⟨rfl, hpre6, hlen6, T6, hH6, hG.sound, hR6, fun a h1 h2 => ?_⟩
        by_cases hai : a = i
        · subst hai; exact hright
        · exact hQ6 a (by omega) h2
    · simp only [hil, add_one (a := n) (by omega), zz, Nat.reduceEqDiff]
      refine next2 _ _ hnl ⟨rfl, hpre4, hlen4, T4, hH4, hS4, fun a b h1 h2 h3 => ?_⟩
      by_cases hl : b - a < n
      · exact hR4 a b h1 h2 hl
      · have := hQ4 a (by omega) (by omega)
        rw [show a + n = b by omega] at this
        exact this
  · obtain rfl : n = ws.length + 1 := by omega
    simp only [hnl, zz, Nat.reduceEqDiff]
    exact weakW_keep (hR σ3 t ⟨⟨A, ixb, bm, bc, T, hH3, fun a b h1 h2 => hR3 a b h1 h2 (by omega)⟩, hpre3⟩)

theorem bindO_go {α : Type} {o : Option α} {a : α} {K : α → Prop} (h : o = some a) (k : K a) : bindO False o K := by subst h; exact k
theorem bindS_go {o : Option (PV × St)} {r : PV × St} {K : PV → St → Prop} (h : o = some r) (k : K r.1 r.2) : bindS o K := by subst h; exact k

theorem c73 {g : Gram} (hg : OkGram g) (hck : checkG g = 0) {ws : List Str} {wk : LK} (hw : ws.length ≤ 1048576) {σ : St} {R : Res → St → Prop}
    (hR : ∀ σ' t, Made σ g ws wk σ' t → R (.ret (.ptr t 0 0 0)) σ') : W 73 [pvGram g, .list wk (ws.map .str)] σ R := by
  refine callW_fold ?_
  rw [fn73_eq]
  have hmlen := hg.ml
  have hl : (g.1.2.map pvMeta).length = g.1.2.length := by simp
  have h01 : 0 < 5 := by decide
  have hbx : opC.vBoxAny (pvGram g) = some (2, pvGram g) := rfl
  unfold fn73
  rw [hbx, zA]
  have hln : vLen .sl (.list g.1.1 (g.1.2.map pvMeta)) σ = some (.int .i64 (g.1.2.length : Nat)) := by rw [zZ, hl]
  refine ⟨?_, ?_⟩
  · refine bindO_go (a := pvGram g) rfl (bindO_go (a := .list g.1.1 (g.1.2.map pvMeta)) rfl (bindO_go hln ?_))
    rw [newMapW_eq]
    refine bindS_go (mk_nl (by omega)) ?_
    refine bindO_go (a := [pvSl pvMeta g.1, pvSl pvRule g.2, .mref σ.length, .list wk (ws.map .str), .sref (σ ++ [Blk.map 0 []]).length 0 1 0 g.1.2.length]) rfl ?_
    refine bindO_go (a := (5, .agg [pvSl pvMeta g.1, pvSl pvRule g.2, .mref σ.length, .list wk (ws.map .str), .sref (σ ++ [Blk.map 0 []]).length 0 1 0 g.1.2.length])) rfl ?_
    rw [if_pos h01, newW_eq]
    refine rest73_ok hg hck hw (A := (σ ++ [Blk.map 0 []]).length) (ixb := σ.length) (new_get _ _) ?_ (pre_app ⟨_, rfl⟩ _) (by simp) (Nat.le_refl _) hR
    rw [List.getElem?_append_left (by simp)]; exact new_get _ _
  · refine bindO_go (a := pvGram g) rfl (bindO_go (a := .list g.1.1 (g.1.2.map pvMeta)) rfl (bindO_go hln ?_))
    refine bindS_go (mk_nl (by omega)) ?_
    rw [newMapW_eq]
    refine bindO_go (a := [pvSl pvMeta g.1, pvSl pvRule g.2, .mref (σ ++ [Blk.arr 0 1 (List.replicate g.1.2.length (.list .nil []))]).length, .list wk (ws.map .str), .sref σ.length 0 1 0 g.1.2.length]) rfl ?_
    refine bindO_go (a := (5, .agg [pvSl pvMeta g.1, pvSl pvRule g.2, .mref (σ ++ [Blk.arr 0 1 (List.replicate g.1.2.length (.list .nil []))]).length, .list wk (ws.map .str), .sref σ.length 0 1 0 g.1.2.length])) rfl ?_
    rw [if_pos h01, newW_eq]
    refine rest73_ok hg hck hw (A := σ.length) (ixb := (σ ++ [Blk.arr 0 1 (List.replicate g.1.2.length (.list .nil []))]).length) ?_ (new_get _ _) (pre_app ⟨_, rfl⟩ _) (Nat.le_refl _) (by simp) hR
    rw [List.getElem?_append_left (by simp)]; exact new_get _ _

end Go.Proofs.YtiniifbmeobmgaaGreatDoor

/- The package's Produces. -/
set_option linter.unusedVariables false
set_option linter.unusedSimpArgs false
namespace Go.Proofs.YtiniifbmeobmgaaGreatDoor
open Go Go.Abs

theorem hb72 : hasBody 72 = true := by kernel_rfl

theorem c72 {m : Meta19} {n : Str} {σ : St} {b : Nat} (hb : σ[b]? = some (.arr 0 1 [.str n])) : Ret W 72 [pvMeta m, .ptr b 0 0 0] σ (.bool (m.1 == n)) := by
  refine ret_of fun R hR => ?_
  rw [fn72_eq]
  unfold fn72
  have hbox : opC.vBoxAny (pvMeta m) = some (2, pvMeta m) := rfl
  have h0 : vPart false 1 (pvMeta m) 0 = some (.str m.1) := rfl
  have hld : vLoad false 1 (.ptr b 0 0 0) σ = some (.str n) := by simp [vLoad, hb, vPart, PV.cells?]
  simp only [hbox, h0, hld, zz, Nat.reduceEqDiff]
  exact weakW_keep hR

noncomputable abbrev derG (g : Gram) (ws : List Str) (m i j : Nat) : Bool := derB g.1.2.length (altsG g) (ixN (names g)) ws m i j

/-- What Produces answers. -/
noncomputable def prodG (g : Gram) (n s : Str) : Bool × Int :=
  if checkG g = 0 then
    if (names g).contains n = false then (false, 4)
    else if wordsOk s = false then (false, 2)
    else if 200 < (wordsL s).length then (false, 3)
    else (derG g (wordsL s) (ixN (names g) n) 0 (wordsL s).length, 0)
  else (false, checkG g)

theorem wordsPV_list (s : Str) : ∃ k, wordsPV s = .list k ((wordsL s).map .str) := by
  unfold wordsPV wordsL
  split
  · exact ⟨_, rfl⟩
  · exact ⟨_, rfl⟩

theorem pre_of {σ σ' : St} (h : ∀ c < σ.length, σ'[c]? = σ[c]?) : σ <+: σ' := by
  refine List.prefix_iff_eq_take.2 (List.ext_getElem? fun c => ?_)
  rw [List.getElem?_take]
  by_cases hc : c < σ.length
  · rw [if_pos hc, h c hc]
  · rw [if_neg hc, List.getElem?_eq_none (by omega)]

theorem frz_two (σ : St) (n : Nat) (b : Bool) (e : Int) : Frz σ n (.tuple [.bool b, .int .i64 e]) (.tuple [.bool b, .int .i64 e]) := .base _ (.tuple _ fun i x h => by
  match i with
  | 0 => simp at h; subst h; exact .bool _
  | 1 => simp at h; subst h; exact .int _ _
  | i + 2 => simp at h)

theorem c18 {g : Gram} (hg : OkGram g) {n s : Str} (hs : s.length ≤ 1048576) (σ : St) : Ret W 18 [pvGram g, .str n, .str s] σ (.tuple [.bool (prodG g n s).1, .int .i64 (prodG g n s).2]) := by
  refine ret_of fun R hR => ?_
  rw [fn18_eq]
  unfold fn18
  have hbox : opC.vBoxAny (pvGram g) = some (2, pvGram g) := rfl
  have hbox1 : opC.vBoxAny (.str n) = some (1, .str n) := rfl
  have hpt : vPart true 2 (pvGram g) 0 = some (pvGram g) := rfl
  have hp0 : vPart false 1 (pvGram g) 0 = some (.list g.1.1 (g.1.2.map pvMeta)) := rfl
  have h01 : 0 < 1 := by decide
  have fin : ∀ (b : Bool) (e : Int) (σ' : St), σ <+: σ' → prodG g n s = (b, e) → weakW σ (.tuple [.bool b, .int .i64 e]) σ' fun v σ => R (.ret v) σ := fun b e σ' hp he => weakW_clean hp (frz_two _ _ _ _) (by rw [he] at hR; exact hR)
  have hmlen := hg.ml
  simp only [hbox, hbox1, h01, newW_eq, hpt, zz, Nat.reduceEqDiff]
  have hp1 : σ <+: σ ++ [Blk.arr 0 1 [.str n]] := ⟨_, rfl⟩
  have hq : (σ ++ [Blk.arr 0 1 [.str n]])[σ.length]? = some (.arr 0 1 [.str n]) := new_get _ _
  generalize (σ ++ [Blk.arr 0 1 [.str n]]) = σ1 at hp1 hq ⊢
  generalize σ.length = q at hq ⊢
  refine (c15 hg σ1).callB ?_
  simp only [zz, Nat.reduceEqDiff]
  cases hc : (checkG g != 0) with
  | true =>
    simp only [zz, Nat.reduceEqDiff]
    have hc' : ¬ checkG g = 0 := by simpa using hc
    exact fin false _ _ hp1 (by unfold prodG; rw [if_neg hc'])
  | false =>
  have hc' : checkG g = 0 := by simpa using hc
  have hpr : prodG g n s = if (names g).contains n = false then (false, 4) else if wordsOk s = false then (false, 2) else if 200 < (wordsL s).length then (false, 3) else (derG g (wordsL s) (ixN (names g) n) 0 (wordsL s).length, 0) := by
    unfold prodG
    rw [if_pos hc']
  simp only [zz, Nat.reduceEqDiff]
  refine (c71 (by omega) σ1).callB ?_
  simp only [hp0, zz, Nat.reduceEqDiff]
  refine (c35 encMeta (fun m => m.1 == n) hb72 (Nat.lt_of_le_of_lt hmlen (by decide)) fun m hm => c72 hq).callB ?_
  have hany := any_names g.1.2 n
  rw [hany]
  have hnm : (g.1.2.map (·.1)).contains n = (names g).contains n := rfl
  rw [hnm]
  simp only [zz, Nat.reduceEqDiff]
  cases hk : (names g).contains n with
  | false =>
    simp only [zz, Nat.reduceEqDiff]
    exact fin _ _ _ hp1 (by rw [hpr, hk]; rfl)
  | true =>
  rw [hk] at hpr
  simp only [Bool.true_eq_false, if_false] at hpr
  simp only [zz, Nat.reduceEqDiff]
  cases hok : wordsOk s with
  | false =>
    simp only [zz, Nat.reduceEqDiff]
    exact fin _ _ _ hp1 (by rw [hpr, hok]; rfl)
  | true =>
  rw [hok] at hpr
  simp only [Bool.true_eq_false, if_false] at hpr
  obtain ⟨wk, hwk⟩ := wordsPV_list s
  rw [hwk]
  simp only [List.length_map, zz, Nat.reduceEqDiff]
  by_cases hl : 200 < (wordsL s).length
  · have : decide (((wordsL s).length : Int) > 200) = true := by rw [decide_eq_true_eq]; omega
    simp only [this, zz, Nat.reduceEqDiff]
    exact fin _ _ _ hp1 (by rw [hpr, if_pos hl])
  · have : decide (((wordsL s).length : Int) > 200) = false := by rw [decide_eq_false_iff_not]; omega
    rw [if_neg hl] at hpr
    simp only [this, hpt, zz, Nat.reduceEqDiff]
    refine c73 hg hc' (by omega) fun σ' t hM => ?_
    obtain ⟨⟨A, ixb, bm, bc, T, hH, hRi⟩, hpre⟩ := hM
    have hp2 : σ1 <+: σ' := pre_of hpre
    have hq2 := get_pre hp2 hq
    have hld : vLoad false 1 (.ptr q 0 0 0) σ' = some (.str n) := by simp [vLoad, hq2, vPart, PV.cells?]
    obtain ⟨v, hv⟩ := hH.map
    have hlt : ixN (names g) n < g.1.2.length := by
      have := ixN_lt hk
      simpa [names] using this
    have h0 : 0 ≤ (wordsL s).length := Nat.zero_le _
    have hcell : (wordsL s).length < (wordsL s).length + 1 - 0 := by omega
    have e0 := lookup_ix hv hk
    have e1 := ix_sref (b := A) (q := .i64) hlt
    have e2 := hH.tab.rd0 hlt
    have e3 := ix_sref0 (b := bm (ixN (names g) n)) (q := .i64) (Nat.succ_pos (wordsL s).length)
    have e4 := hH.tab.rd1 hlt h0
    have e5 := ix_sref (b := bc (ixN (names g) n) 0) (q := .i64) hcell
    have e6 := hH.tab.rd2 hlt h0 hcell
    have e7 := hRi 0 (wordsL s).length (Nat.zero_le _) (Nat.le_refl _) _ hlt
    try simp only at e4
    try simp only at e6
    rw [Nat.add_zero, e7] at e6
    simp only [vNil_ptr, hH.ld4, hH.ld2, hld, e0, e1, e2, e3, e4, List.length_map, e5, e6, zz, Nat.reduceEqDiff]
    exact fin _ _ _ (hp1.trans hp2) hpr

end Go.Proofs.YtiniifbmeobmgaaGreatDoor

/- The reference's table. -/
set_option linter.unusedVariables false
set_option linter.unusedSimpArgs false
namespace Go.Proofs.YtiniifbmeobmgaaGreatDoor
open Go Go.Abs

section
variable {σ : St} {A : Nat} {bm : Nat → Nat} {bc : Nat → Nat → Nat} {g : Gram} {ws : List Str} {wk : LK} {T : Tab}

end

end Go.Proofs.YtiniifbmeobmgaaGreatDoor

/- The reference's Produces; the law HyperProduces. -/
set_option linter.unusedVariables false
set_option linter.unusedSimpArgs false
namespace Go.Proofs.YtiniifbmeobmgaaGreatDoor
open Go Go.Abs

end Go.Proofs.YtiniifbmeobmgaaGreatDoor

