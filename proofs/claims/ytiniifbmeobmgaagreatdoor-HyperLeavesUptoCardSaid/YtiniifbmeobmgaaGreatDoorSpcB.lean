/- Means: the program's and the reference's. -/
import Derived.Test.YtiniifbmeobmgaaGreatDoorSpcA
set_option linter.unusedVariables false
set_option linter.unusedSimpArgs false
namespace Go.Proofs.YtiniifbmeobmgaaGreatDoor
open Go Go.Abs

theorem c97 {b : Bind} {p : Part} {σ : St} {c : Nat} (hc : σ[c]? = some (.arr 0 2 [pvPart p])) : Ret W 97 [pvBind b, .ptr c 0 0 0] σ (.bool (b.1 == p.2)) := by
  obtain ⟨n, v⟩ := b
  obtain ⟨m, t⟩ := p
  refine ret_of fun R hR => ?_
  rw [fn97_eq]
  unfold fn97
  have hbox : opC.vBoxAny (.agg [.str n, .str v]) = some (2, .agg [.str n, .str v]) := rfl
  have hld : vLoad false 1 (.ptr c 0 0 1) σ = some (.str t) := by simp [vLoad, hc, pvPart]
  simp only [pvBind, hbox, hld, zz, Nat.reduceEqDiff]
  exact weakW_keep hR

/-- The value of a name. -/
def valueOf (binds : List Bind) (n : Str) : Option Str := (binds.find? fun b => b.1 == n).map (·.2)

/-! ### The reference's words -/

/-- The pieces of a text, from a place on, one begun. -/
theorem splitB_app (c : UInt8) : ∀ (a b : Str), c ∉ a → splitB c (a ++ b) = match splitB c b with
    | x :: xs => (a ++ x) :: xs
    | [] => [a]
  | [], b, h => by
    cases hb : splitB c b with
    | nil => exact absurd hb (splitB_ne c b)
    | cons x xs => simp [hb]
  | d :: a, b, h => by
    have hd : d ≠ c := fun e => h (by simp [e])
    have ih := splitB_app c a b (fun hm => h (by simp [hm]))
    simp only [List.cons_append, splitB]
    rw [if_neg (by simpa using hd), ih]
    cases hb : splitB c b with
    | nil => exact absurd hb (splitB_ne c b)
    | cons x xs => rfl

theorem splitB_end (c : UInt8) (a : Str) (h : c ∉ a) : splitB c a = [a] := by
  have := splitB_app c a [] h
  simpa [splitB] using this

theorem splitB_sep (c : UInt8) (a b : Str) (h : c ∉ a) : splitB c (a ++ c :: b) = a :: splitB c b := by
  rw [splitB_app c a _ h]
  simp [splitB]

end Go.Proofs.YtiniifbmeobmgaaGreatDoor

/- Joining words; the conversion of parts; Means, both. -/
set_option linter.unusedVariables false
set_option linter.unusedSimpArgs false
namespace Go.Proofs.YtiniifbmeobmgaaGreatDoor
open Go Go.Abs

def tot (xs : List Str) : Nat := (xs.map fun x => x.length + 1).sum

theorem tot_app (a b : List Str) : tot (a ++ b) = tot a + tot b := by simp [tot]
theorem tot_one (a : Str) : tot [a] = a.length + 1 := by simp [tot]
theorem len_tot : ∀ xs : List Str, xs.length ≤ tot xs
  | [] => Nat.le_refl _
  | x :: xs => by
    have := len_tot xs
    have h : tot (x :: xs) = x.length + 1 + tot xs := by simp [tot]
    simp only [List.length_cons]
    omega

theorem joinB_len : ∀ xs : List Str, (joinB [32] xs).length ≤ tot xs
  | [] => Nat.zero_le _
  | [x] => by simp [joinB, tot]
  | x :: y :: r => by
    have ih := joinB_len (y :: r)
    rw [joinB]
    · have h : tot (x :: y :: r) = x.length + 1 + tot (y :: r) := by simp [tot]
      simp only [List.length_append, List.length_singleton]
      omega
    · simp

theorem tot_take (xs : List Str) (i : Nat) : tot (xs.take i) ≤ tot xs := by
  have := tot_app (xs.take i) (xs.drop i)
  rw [List.take_append_drop] at this
  omega

theorem listOf_elems {σ : St} {x : PV} {xs : List PV} (h : Elems σ 1 x xs) : listOf x σ = some xs := by
  have := h.elems
  cases h with
  | list => rfl
  | sref => exact this

theorem strs_map (xs : List Str) : strs? (xs.map .str) = some xs := by
  induction xs with
  | nil => rfl
  | cons x xs ih => simp [strs?, ih]

theorem c98 {xs : List Str} (ht : tot xs < 4294967296) {x : PV} {σ : St} (hx : Elems σ 1 x (xs.map .str)) : Ret W 98 [x, .str [32]] σ (.str (joinB [32] xs)) := by
  refine ret_of fun R hR => ?_
  show bindO False (extJoin _ _) _
  have hlen := len_tot xs
  have hj := joinB_len xs
  simp only [extJoin, listOf_elems hx, strs_map]
  rw [if_pos ⟨by omega, by omega⟩]
  exact hR

/-! ### Parts -/

theorem c25 {l : List Part} (hl : l.length < 1048577) {lk : LK} (σ : St) : Ret W 25 [.list lk (l.map pvPart)] σ (growV (l.map pvPart)) := by
  refine ret_of fun R hR => ?_
  rw [fn25_eq]
  unfold fn25
  refine CutW_of ?_
  simp only [List.length_map, zz, Nat.reduceEqDiff]
  refine Lfp_up l.length (fun i x σ' => ∃ v, x = lookP [(3, v), (6, .list lk (l.map pvPart)), (7, .int .i64 l.length), (8, .int .i64 i)] ∧ Grow σ.length 2 σ' v ((l.take i).map pvPart) ∧ σ <+: σ') ?_ ⟨_, rfl, .nil _ _ _, List.prefix_rfl⟩
  rintro Φ i x σ' hi ⟨v, rfl, hg, hp⟩ next
  simp only [zz, Nat.reduceEqDiff]
  by_cases hlt : i < l.length
  · have hc : l[i]? = some l[i] := by simp [hlt]
    generalize l[i] = p at hc
    have hput : vPut 2 (.agg [.bool false, .str []]) 0 (pvPart p) = some (pvPart p) := rfl
    have htk : (l.take (i + 1)).map pvPart = (l.take i).map pvPart ++ [pvPart p] := by rw [List.take_add_one, hc]; simp
    simp only [hlt, encPart.index hc, encPart.part, hput, vBuildSl_one (sizedPart p), zz, Nat.reduceEqDiff]
    obtain ⟨v', σ'', e1, e2, e3, _⟩ := hg.app (by_ := 24) (y := .list .full [pvPart p]) hp rfl (by simpa using sizedPart p) (by simp; omega)
    rw [e1, vBin_add _ (by omega) (by omega)]
    exact next _ _ hlt ⟨v', by simp, by rw [htk]; exact e2, e3⟩
  · obtain rfl : i = l.length := by omega
    rw [List.take_length] at hg
    simp only [hlt, zz, Nat.reduceEqDiff]
    exact weakW_clean hp (hg.frz fun y hy => by
      obtain ⟨p, _, rfl⟩ := List.mem_map.1 hy
      exact .base _ (underPart _ p)) hR

/-! ### Means -/

/-- The words of parts: or the first error. -/
def meansGo (binds : List Bind) : List Part → List Str → List Str ⊕ Int
  | [], acc => .inl acc
  | p :: l, acc => if p.1 then (match valueOf binds p.2 with
      | none => .inr 4
      | some v => if wordsOk v then meansGo binds l (acc ++ wordsL v) else .inr 2)
    else meansGo binds l (acc ++ [p.2])

def meansEnd : List Str ⊕ Int → Str × Int
  | .inl ws => (joinB [32] ws, 0)
  | .inr e => ([], e)

def means (l : List Part) (binds : List Bind) : Str × Int := if l.any (badPart true) then ([], 8) else meansEnd (meansGo binds l [])

theorem splitB_tot (c : UInt8) : ∀ s : Str, tot (splitB c s) = s.length + 1
  | [] => rfl
  | b :: l => by
    have ih := splitB_tot c l
    simp only [splitB]
    split
    · have : tot ([] :: splitB c l) = 1 + tot (splitB c l) := by simp [tot]
      rw [this, ih]
      simp
      omega
    · split
      · rename_i x xs hx
        rw [hx] at ih
        have h1 : tot ((b :: x) :: xs) = x.length + 1 + 1 + tot xs := by simp [tot]
        have h2 : tot (x :: xs) = x.length + 1 + tot xs := by simp [tot]
        simp
        omega
      · rename_i hx
        exact absurd hx (splitB_ne c l)

theorem wordsL_tot (s : Str) : tot (wordsL s) ≤ s.length + 1 := by
  unfold wordsL
  split
  · simp [tot]
  · rw [splitB_tot]
    exact Nat.le_refl _

theorem idxOf_find {α : Type} {p : α → Bool} : ∀ (l : List α) (n : Nat), (l.find? p = none ∧ idxOf p l n = -1) ∨ ∃ i a, l[i]? = some a ∧ l.find? p = some a ∧ idxOf p l n = ((n + i : Nat) : Int)
  | [], n => .inl ⟨rfl, rfl⟩
  | b :: l, n => by
    by_cases hb : p b = true
    · exact .inr ⟨0, b, rfl, by simp [hb], by simp [idxOf, hb]⟩
    · rcases idxOf_find (p := p) l (n + 1) with ⟨h1, h2⟩ | ⟨i, a, h1, h2, h3⟩
      · exact .inl ⟨by rw [List.find?_cons]; simp only [hb]; exact h1, by simp [idxOf, hb, h2]⟩
      · exact .inr ⟨i + 1, a, by simpa using h1, by rw [List.find?_cons]; simp only [hb]; exact h2, by simp [idxOf, hb, h3]; omega⟩

theorem meansGo_drop {binds : List Bind} {l : List Part} {i : Nat} {p : Part} (h : l[i]? = some p) (acc : List Str) : meansGo binds (l.drop i) acc = meansGo binds (p :: l.drop (i + 1)) acc := by
  rw [List.drop_eq_getElem_cons (List.getElem?_eq_some_iff.1 h).1, (List.getElem?_eq_some_iff.1 h).2]

theorem frz_pair (σ : St) (n : Nat) (s : Str) (e : Int) : Frz σ n (.tuple [.str s, .int .i64 e]) (.tuple [.str s, .int .i64 e]) := .base _ (.tuple _ fun i x h => by
  match i with
  | 0 => simp at h; subst h; exact .str _
  | 1 => simp at h; subst h; exact .int _ _
  | i + 2 => simp at h)

theorem c30 {l : List Part} {binds : List Bind} (hl : l.length ≤ 10) (hb : binds.length ≤ 1048576) (hs : ∀ p ∈ l, p.2.length ≤ 1048576) (hbs : ∀ b ∈ binds, b.2.length ≤ 1048576) {lk lk' : LK} (σ : St) :
    Ret W 30 [.list lk (l.map pvPart), .list lk' (binds.map pvBind)] σ (.tuple [.str (means l binds).1, .int .i64 (means l binds).2]) := by
  refine ret_of fun R hR => ?_
  rw [fn30_eq]
  unfold fn30
  refine (c59 (by omega) (fun p hp => Nat.lt_of_le_of_lt (hs p hp) (by decide))).callB ?_
  cases hbad : l.any (badPart true) with
  | true =>
    simp only [zz, Nat.reduceEqDiff]
    refine weakW_keep ?_
    simpa [means, hbad] using hR
  | false =>
    have hm : means l binds = meansEnd (meansGo binds l []) := by simp [means, hbad]
    simp only [List.length_map, zz, Nat.reduceEqDiff]
    refine Lfp_up l.length (fun i x σ' => ∃ (v : PV) (ys : List Str), x = lookP [(1, .list lk' (binds.map pvBind)), (6, v), (15, .list lk (l.map pvPart)), (16, .int .i64 l.length), (17, .int .i64 i)] ∧ Grow σ.length 1 σ' v (ys.map .str) ∧ σ <+: σ' ∧ tot ys ≤ i * 1048577 ∧
        meansGo binds l [] = meansGo binds (l.drop i) ys) ?_ ⟨.list .nil [], [], rfl, .nil _ _ _, List.prefix_rfl, Nat.zero_le _, rfl⟩
    rintro Φ i x σ' hi ⟨v, ys, rfl, hg, hp, htot, hgo⟩ next
    have hylen := len_tot ys
    simp only [zz, Nat.reduceEqDiff]
    by_cases hlt : i < l.length
    · have hc : l[i]? = some l[i] := by simp [hlt]
      have hmem : l[i] ∈ l := by simp
      generalize l[i] = p at hc hmem
      have hsp := hs p hmem
      rw [meansGo_drop hc] at hgo
      have e0 : vStore 2 (.ptr σ'.length 0 0 0) (pvPart p) (σ' ++ [.arr 0 2 [.agg [.bool false, .str []]]]) = some (σ' ++ [.arr 0 2 [pvPart p]]) := new_store rfl rfl rfl rfl
      have g0 := new_get σ' (.arr 0 2 [pvPart p])
      have hg1 : Grow σ.length 1 (σ' ++ [.arr 0 2 [pvPart p]]) v (ys.map .str) := by
        rcases hg with h | ⟨b, g, h1, h2, h3, h4⟩
        · exact .inl h
        · exact .inr ⟨b, g, h1, h2, by rw [List.getElem?_append_left (List.getElem?_eq_some_iff.1 h3).1]; exact h3, h4⟩
      have hp1 : σ <+: σ' ++ [.arr 0 2 [pvPart p]] := pre_app hp _
      have l0 : vLoad false 1 (.ptr σ'.length 0 0 0) (σ' ++ [.arr 0 2 [pvPart p]]) = some (.bool p.1) := by simp [vLoad, pvPart]
      have l1 : vLoad false 1 (.ptr σ'.length 0 0 1) (σ' ++ [.arr 0 2 [pvPart p]]) = some (.str p.2) := by simp [vLoad, pvPart]
      simp only [hlt, encPart.index hc, encPart.part, newW_eq, e0, l0, l1, zz, Nat.reduceEqDiff]
      generalize σ' ++ [.arr 0 2 [pvPart p]] = σ1 at hg1 hp1 l0 l1 g0
      obtain ⟨m, t⟩ := p
      cases m with
      | false =>
        simp only [vBuildSl_one (sizedStr _), zz, Nat.reduceEqDiff]
        obtain ⟨v', σ'', e1, e2, e3, _⟩ := hg1.app (by_ := 16) (y := .list .full [.str t]) hp1 rfl (by simpa using sizedStr _) (by simp; omega)
        rw [e1, vBin_add _ (by omega) (by omega)]
        refine next _ _ hlt ⟨v', ys ++ [t], by simp, by simpa using e2, e3, ?_, ?_⟩
        · rw [tot_app, tot_one]
          have hsp : t.length ≤ 1048576 := hsp
          omega
        · rw [hgo]
          simp [meansGo]
      | true =>
        simp only [zz, Nat.reduceEqDiff]
        refine (c96 encBind (fun b => b.1 == t) hb97 (by omega) fun b hb' => c97 (p := (true, t)) g0).callB ?_
        rcases idxOf_find (p := fun b : Bind => b.1 == t) binds 0 with ⟨f1, f2⟩ | ⟨j, b, f0, f1, f2⟩
        · rw [f2]
          have : valueOf binds t = none := by simp [valueOf, f1]
          simp only [meansGo, this, if_true] at hgo
          rw [hm, hgo] at hR
          simp only [show decide ((-1 : Int) < 0) = true from rfl, zz, Nat.reduceEqDiff]
          exact weakW_clean hp1 (frz_pair _ _ _ _) hR
        · rw [f2]
          have hv : valueOf binds t = some b.2 := by simp [valueOf, f1]
          have hneg : decide (((0 + j : Nat) : Int) < 0) = false := by rw [decide_eq_false_iff_not]; omega
          have hbm : b ∈ binds := List.mem_of_getElem? f0
          simp only [meansGo, hv, if_true] at hgo
          simp only [hneg, Nat.zero_add, encBind.index f0, zz, Nat.reduceEqDiff]
          simp only [pvBind, zz, Nat.reduceEqDiff]
          refine (c71 (by have := hbs b hbm; omega) _).callB ?_
          simp only [zz, Nat.reduceEqDiff]
          cases hok : wordsOk b.2 with
          | false =>
            rw [hok] at hgo
            simp only [Bool.false_eq_true, if_false] at hgo
            rw [hm, hgo] at hR
            simp only [zz, Nat.reduceEqDiff]
            exact weakW_clean hp1 (frz_pair _ _ _ _) hR
          | true =>
            rw [hok] at hgo
            simp only [if_true] at hgo
            have hw1 : vElems (wordsPV b.2) σ1 = some ((wordsL b.2).map .str) := by
              unfold wordsPV wordsL
              split <;> rfl
            have hw2 := wordsL_tot b.2
            have hw3 := len_tot (wordsL b.2)
            have hw4 := hbs b hbm
            obtain ⟨v', σ'', e1, e2, e3, _⟩ := hg1.app (by_ := 16) hp1 hw1 (fun z hz => by
              obtain ⟨t, _, rfl⟩ := List.mem_map.1 hz
              exact sizedStr t) (by simp; omega)
            simp only [e1, zz, Nat.reduceEqDiff]
            rw [vBin_add _ (by omega) (by omega)]
            refine next _ _ hlt ⟨v', ys ++ wordsL b.2, by simp, by simpa using e2, e3, ?_, hgo⟩
            rw [tot_app]
            omega
    · obtain rfl : i = l.length := by omega
      rw [List.drop_length] at hgo
      simp only [hlt, zz, Nat.reduceEqDiff]
      refine (c98 (by omega) hg.elems).callB ?_
      rw [hm, hgo] at hR
      simp only [meansGo, meansEnd] at hR
      exact weakW_clean hp (frz_pair _ _ _ _) hR

end Go.Proofs.YtiniifbmeobmgaaGreatDoor

/- The reference's Means; the law HyperMeans. -/
set_option linter.unusedVariables false
set_option linter.unusedSimpArgs false
namespace Go.Proofs.YtiniifbmeobmgaaGreatDoor
open Go Go.Abs

end Go.Proofs.YtiniifbmeobmgaaGreatDoor

