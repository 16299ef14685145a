/- Means: the program's and the reference's. -/
import Derived.Test.YtiniifbmeobmgaaGreatDoorSpcA
set_option linter.unusedVariables false
set_option linter.unusedSimpArgs false
namespace Go.Proofs.YtiniifbmeobmgaaGreatDoor
open Go Go.Abs

theorem c97 {b : Bind} {p : Part} {σ : St} {c : Nat} (hc : σ[c]? = some (.arr 0 2 [pvPart p])) : Ret W 97 [pvBind b, .ptr c 0 0 0] σ (.bool (b.1 == p.2)) := by
  obtain ⟨n, v⟩ := b
  obtain ⟨m, t⟩ := p
  refine ret_of fun R hR => ?_
  rw [fn97_eq]
  unfold fn97
  have hbox : opC.vBoxAny (.agg [.str n, .str v]) = some (2, .agg [.str n, .str v]) := rfl
  have hld : vLoad false 1 (.ptr c 0 0 1) σ = some (.str t) := by simp [vLoad, hc, pvPart]
  simp only [pvBind, hbox, hld, zz, Nat.reduceEqDiff]
  exact weakW_keep hR

/-- The value of a name. -/
def valueOf (binds : List Bind) (n : Str) : Option Str := (binds.find? fun b => b.1 == n).map (·.2)

theorem find_take {α : Type} {p : α → Bool} {l : List α} {i : Nat} {a : α} (h : l[i]? = some a) (hp : p a = true) (hn : (l.take i).all (fun a => !p a) = true) : l.find? p = some a := by
  have : l = l.take i ++ a :: l.drop (i + 1) := by
    have h1 := List.take_append_drop i l
    have h2 : l.drop i = a :: l.drop (i + 1) := by
      rw [List.drop_eq_getElem_cons (List.getElem?_eq_some_iff.1 h).1, (List.getElem?_eq_some_iff.1 h).2]
    rw [h2] at h1
    exact h1.symm
  rw [this, List.find?_append, List.find?_eq_none.2, Option.none_or, List.find?_cons, hp]
  intro x hx
  have := List.all_eq_true.1 hn x hx
  simpa using this

theorem find_none {α : Type} {p : α → Bool} {l : List α} (hn : l.all (fun a => !p a) = true) : l.find? p = none := by
  rw [List.find?_eq_none]
  intro x hx
  have := List.all_eq_true.1 hn x hx
  simpa using this

theorem c99 {binds : List Bind} (hl : binds.length < 4611686018427387904) {x : PV} {n : Str} {σ : St} (hx : Elems σ 2 x (binds.map pvBind)) :
    Ret W 99 [x, .str n] σ (match valueOf binds n with
      | some v => .tuple [.str v, .bool true]
      | none => .tuple [.str [], .bool false]) := by
  refine ret_of fun R hR => ?_
  rw [fn99_eq]
  unfold fn99
  refine CutW_of ?_
  refine Lfp_up binds.length (fun i y σ' => y = lookP [(0, x), (1, .str n), (6, .int .i64 i)] ∧ σ' = σ ∧ (binds.take i).all (fun b => !(b.1 == n)) = true) ?_ ⟨rfl, rfl, rfl⟩
  rintro Φ i y σ' hi ⟨rfl, rfl, hp⟩ next
  simp only [hx.len, List.length_map, zz, Nat.reduceEqDiff]
  by_cases hlt : i < binds.length
  · have hc : binds[i]? = some binds[i] := by simp [hlt]
    generalize binds[i] = b at hc
    obtain ⟨q, q1, q2, q3⟩ := hx.at_ (i := i) (k := .i64) (by rw [List.getElem?_map, hc]; rfl) (show (pvBind b).cells? = some _ from rfl) rfl
    obtain ⟨r0, r1, r2⟩ := q3 0
    obtain ⟨r3, r4, r5⟩ := q3 1
    obtain ⟨m, v⟩ := b
    simp only [hlt, q1, r1, r2, r4, r5, pvBind, zz, Nat.reduceEqDiff]
    cases hm : (m == n) with
    | true =>
      simp only [zz, Nat.reduceEqDiff]
      refine weakW_keep ?_
      have : valueOf binds n = some v := by
        unfold valueOf
        rw [find_take hc hm hp]
        rfl
      rw [this] at hR
      exact hR
    | false =>
      simp only [zz, Nat.reduceEqDiff]
      rw [vBin_add _ (by omega) (by omega)]
      exact next _ _ hlt ⟨by simp, rfl, all_take_succ hp hc (by simp [hm])⟩
  · obtain rfl : i = binds.length := by omega
    rw [List.take_length] at hp
    simp only [hlt, zz, Nat.reduceEqDiff]
    refine weakW_keep ?_
    have : valueOf binds n = none := by
      unfold valueOf
      rw [find_none hp]
      rfl
    rw [this] at hR
    exact hR

/-! ### The reference's words -/

/-- The pieces of a text, from a place on, one begun. -/
theorem splitB_app (c : UInt8) : ∀ (a b : Str), c ∉ a → splitB c (a ++ b) = match splitB c b with
    | x :: xs => (a ++ x) :: xs
    | [] => [a]
  | [], b, h => by
    cases hb : splitB c b with
    | nil => exact absurd hb (splitB_ne c b)
    | cons x xs => simp [hb]
  | d :: a, b, h => by
    have hd : d ≠ c := fun e => h (by simp [e])
    have ih := splitB_app c a b (fun hm => h (by simp [hm]))
    simp only [List.cons_append, splitB]
    rw [if_neg (by simpa using hd), ih]
    cases hb : splitB c b with
    | nil => exact absurd hb (splitB_ne c b)
    | cons x xs => rfl

theorem splitB_end (c : UInt8) (a : Str) (h : c ∉ a) : splitB c a = [a] := by
  have := splitB_app c a [] h
  simpa [splitB] using this

theorem splitB_sep (c : UInt8) (a b : Str) (h : c ∉ a) : splitB c (a ++ c :: b) = a :: splitB c b := by
  rw [splitB_app c a _ h]
  simp [splitB]

theorem c100 {s : Str} (hs : s.length < 4294967281) (σ : St) : Ret W 100 [.str s] σ (.tuple [if wordsOk s then growV ((wordsL s).map .str) else .list .nil [], .bool (wordsOk s)]) := by
  refine ret_of fun R hR => ?_
  rw [fn100_eq]
  unfold fn100
  simp only [zz, Nat.reduceEqDiff]
  cases he : (s == []) with
  | true =>
    simp only [zz, Nat.reduceEqDiff]
    refine weakW_keep ?_
    have : wordsL s = [] := by simp [wordsL, he]
    simpa [wordsOk, this, growV] using hR
  | false =>
    simp only [zz, Nat.reduceEqDiff]
    have hwl : wordsL s = splitB 32 s := by simp [wordsL, he]
    -- what is done, and what is left
    refine CutW_by (fun x σ' => ∃ ys : List Str, Grow σ.length 1 σ' (x 4) (ys.map .str) ∧ σ <+: σ' ∧ wordsL s = ys ∧ wordsOk s = true) ?_ ?_
    · rintro x σ' ⟨ys, hg, hp, hw, hok⟩
      rw [hok, hw] at hR
      refine weakW_clean hp (v' := .tuple [growV (ys.map .str), .bool true]) ?_ hR
      refine .tuple _ _ rfl fun i a b ha hb => ?_
      match i with
      | 0 =>
        simp at ha hb
        subst ha hb
        exact hg.frz fun y hy => by
          obtain ⟨t, _, rfl⟩ := List.mem_map.1 hy
          exact .base _ (.str _)
      | 1 => simp at ha hb; subst ha hb; exact .base _ (.bool _)
      | i + 2 => simp at ha
    · refine Lfp_up (s.length + 1) (fun i x σ' => ∃ (v : PV) (ys : List Str) (from_ : Nat), x = lookP [(0, .str s), (4, v), (5, .int .i64 from_), (6, .int .i64 i)] ∧ Grow σ.length 1 σ' v (ys.map .str) ∧ σ <+: σ' ∧ ys.length ≤ i ∧ ys.all isWord = true ∧
          (i ≤ s.length → from_ ≤ i ∧ (32 : UInt8) ∉ (s.take i).drop from_ ∧ splitB 32 s = ys ++ splitB 32 (s.drop from_)) ∧ (i = s.length + 1 → splitB 32 s = ys)) ?_ ⟨.list .nil [], [], 0, rfl, .nil _ _ _, List.prefix_rfl, Nat.zero_le _, rfl, fun _ => ⟨Nat.le_refl _, by simp, rfl⟩, fun h => by omega⟩
      rintro Φ i x σ' hi ⟨v, ys, from_, rfl, hg, hp, hyl, hok, h1, h2⟩ next
      simp only [zz, Nat.reduceEqDiff]
      by_cases hlt : (i : Int) ≤ (s.length : Int)
      · have hle : i ≤ s.length := by omega
        obtain ⟨hf, hno, hsp⟩ := h1 hle
        simp only [hlt, zz, Nat.reduceEqDiff]
        refine CutW_by (fun x σ'' => ∃ (v : PV) (ys : List Str) (from_ : Nat), x = lookP [(0, .str s), (4, v), (5, .int .i64 from_), (6, .int .i64 i)] ∧ Grow σ.length 1 σ'' v (ys.map .str) ∧ σ <+: σ'' ∧ ys.length ≤ i + 1 ∧ ys.all isWord = true ∧
          (i + 1 ≤ s.length → from_ ≤ i + 1 ∧ (32 : UInt8) ∉ (s.take (i + 1)).drop from_ ∧ splitB 32 s = ys ++ splitB 32 (s.drop from_)) ∧ (i = s.length → splitB 32 s = ys)) ?_ ?_
        · rintro x σ'' ⟨v, ys, from_, rfl, hg, hp, hyl, hok, h1, h2⟩
          simp only [zz, Nat.reduceEqDiff]
          rw [vBin_add _ (by omega) (by omega)]
          exact next _ _ (by omega) ⟨v, ys, from_, by simp, hg, hp, hyl, hok, h1, fun h => h2 (by omega)⟩
        · have sub : vSubStr (.str s) (some (.int .i64 from_)) (some (.int .i64 i)) = some (.str ((s.take i).drop from_)) := by
            simp [vSubStr, bound, hf, hle]
          -- a word ends here
          have ends : (i = s.length ∨ s[i]? = some 32) → bindO False (vSubStr (.str s) (some (.int .i64 from_)) (some (.int .i64 i))) (fun v20 =>
              callB W 130 [v20] σ' (fun v21 σ22 =>
              bindO False (vUn .not v21) fun v23 =>
              condW v23 (
              weakW σ (.tuple [(.list .nil []), (.bool false)]) σ22 fun v σ => R (.ret v) σ) (
              bindO False (vSubStr (.str s) (some (.int .i64 from_)) (some (.int .i64 i))) fun v24 =>
              bindO False (vBuildSl 1 (List.replicate 1 (.str [])) [(0, v24)]) fun v25 =>
              bindS (vAppend 1 16 v (.list .full v25) σ22) fun v26 σ27 =>
              bindO False (vBin none .add (.int .i64 i) (.int .i64 1)) fun v28 =>
              (fun x σ'' => ∃ (v : PV) (ys : List Str) (from_ : Nat), x = lookP [(0, .str s), (4, v), (5, .int .i64 from_), (6, .int .i64 i)] ∧ Grow σ.length 1 σ'' v (ys.map .str) ∧ σ <+: σ'' ∧ ys.length ≤ i + 1 ∧ ys.all isWord = true ∧
                (i + 1 ≤ s.length → from_ ≤ i + 1 ∧ (32 : UInt8) ∉ (s.take (i + 1)).drop from_ ∧ splitB 32 s = ys ++ splitB 32 (s.drop from_)) ∧ (i = s.length → splitB 32 s = ys)) (lookP [(0, .str s), (4, v26), (5, v28), (6, .int .i64 i)]) σ27)) (fun e29 σ30 => R (.pan e29) σ30)) := by
            intro hend
            have hpiece : splitB 32 s = ys ++ (s.take i).drop from_ :: (if i = s.length then [] else splitB 32 (s.drop (i + 1))) := by
              rw [hsp]
              congr 1
              have hdrop : s.drop from_ = (s.take i).drop from_ ++ s.drop i := by
                conv => lhs; rw [← List.take_append_drop i s]
                rw [List.drop_append_of_le_length (by simp; omega)]
              rcases hend with rfl | hc
              · rw [if_pos rfl, List.take_length]
                rw [List.take_length] at hno
                exact splitB_end _ _ hno
              · have hil : i < s.length := (List.getElem?_eq_some_iff.1 hc).1
                rw [if_neg (by omega), hdrop]
                rw [List.drop_eq_getElem_cons hil, (List.getElem?_eq_some_iff.1 hc).2]
                exact splitB_sep _ _ _ hno
            have hwlen : ((s.take i).drop from_).length < 4611686018427387904 := by simp; omega
            rw [sub]
            simp only [zz, Nat.reduceEqDiff]
            refine (c130 hwlen _).callB ?_
            cases hw : isWord ((s.take i).drop from_) with
            | false =>
              simp only [zz, Nat.reduceEqDiff]
              have : wordsOk s = false := by
                simp [wordsOk, hwl, hpiece, hw]
              rw [this] at hR
              refine weakW_clean hp (v' := .tuple [.list .nil [], .bool false]) ?_ hR
              refine .tuple _ _ rfl fun i a b ha hb => ?_
              match i with
              | 0 => simp at ha hb; subst ha hb; exact .list _ _ _ rfl (by simp)
              | 1 => simp at ha hb; subst ha hb; exact .base _ (.bool _)
              | i + 2 => simp at ha
            | true =>
              simp only [vBuildSl_one (sizedStr _), zz, Nat.reduceEqDiff]
              obtain ⟨v', σ'', e1, e2, e3, _⟩ := hg.app (by_ := 16) (y := .list .full [.str ((s.take i).drop from_)]) hp rfl (by simpa using sizedStr _) (by simp; omega)
              rw [e1, vBin_add _ (by omega) (by omega)]
              simp only [zz, Nat.reduceEqDiff]
              refine ⟨v', ys ++ [(s.take i).drop from_], i + 1, by simp, by simpa using e2, e3, by simp; omega, by simp [hok, hw], fun hlt => ⟨Nat.le_refl _, by simp, ?_⟩, fun h => ?_⟩
              · rw [hpiece, if_neg (by omega)]
                simp
              · rw [hpiece, if_pos h]
          by_cases hi' : i = s.length
          · have hb : ((i : Int) == (s.length : Int)) = true := by simp [hi']
            simp only [hb, zz, Nat.reduceEqDiff]
            exact ends (.inl hi')
          · have hb : ((i : Int) == (s.length : Int)) = false := by simp; omega
            have hil : i < s.length := by omega
            have hc : s[i]? = some s[i] := by simp [hil]
            simp only [hb, vStrAt_nat _ hc, zz, Nat.reduceEqDiff]
            by_cases h32 : s[i] = 32
            · have hb2 : (((s[i]).toNat : Int) == 32) = true := by rw [h32]; rfl
              simp only [hb2, zz, Nat.reduceEqDiff]
              exact ends (.inr (by rw [hc, h32]))
            · have hb2 : (((s[i]).toNat : Int) == 32) = false := by
                rw [beq_eq_false_iff_ne]
                intro h
                apply h32
                apply UInt8.toNat_inj.1
                have : s[i].toNat = 32 := by omega
                exact this
              simp only [hb2, zz, Nat.reduceEqDiff]
              refine ⟨v, ys, from_, rfl, hg, hp, by omega, hok, fun _ => ⟨by omega, ?_, hsp⟩, fun h => absurd h hi'⟩
              rw [List.take_add_one, hc, List.drop_append_of_le_length (by simp; omega)]
              simp only [Option.toList_some, List.mem_append, List.mem_singleton, not_or]
              exact ⟨hno, fun h => h32 h.symm⟩
      · obtain rfl : i = s.length + 1 := by omega
        simp only [hlt, zz, Nat.reduceEqDiff]
        have hsp := h2 rfl
        exact ⟨ys, hg, hp, by rw [hwl, hsp], by simp [wordsOk, hwl, hsp, hok]⟩

end Go.Proofs.YtiniifbmeobmgaaGreatDoor

/- Joining words; the conversion of parts; Means, both. -/
set_option linter.unusedVariables false
set_option linter.unusedSimpArgs false
namespace Go.Proofs.YtiniifbmeobmgaaGreatDoor
open Go Go.Abs

def tot (xs : List Str) : Nat := (xs.map fun x => x.length + 1).sum

theorem tot_app (a b : List Str) : tot (a ++ b) = tot a + tot b := by simp [tot]
theorem tot_one (a : Str) : tot [a] = a.length + 1 := by simp [tot]
theorem len_tot : ∀ xs : List Str, xs.length ≤ tot xs
  | [] => Nat.le_refl _
  | x :: xs => by
    have := len_tot xs
    have h : tot (x :: xs) = x.length + 1 + tot xs := by simp [tot]
    simp only [List.length_cons]
    omega

theorem joinB_snoc (sep : Str) : ∀ (ys : List Str) (y : Str), joinB sep (ys ++ [y]) = if ys.isEmpty then y else joinB sep ys ++ sep ++ y
  | [], y => rfl
  | [a], y => by simp [joinB]
  | a :: b :: ys, y => by
    have ih := joinB_snoc sep (b :: ys) y
    simp only [List.isEmpty_cons, Bool.false_eq_true, if_false] at ih ⊢
    show joinB sep (a :: b :: (ys ++ [y])) = _
    rw [joinB]
    · show a ++ sep ++ joinB sep ((b :: ys) ++ [y]) = _
      rw [ih]
      simp [joinB]
    · simp

theorem joinB_len : ∀ xs : List Str, (joinB [32] xs).length ≤ tot xs
  | [] => Nat.zero_le _
  | [x] => by simp [joinB, tot]
  | x :: y :: r => by
    have ih := joinB_len (y :: r)
    rw [joinB]
    · have h : tot (x :: y :: r) = x.length + 1 + tot (y :: r) := by simp [tot]
      simp only [List.length_append, List.length_singleton]
      omega
    · simp

theorem tot_take (xs : List Str) (i : Nat) : tot (xs.take i) ≤ tot xs := by
  have := tot_app (xs.take i) (xs.drop i)
  rw [List.take_append_drop] at this
  omega

theorem c101 {xs : List Str} (ht : tot xs < 4294967296) {x : PV} {σ : St} (hx : Elems σ 1 x (xs.map .str)) : Ret W 101 [x] σ (.str (joinB [32] xs)) := by
  refine ret_of fun R hR => ?_
  rw [fn101_eq]
  unfold fn101
  have hlen := len_tot xs
  refine CutW_of ?_
  refine Lfp_up xs.length (fun i y σ' => y = lookP [(0, x), (3, .str (joinB [32] (xs.take i))), (4, .int .i64 i)] ∧ σ' = σ) ?_ ⟨rfl, rfl⟩
  rintro Φ i y σ' hi ⟨rfl, rfl⟩ next
  simp only [hx.len, List.length_map, zz, Nat.reduceEqDiff]
  by_cases hlt : i < xs.length
  · have hc : xs[i]? = some xs[i] := by simp [hlt]
    have hmem : xs[i] ∈ xs := by simp
    obtain ⟨q, q1, q2, q3⟩ := hx.at_ (i := i) (k := .i64) (by rw [List.getElem?_map, hc]; rfl) (show (PV.str xs[i]).cells? = some _ from rfl) rfl
    have htk : xs.take (i + 1) = xs.take i ++ [xs[i]] := by rw [List.take_add_one, hc]; rfl
    have hj := joinB_snoc [32] (xs.take i) xs[i]
    rw [← htk] at hj
    have b1 := joinB_len (xs.take i)
    have b2 := tot_take xs i
    have b3 := tot_take xs (i + 1)
    rw [htk, tot_app, tot_one] at b3
    simp only [hlt, zz, Nat.reduceEqDiff]
    refine CutW_of (CutW_of ?_)
    have hemp : (xs.take i).isEmpty = decide (i = 0) := by
      cases xs with
      | nil => simp at hlt
      | cons a l => cases i <;> simp
    by_cases h0 : (i : Int) > 0
    · have h0' : ¬ i = 0 := by omega
      rw [hemp] at hj
      simp only [h0', decide_false, Bool.false_eq_true, if_false] at hj
      simp only [h0, zz, Nat.reduceEqDiff]
      rw [vBin_add_str _ (by simp; omega)]
      simp only [q1, q2, zz, Nat.reduceEqDiff]
      rw [vBin_add_str _ (by simp; omega)]
      simp only [zz, Nat.reduceEqDiff]
      rw [vBin_add _ (by omega) (by omega)]
      exact next _ _ hlt ⟨by simp [hj], rfl⟩
    · obtain rfl : i = 0 := by omega
      simp only [h0, q1, q2, zz, Nat.reduceEqDiff]
      rw [vBin_add_str _ (by simp [joinB]; omega)]
      simp only [zz, Nat.reduceEqDiff]
      rw [vBin_add _ (by omega) (by omega)]
      refine next _ _ hlt ⟨?_, rfl⟩
      rw [hj]
      simp [joinB]
  · obtain rfl : i = xs.length := by omega
    simp only [hlt, List.take_length, zz, Nat.reduceEqDiff]
    exact weakW_keep hR

theorem listOf_elems {σ : St} {x : PV} {xs : List PV} (h : Elems σ 1 x xs) : listOf x σ = some xs := by
  have := h.elems
  cases h with
  | list => rfl
  | sref => exact this

theorem strs_map (xs : List Str) : strs? (xs.map .str) = some xs := by
  induction xs with
  | nil => rfl
  | cons x xs ih => simp [strs?, ih]

theorem c98 {xs : List Str} (ht : tot xs < 4294967296) {x : PV} {σ : St} (hx : Elems σ 1 x (xs.map .str)) : Ret W 98 [x, .str [32]] σ (.str (joinB [32] xs)) := by
  refine ret_of fun R hR => ?_
  show bindO False (extJoin _ _) _
  have hlen := len_tot xs
  have hj := joinB_len xs
  simp only [extJoin, listOf_elems hx, strs_map]
  rw [if_pos ⟨by omega, by omega⟩]
  exact hR

/-! ### Parts -/

theorem c25 {l : List Part} (hl : l.length < 1048577) {lk : LK} (σ : St) : Ret W 25 [.list lk (l.map pvPart)] σ (growV (l.map pvPart)) := by
  refine ret_of fun R hR => ?_
  rw [fn25_eq]
  unfold fn25
  refine CutW_of ?_
  simp only [List.length_map, zz, Nat.reduceEqDiff]
  refine Lfp_up l.length (fun i x σ' => ∃ v, x = lookP [(3, v), (6, .list lk (l.map pvPart)), (7, .int .i64 l.length), (8, .int .i64 i)] ∧ Grow σ.length 2 σ' v ((l.take i).map pvPart) ∧ σ <+: σ') ?_ ⟨_, rfl, .nil _ _ _, List.prefix_rfl⟩
  rintro Φ i x σ' hi ⟨v, rfl, hg, hp⟩ next
  simp only [zz, Nat.reduceEqDiff]
  by_cases hlt : i < l.length
  · have hc : l[i]? = some l[i] := by simp [hlt]
    generalize l[i] = p at hc
    have hput : vPut 2 (.agg [.bool false, .str []]) 0 (pvPart p) = some (pvPart p) := rfl
    have htk : (l.take (i + 1)).map pvPart = (l.take i).map pvPart ++ [pvPart p] := by rw [List.take_add_one, hc]; simp
    simp only [hlt, encPart.index hc, encPart.part, hput, vBuildSl_one (sizedPart p), zz, Nat.reduceEqDiff]
    obtain ⟨v', σ'', e1, e2, e3, _⟩ := hg.app (by_ := 24) (y := .list .full [pvPart p]) hp rfl (by simpa using sizedPart p) (by simp; omega)
    rw [e1, vBin_add _ (by omega) (by omega)]
    exact next _ _ hlt ⟨v', by simp, by rw [htk]; exact e2, e3⟩
  · obtain rfl : i = l.length := by omega
    rw [List.take_length] at hg
    simp only [hlt, zz, Nat.reduceEqDiff]
    exact weakW_clean hp (hg.frz fun y hy => by
      obtain ⟨p, _, rfl⟩ := List.mem_map.1 hy
      exact .base _ (underPart _ p)) hR

/-! ### Means -/

/-- The words of parts: or the first error. -/
def meansGo (binds : List Bind) : List Part → List Str → List Str ⊕ Int
  | [], acc => .inl acc
  | p :: l, acc => if p.1 then (match valueOf binds p.2 with
      | none => .inr 4
      | some v => if wordsOk v then meansGo binds l (acc ++ wordsL v) else .inr 2)
    else meansGo binds l (acc ++ [p.2])

def meansEnd : List Str ⊕ Int → Str × Int
  | .inl ws => (joinB [32] ws, 0)
  | .inr e => ([], e)

def means (l : List Part) (binds : List Bind) : Str × Int := if l.any (badPart true) then ([], 8) else meansEnd (meansGo binds l [])

theorem splitB_tot (c : UInt8) : ∀ s : Str, tot (splitB c s) = s.length + 1
  | [] => rfl
  | b :: l => by
    have ih := splitB_tot c l
    simp only [splitB]
    split
    · have : tot ([] :: splitB c l) = 1 + tot (splitB c l) := by simp [tot]
      rw [this, ih]
      simp
      omega
    · split
      · rename_i x xs hx
        rw [hx] at ih
        have h1 : tot ((b :: x) :: xs) = x.length + 1 + 1 + tot xs := by simp [tot]
        have h2 : tot (x :: xs) = x.length + 1 + tot xs := by simp [tot]
        simp
        omega
      · rename_i hx
        exact absurd hx (splitB_ne c l)

theorem wordsL_tot (s : Str) : tot (wordsL s) ≤ s.length + 1 := by
  unfold wordsL
  split
  · simp [tot]
  · rw [splitB_tot]
    exact Nat.le_refl _

theorem valueOf_mem {binds : List Bind} {n v : Str} (h : valueOf binds n = some v) : ∃ b ∈ binds, b.2 = v := by
  unfold valueOf at h
  rw [Option.map_eq_some_iff] at h
  obtain ⟨b, h1, h2⟩ := h
  exact ⟨b, List.mem_of_find?_eq_some h1, h2⟩

theorem idxOf_find {α : Type} {p : α → Bool} : ∀ (l : List α) (n : Nat), (l.find? p = none ∧ idxOf p l n = -1) ∨ ∃ i a, l[i]? = some a ∧ l.find? p = some a ∧ idxOf p l n = ((n + i : Nat) : Int)
  | [], n => .inl ⟨rfl, rfl⟩
  | b :: l, n => by
    by_cases hb : p b = true
    · exact .inr ⟨0, b, rfl, by simp [hb], by simp [idxOf, hb]⟩
    · rcases idxOf_find (p := p) l (n + 1) with ⟨h1, h2⟩ | ⟨i, a, h1, h2, h3⟩
      · exact .inl ⟨by rw [List.find?_cons]; simp only [hb]; exact h1, by simp [idxOf, hb, h2]⟩
      · exact .inr ⟨i + 1, a, by simpa using h1, by rw [List.find?_cons]; simp only [hb]; exact h2, by simp [idxOf, hb, h3]; omega⟩

theorem meansGo_drop {binds : List Bind} {l : List Part} {i : Nat} {p : Part} (h : l[i]? = some p) (acc : List Str) : meansGo binds (l.drop i) acc = meansGo binds (p :: l.drop (i + 1)) acc := by
  rw [List.drop_eq_getElem_cons (List.getElem?_eq_some_iff.1 h).1, (List.getElem?_eq_some_iff.1 h).2]

theorem frz_pair (σ : St) (n : Nat) (s : Str) (e : Int) : Frz σ n (.tuple [.str s, .int .i64 e]) (.tuple [.str s, .int .i64 e]) := .base _ (.tuple _ fun i x h => by
  match i with
  | 0 => simp at h; subst h; exact .str _
  | 1 => simp at h; subst h; exact .int _ _
  | i + 2 => simp at h)

theorem c30 {l : List Part} {binds : List Bind} (hl : l.length ≤ 10) (hb : binds.length ≤ 1048576) (hs : ∀ p ∈ l, p.2.length ≤ 1048576) (hbs : ∀ b ∈ binds, b.2.length ≤ 1048576) {lk lk' : LK} (σ : St) :
    Ret W 30 [.list lk (l.map pvPart), .list lk' (binds.map pvBind)] σ (.tuple [.str (means l binds).1, .int .i64 (means l binds).2]) := by
  refine ret_of fun R hR => ?_
  rw [fn30_eq]
  unfold fn30
  refine (c59 (by omega) (fun p hp => Nat.lt_of_le_of_lt (hs p hp) (by decide))).callB ?_
  cases hbad : l.any (badPart true) with
  | true =>
    simp only [zz, Nat.reduceEqDiff]
    refine weakW_keep ?_
    simpa [means, hbad] using hR
  | false =>
    have hm : means l binds = meansEnd (meansGo binds l []) := by simp [means, hbad]
    simp only [List.length_map, zz, Nat.reduceEqDiff]
    refine Lfp_up l.length (fun i x σ' => ∃ (v : PV) (ys : List Str), x = lookP [(1, .list lk' (binds.map pvBind)), (6, v), (15, .list lk (l.map pvPart)), (16, .int .i64 l.length), (17, .int .i64 i)] ∧ Grow σ.length 1 σ' v (ys.map .str) ∧ σ <+: σ' ∧ tot ys ≤ i * 1048577 ∧
        meansGo binds l [] = meansGo binds (l.drop i) ys) ?_ ⟨.list .nil [], [], rfl, .nil _ _ _, List.prefix_rfl, Nat.zero_le _, rfl⟩
    rintro Φ i x σ' hi ⟨v, ys, rfl, hg, hp, htot, hgo⟩ next
    have hylen := len_tot ys
    simp only [zz, Nat.reduceEqDiff]
    by_cases hlt : i < l.length
    · have hc : l[i]? = some l[i] := by simp [hlt]
      have hmem : l[i] ∈ l := by simp
      generalize l[i] = p at hc hmem
      have hsp := hs p hmem
      rw [meansGo_drop hc] at hgo
      have e0 : vStore 2 (.ptr σ'.length 0 0 0) (pvPart p) (σ' ++ [.arr 0 2 [.agg [.bool false, .str []]]]) = some (σ' ++ [.arr 0 2 [pvPart p]]) := new_store rfl rfl rfl rfl
      have g0 := new_get σ' (.arr 0 2 [pvPart p])
      have hg1 : Grow σ.length 1 (σ' ++ [.arr 0 2 [pvPart p]]) v (ys.map .str) := by
        rcases hg with h | ⟨b, g, h1, h2, h3, h4⟩
        · exact .inl h
        · exact .inr ⟨b, g, h1, h2, by rw [List.getElem?_append_left (List.getElem?_eq_some_iff.1 h3).1]; exact h3, h4⟩
      have hp1 : σ <+: σ' ++ [.arr 0 2 [pvPart p]] := pre_app hp _
      have l0 : vLoad false 1 (.ptr σ'.length 0 0 0) (σ' ++ [.arr 0 2 [pvPart p]]) = some (.bool p.1) := by simp [vLoad, pvPart]
      have l1 : vLoad false 1 (.ptr σ'.length 0 0 1) (σ' ++ [.arr 0 2 [pvPart p]]) = some (.str p.2) := by simp [vLoad, pvPart]
      simp only [hlt, encPart.index hc, encPart.part, newW_eq, e0, l0, l1, zz, Nat.reduceEqDiff]
      generalize σ' ++ [.arr 0 2 [pvPart p]] = σ1 at hg1 hp1 l0 l1 g0
      obtain ⟨m, t⟩ := p
      cases m with
      | false =>
        simp only [vBuildSl_one (sizedStr _), zz, Nat.reduceEqDiff]
        obtain ⟨v', σ'', e1, e2, e3, _⟩ := hg1.app (by_ := 16) (y := .list .full [.str t]) hp1 rfl (by simpa using sizedStr _) (by simp; omega)
        rw [e1, vBin_add _ (by omega) (by omega)]
        refine next _ _ hlt ⟨v', ys ++ [t], by simp, by simpa using e2, e3, ?_, ?_⟩
        · rw [tot_app, tot_one]
          have hsp : t.length ≤ 1048576 := hsp
          omega
        · rw [hgo]
          simp [meansGo]
      | true =>
        simp only [zz, Nat.reduceEqDiff]
        refine (c96 encBind (fun b => b.1 == t) hb97 (by omega) fun b hb' => c97 (p := (true, t)) g0).callB ?_
        rcases idxOf_find (p := fun b : Bind => b.1 == t) binds 0 with ⟨f1, f2⟩ | ⟨j, b, f0, f1, f2⟩
        · rw [f2]
          have : valueOf binds t = none := by simp [valueOf, f1]
          simp only [meansGo, this, if_true] at hgo
          rw [hm, hgo] at hR
          simp only [show decide ((-1 : Int) < 0) = true from rfl, zz, Nat.reduceEqDiff]
          exact weakW_clean hp1 (frz_pair _ _ _ _) hR
        · rw [f2]
          have hv : valueOf binds t = some b.2 := by simp [valueOf, f1]
          have hneg : decide (((0 + j : Nat) : Int) < 0) = false := by rw [decide_eq_false_iff_not]; omega
          have hbm : b ∈ binds := List.mem_of_getElem? f0
          simp only [meansGo, hv, if_true] at hgo
          simp only [hneg, Nat.zero_add, encBind.index f0, zz, Nat.reduceEqDiff]
          simp only [pvBind, zz, Nat.reduceEqDiff]
          refine (c71 (by have := hbs b hbm; omega) _).callB ?_
          simp only [zz, Nat.reduceEqDiff]
          cases hok : wordsOk b.2 with
          | false =>
            rw [hok] at hgo
            simp only [Bool.false_eq_true, if_false] at hgo
            rw [hm, hgo] at hR
            simp only [zz, Nat.reduceEqDiff]
            exact weakW_clean hp1 (frz_pair _ _ _ _) hR
          | true =>
            rw [hok] at hgo
            simp only [if_true] at hgo
            have hw1 : vElems (wordsPV b.2) σ1 = some ((wordsL b.2).map .str) := by
              unfold wordsPV wordsL
              split <;> rfl
            have hw2 := wordsL_tot b.2
            have hw3 := len_tot (wordsL b.2)
            have hw4 := hbs b hbm
            obtain ⟨v', σ'', e1, e2, e3, _⟩ := hg1.app (by_ := 16) hp1 hw1 (fun z hz => by
              obtain ⟨t, _, rfl⟩ := List.mem_map.1 hz
              exact sizedStr t) (by simp; omega)
            simp only [e1, zz, Nat.reduceEqDiff]
            rw [vBin_add _ (by omega) (by omega)]
            refine next _ _ hlt ⟨v', ys ++ wordsL b.2, by simp, by simpa using e2, e3, ?_, hgo⟩
            rw [tot_app]
            omega
    · obtain rfl : i = l.length := by omega
      rw [List.drop_length] at hgo
      simp only [hlt, zz, Nat.reduceEqDiff]
      refine (c98 (by omega) hg.elems).callB ?_
      rw [hm, hgo] at hR
      simp only [meansGo, meansEnd] at hR
      exact weakW_clean hp (frz_pair _ _ _ _) hR

end Go.Proofs.YtiniifbmeobmgaaGreatDoor

/- The reference's Means; the law HyperMeans. -/
set_option linter.unusedVariables false
set_option linter.unusedSimpArgs false
namespace Go.Proofs.YtiniifbmeobmgaaGreatDoor
open Go Go.Abs

theorem elems_ext {σ σ' : St} {sz : Nat} {x : PV} {xs : List PV} (h : Elems σ sz x xs) (hσ : ∀ c < σ.length, σ'[c]? = σ[c]?) : Elems σ' sz x xs := by
  cases h with
  | list => exact .list _ _
  | sref b g off z ys xs hb hfit hxs => exact .sref b g off z ys xs (by rw [hσ b (List.getElem?_eq_some_iff.1 hb).1]; exact hb) hfit hxs

theorem c31 {l : List Part} {binds : List Bind} (hl : l.length ≤ 10) (hb : binds.length ≤ 1048576) (hs : ∀ p ∈ l, p.2.length ≤ 1048576) (hbs : ∀ b ∈ binds, b.2.length ≤ 1048576) {x y : PV} {σ : St}
    (hx : Elems σ 2 x (l.map pvPart)) (hy : Elems σ 2 y (binds.map pvBind)) :
    Ret W 31 [x, y] σ (.tuple [.str (means l binds).1, .int .i64 (means l binds).2]) := by
  refine ret_of fun R hR => ?_
  rw [fn31_eq]
  unfold fn31
  refine (c68 (by omega) (fun p hp => Nat.lt_of_le_of_lt (hs p hp) (by decide)) hx).callB ?_
  cases hbad : l.any (badPart true) with
  | true =>
    simp only [if_true, show ((8 : Int) != 0) = true from rfl, zz, Nat.reduceEqDiff]
    refine weakW_keep ?_
    simpa [means, hbad] using hR
  | false =>
    have hm : means l binds = meansEnd (meansGo binds l []) := by simp [means, hbad]
    simp only [Bool.false_eq_true, if_false, show ((0 : Int) != 0) = false from rfl, zz, Nat.reduceEqDiff]
    refine CutW_of ?_
    refine Lfp_up l.length (fun i z σ' => ∃ (v : PV) (ys : List Str), z = lookP [(0, x), (1, y), (7, v), (8, .int .i64 i)] ∧ Grow σ.length 1 σ' v (ys.map .str) ∧ σ <+: σ' ∧ tot ys ≤ i * 1048577 ∧
        meansGo binds l [] = meansGo binds (l.drop i) ys) ?_ ⟨.list .nil [], [], rfl, .nil _ _ _, List.prefix_rfl, Nat.zero_le _, rfl⟩
    rintro Φ i z σ' hi ⟨v, ys, rfl, hg, hp, htot, hgo⟩ next
    have hylen := len_tot ys
    have hx' := hx.pre hp
    have hy' := hy.pre hp
    simp only [hx'.len, List.length_map, zz, Nat.reduceEqDiff]
    by_cases hlt : i < l.length
    · have hc : l[i]? = some l[i] := by simp [hlt]
      have hmem : l[i] ∈ l := by simp
      generalize l[i] = p at hc hmem
      have hsp := hs p hmem
      rw [meansGo_drop hc] at hgo
      obtain ⟨q, q1, q2, q3⟩ := hx'.at_ (i := i) (k := .i64) (by rw [List.getElem?_map, hc]; rfl) (show (pvPart p).cells? = some _ from rfl) rfl
      obtain ⟨r0, r1, r2⟩ := q3 0
      obtain ⟨r3, r4, r5⟩ := q3 1
      obtain ⟨m, t⟩ := p
      simp only [hlt, q1, r1, r2, zz, Nat.reduceEqDiff]
      refine CutW_of ?_
      simp only [pvPart, zz, Nat.reduceEqDiff]
      cases m with
      | false =>
        simp only [r4, r5, pvPart, vBuildSl_one (sizedStr _), zz, Nat.reduceEqDiff]
        obtain ⟨v', σ'', e1, e2, e3, _⟩ := hg.app (by_ := 16) (y := .list .full [.str t]) hp rfl (by simpa using sizedStr _) (by simp; omega)
        rw [e1]
        simp only [zz, Nat.reduceEqDiff]
        rw [vBin_add _ (by omega) (by omega)]
        refine next _ _ hlt ⟨v', ys ++ [t], by simp, by simpa using e2, e3, ?_, ?_⟩
        · rw [tot_app, tot_one]
          have hsp : t.length ≤ 1048576 := hsp
          omega
        · rw [hgo]
          simp [meansGo]
      | true =>
        simp only [r4, r5, pvPart, zz, Nat.reduceEqDiff]
        refine (c99 (by omega) hy').callB ?_
        cases hv : valueOf binds t with
        | none =>
          simp only [meansGo, hv, if_true] at hgo
          rw [hm, hgo] at hR
          simp only [zz, Nat.reduceEqDiff]
          exact weakW_clean hp (frz_pair _ _ _ _) hR
        | some w =>
          obtain ⟨b, hbm, rfl⟩ := valueOf_mem hv
          have hw4 := hbs b hbm
          simp only [meansGo, hv, if_true] at hgo
          simp only [zz, Nat.reduceEqDiff]
          refine (c100 (by omega) _).callB ?_
          simp only [zz, Nat.reduceEqDiff]
          cases hok : wordsOk b.2 with
          | false =>
            rw [hok] at hgo
            simp only [Bool.false_eq_true, if_false] at hgo
            rw [hm, hgo] at hR
            simp only [zz, Nat.reduceEqDiff]
            exact weakW_clean hp (frz_pair _ _ _ _) hR
          | true =>
            rw [hok] at hgo
            simp only [if_true] at hgo
            have hw1 : vElems (growV ((wordsL b.2).map .str)) σ' = some ((wordsL b.2).map .str) := by
              obtain ⟨k, hk⟩ := growV_list ((wordsL b.2).map PV.str)
              rw [hk]
              rfl
            have hw2 := wordsL_tot b.2
            have hw3 := len_tot (wordsL b.2)
            obtain ⟨v', σ'', e1, e2, e3, _⟩ := hg.app (by_ := 16) hp hw1 (fun z hz => by
              obtain ⟨t, _, rfl⟩ := List.mem_map.1 hz
              exact sizedStr t) (by simp; omega)
            simp only [if_true, e1, zz, Nat.reduceEqDiff]
            rw [vBin_add _ (by omega) (by omega)]
            refine next _ _ hlt ⟨v', ys ++ wordsL b.2, by simp, by simpa using e2, e3, ?_, hgo⟩
            rw [tot_app]
            omega
    · obtain rfl : i = l.length := by omega
      rw [List.drop_length] at hgo
      simp only [hlt, zz, Nat.reduceEqDiff]
      refine (c101 (by omega) hg.elems).callB ?_
      rw [hm, hgo] at hR
      simp only [meansGo, meansEnd] at hR
      exact weakW_clean hp (frz_pair _ _ _ _) hR

/-- The law, the examples' run taken as given. -/
theorem c7 (hawake : ∀ σ : St, σ = [] → Ret W 13 [] σ (.bool true)) {l : List Part} {binds : List Bind} (hs : ∀ p ∈ l, p.2.length ≤ 1048576) (hbs : ∀ b ∈ binds, b.2.length ≤ 1048576) {lk lk' : LK} :
    Ret W 7 [.list lk (l.map pvPart), .list lk' (binds.map pvBind)] [] (.bool true) := by
  refine ret_of fun R hR => ?_
  rw [fn7_eq]
  unfold fn7
  refine (hawake [] rfl).callB ?_
  simp only [List.length_map, zz, Nat.reduceEqDiff]
  by_cases h1 : (l.length : Int) > 10
  · simp only [h1, zz, Nat.reduceEqDiff]
    exact weakW_keep hR
  · simp only [h1, zz, Nat.reduceEqDiff]
    by_cases h2 : (binds.length : Int) > 6
    · simp only [h2, zz, Nat.reduceEqDiff]
      exact weakW_keep hR
    · simp only [h2, zz, Nat.reduceEqDiff]
      refine CutW_by (fun x σ' => x 0 = .list lk (l.map pvPart) ∧ x 1 = .list lk' (binds.map pvBind) ∧ Grow 0 2 σ' (x 5) (binds.map pvBind)) ?_ ?_
      · rintro x σ' ⟨e0, e1, hg⟩
        rw [e0, e1]
        refine (c30 (by omega) (by omega) hs hbs σ').callB ?_
        simp only [zz, Nat.reduceEqDiff]
        refine (c25 (by omega) σ').callB ?_
        obtain ⟨k, hk⟩ := growV_list (l.map pvPart)
        rw [hk]
        refine (c31 (by omega) (by omega) hs hbs (.list k _) hg.elems).callB ?_
        simp only [BEq.rfl, zz, Nat.reduceEqDiff]
        exact weakW_clean (List.nil_prefix) (.base _ (.bool _)) hR
      · refine Lfp_up binds.length (fun i x σ' => ∃ v, x = lookP [(0, .list lk (l.map pvPart)), (1, .list lk' (binds.map pvBind)), (5, v), (22, .list lk' (binds.map pvBind)), (23, .int .i64 binds.length), (24, .int .i64 i)] ∧ Grow ([] : St).length 2 σ' v ((binds.take i).map pvBind)) ?_ ⟨_, rfl, .nil _ _ _⟩
        rintro Φ i x σ' hi ⟨v, rfl, hg⟩ next
        simp only [zz, Nat.reduceEqDiff]
        by_cases hlt : i < binds.length
        · have hc : binds[i]? = some binds[i] := by simp [hlt]
          generalize binds[i] = p at hc
          have hput : vPut 2 (.agg [.str [], .str []]) 0 (pvBind p) = some (pvBind p) := rfl
          have htk : (binds.take (i + 1)).map pvBind = (binds.take i).map pvBind ++ [pvBind p] := by rw [List.take_add_one, hc]; simp
          simp only [hlt, encBind.index hc, encBind.part, hput, vBuildSl_one (sizedBind p), zz, Nat.reduceEqDiff]
          obtain ⟨v', σ'', e1, e2, e3, _⟩ := hg.app (by_ := 32) (y := .list .full [pvBind p]) List.nil_prefix rfl (by simpa using sizedBind p) (by simp; omega)
          rw [e1, vBin_add _ (by omega) (by omega)]
          exact next _ _ hlt ⟨v', by simp, by rw [htk]; exact e2⟩
        · obtain rfl : i = binds.length := by omega
          rw [List.take_length] at hg
          simp only [hlt, zz, Nat.reduceEqDiff]
          exact ⟨by simp, by simp, by simpa using hg⟩

end Go.Proofs.YtiniifbmeobmgaaGreatDoor

