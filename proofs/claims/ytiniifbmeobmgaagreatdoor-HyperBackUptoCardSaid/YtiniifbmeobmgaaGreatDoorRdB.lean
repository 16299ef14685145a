/- The package's reader: its tokens. -/
import Derived.Test.YtiniifbmeobmgaaGreatDoorRdA
import Derived.Test.YtiniifbmeobmgaaGreatDoorFnE
set_option linter.unusedVariables false
set_option linter.unusedSimpArgs false
namespace Go.Proofs.YtiniifbmeobmgaaGreatDoor
open Go Go.Abs

theorem c169 (s : Str) (c : UInt8) (σ : St) : Ret W 169 [.str s, .int .u8 (c.toNat : Int)] σ (.int .i64 (idxB c s 0)) := by
  refine ret_of fun R hR => ?_
  show bindO False (extIndexByte [.str s, .int .u8 (c.toNat : Int)] σ) (fun r => R (.ret r.1) r.2)
  have : ((c.toNat : Int).toNat).toUInt8 = c := by
    rw [Int.toNat_natCast]
    exact UInt8.ofNat_toNat
  simp only [extIndexByte, this, zz, Nat.reduceEqDiff, if_true, if_false, decide_true, decide_false, eq_self]
  exact hR

theorem idx_blank (c : UInt8) : decide (idxB c [9, 10, 32] 0 ≥ 0) = blankB c := by
  by_cases h1 : c = 9
  · subst h1; rfl
  by_cases h2 : c = 10
  · subst h2; rfl
  by_cases h3 : c = 32
  · subst h3; rfl
  simp [idxB, blankB, h1, h2, h3, Ne.symm h1, Ne.symm h2, Ne.symm h3]

theorem idx_sign (c : UInt8) : decide (idxB c [46, 58, 59, 44] 0 ≥ 0) = signB c := by
  by_cases h1 : c = 46
  · subst h1; rfl
  by_cases h2 : c = 58
  · subst h2; rfl
  by_cases h3 : c = 59
  · subst h3; rfl
  by_cases h4 : c = 44
  · subst h4; rfl
  simp [idxB, signB, h1, h2, h3, h4, Ne.symm h1, Ne.symm h2, Ne.symm h3, Ne.symm h4]

theorem c170 (c : UInt8) (σ : St) : Ret W 170 [.int .u8 (c.toNat : Int)] σ (.bool (letB c)) := by
  refine ret_of fun R hR => ?_
  rw [fn170_eq]
  unfold fn170
  unfold letB at hR
  simp only [zz, Nat.reduceEqDiff, if_true, if_false, decide_true, decide_false, eq_self]
  cases h1 : decide ((c.toNat : Int) ≥ 97) <;> simp only [h1, Bool.true_and, Bool.false_and, Bool.false_or, zz, Nat.reduceEqDiff, if_true, if_false, decide_true, decide_false, eq_self] at hR ⊢
  all_goals first
    | (cases h2 : decide ((c.toNat : Int) ≤ 122) <;> simp only [h2, Bool.true_or, Bool.false_or, zz, Nat.reduceEqDiff, if_true, if_false, decide_true, decide_false, eq_self] at hR ⊢)
    | skip
  all_goals first
    | exact weakW_keep hR
    | (cases h3 : decide ((c.toNat : Int) ≥ 65) <;> simp only [h3, Bool.true_and, Bool.false_and, Bool.false_or, zz, Nat.reduceEqDiff, if_true, if_false, decide_true, decide_false, eq_self] at hR ⊢)
  all_goals first
    | (cases h4 : decide ((c.toNat : Int) ≤ 90) <;> simp only [h4, Bool.true_or, Bool.false_or, zz, Nat.reduceEqDiff, if_true, if_false, decide_true, decide_false, eq_self] at hR ⊢)
    | skip
  all_goals first
    | exact weakW_keep hR
    | (cases h5 : decide ((c.toNat : Int) ≥ 49) <;> simp only [h5, Bool.true_and, Bool.false_and, zz, Nat.reduceEqDiff, if_true, if_false, decide_true, decide_false, eq_self] at hR ⊢)
  all_goals first
    | exact weakW_keep hR
    | (cases h6 : decide ((c.toNat : Int) ≤ 57) <;> simp only [h6, zz, Nat.reduceEqDiff, if_true, if_false, decide_true, decide_false, eq_self] at hR ⊢)
  all_goals exact weakW_keep hR

/-- What a part of a text is. -/
theorem sub_str {s : Str} {a b : Nat} (h : a ≤ b) (hb : b ≤ s.length) : vSubStr (.str s) (some (.int .i64 (a : Nat))) (some (.int .i64 (b : Nat))) = some (.str ((s.take b).drop a)) := by
  simp [vSubStr, bound, h, hb]

theorem c171 (P : Nat) (s : Str) {at_ : Nat} {code : Int} {σ : St} {x : PV} : Rd 171 [x, .int .i64 at_, .int .i64 code] σ P s (.error (at_, code)) := by
  intro R hR hX
  refine callW_fold ?_
  rw [fn171_eq]
  unfold fn171
  have : vBuild [(.int .i64 0), (.int .i64 0)] [(0, 1, .int .i64 at_), (1, 1, .int .i64 code)] = some [.int .i64 at_, .int .i64 code] := rfl
  simp only [this, zz, Nat.reduceEqDiff, if_true, if_false, decide_true, decide_false, eq_self]
  exact hX (at_, code) σ rfl (List.take_prefix _ _)

theorem u8_ne {c : UInt8} (h : c ≠ 58) : ((c.toNat : Int) == 58) = false := by
  rw [beq_eq_false_iff_ne]
  intro he
  refine h (UInt8.toNat_inj.1 ?_)
  show c.toNat = 58
  omega

theorem badWord_eq (w : Str) : badWord w = (!(w == EMPTY) && (!isWord w && !isParam w)) := rfl

theorem c136 {s : Str} (hs : s.length < 4611686018427387903) {σ : St} {P a : Nat} (ha : a ≤ s.length) {ts : List Tok} {f : Option Flt} (hL : Lex s a ts f) {x2 x3 x4 x5 : PV}
    (h : Has σ P [.str s, .int .i64 a, x2, x3, x4, x5]) : Rd 136 [.ptr P 0 0 0] σ P s ((goF f ts).bind fun _ => .ok (.tuple [], ts)) := by
  intro R hR hX
  have hP := h.lt
  refine callW_fold ?_
  rw [fn136_eq]
  unfold fn136
  refine Lfp_up (skip s a - a) (fun i x σ' => x = lookP [(0, .ptr P 0 0 0)] ∧ σ' = cd σ P [.str s, .int .i64 ((a + i : Nat) : Int), x2, x3, x4, x5]) ?_ ⟨rfl, h.self.symm⟩
  rintro Φ i x σ1 hi ⟨rfl, rfl⟩ hnext
  have hge := skip_ge s a
  have hle := skip_le ha
  simp only [nil_ptr, cd_ld hP, cd_sti hP, cd_sts hP, cd_stb hP, List.set_cons_zero, List.set_cons_succ, List.length_cons, List.length_nil, Nat.reduceAdd, Nat.reduceLT, zz, Nat.reduceEqDiff, if_true, if_false, decide_true, decide_false, eq_self]
  by_cases hlt : i < skip s a - a
  · obtain ⟨c, hc, hb⟩ := skip_lt (show a + i < skip s a by omega)
    have hal := (List.getElem?_eq_some_iff.1 hc).1
    simp only [decide_eq_true hal, vStrAt_nat _ hc, nil_ptr, cd_ld hP, cd_sti hP, cd_sts hP, cd_stb hP, List.set_cons_zero, List.set_cons_succ, List.length_cons, List.length_nil, Nat.reduceAdd, Nat.reduceLT, zz, Nat.reduceEqDiff, if_true, if_false, decide_true, decide_false, eq_self]
    refine (c169 _ _ _).callB ?_
    simp only [idx_blank, hb, add_one (a := a + i) (by omega), nil_ptr, cd_ld hP, cd_sti hP, cd_sts hP, cd_stb hP, List.set_cons_zero, List.set_cons_succ, List.length_cons, List.length_nil, Nat.reduceAdd, Nat.reduceLT, zz, Nat.reduceEqDiff, if_true, if_false, decide_true, decide_false, eq_self]
    exact hnext _ _ hlt ⟨rfl, by rw [Nat.add_assoc]⟩
  · have hai : a + i = skip s a := by omega
    simp only [hai]
    clear hnext hi hlt
    have hgeq : ∀ {n m : Nat}, n ≥ m → decide ((n : Int) ≥ (m : Int)) = true := fun h => by rw [decide_eq_true_eq]; omega
    have hlss : ∀ {n m : Nat}, n < m → decide ((n : Int) ≥ (m : Int)) = false := fun h => by rw [decide_eq_false_iff_not]; omega
    have key : (∃ c, s[skip s a]? = some c ∧ letB c = true ∧
        (badWord (wordAt s (skip s a)) = false → R (.ret (.tuple [])) (cd σ P [.str s, .int .i64 (skip s a + (wordAt s (skip s a)).length : Nat), .int .i64 (skip s a), .int .i64 (skip s a + (wordAt s (skip s a)).length : Nat), .str [], .bool false])) ∧
        (badWord (wordAt s (skip s a)) = true → ∀ σ', σ.take P <+: σ' → R (.pan (fpv (skip s a, 8))) σ')) ∨ ∀ c, s[skip s a]? = some c → letB c = false := by
      cases hL with
      | fin _ h1 => exact .inr fun c hc => by have := (List.getElem?_eq_some_iff.1 hc).1; omega
      | form _ c h1 h2 h3 => exact .inr fun d hd => by rw [h1] at hd; cases hd; exact h2
      | sign _ c ts f h1 h2 h3 h4 => exact .inr fun d hd => by rw [h1] at hd; cases hd; exact h2
      | name _ c h1 h2 h3 => exact .inl ⟨c, h1, h2, fun h => (by rw [h3] at h; cases h), fun _ σ' hp => hX _ _ rfl hp⟩
      | word _ c ts f h1 h2 h3 h4 =>
        refine .inl ⟨c, h1, h2, fun _ => ?_, fun h => (by rw [h3] at h; cases h)⟩
        have hok : goF f ((skip s a, wordAt s (skip s a)) :: ts) = .ok ((skip s a, wordAt s (skip s a)) :: ts) := by cases f <;> rfl
        have fin := hR (.tuple []) ((skip s a, wordAt s (skip s a)) :: ts) (by rw [hok]; rfl)
        have hsg : sgn ((skip s a, wordAt s (skip s a)) :: ts) = [] := by
          obtain ⟨w, hw⟩ := word_cons h1 h2
          simp [sgn, isP, hw, h2]
        simp only [hcells, hsg] at fin
        exact fin
    rcases key with ⟨c, h1, h2, hk1, hk2⟩ | hnl
    · clear hL hR hX
      have hal := (List.getElem?_eq_some_iff.1 h1).1
      have hwl := word_le (s := s) (p := skip s a) hle
      simp only [decide_eq_true hal, vStrAt_nat _ h1, nil_ptr, cd_ld hP, cd_sti hP, cd_sts hP, cd_stb hP, List.set_cons_zero, List.set_cons_succ, List.length_cons, List.length_nil, Nat.reduceAdd, Nat.reduceLT, zz, Nat.reduceEqDiff, if_true, if_false, decide_true, decide_false, eq_self]
      refine (c169 _ _ _).callB ?_
      simp only [idx_blank, skip_at h1, hlss hal, vStrAt_nat _ h1, nil_ptr, cd_ld hP, cd_sti hP, cd_sts hP, cd_stb hP, List.set_cons_zero, List.set_cons_succ, List.length_cons, List.length_nil, Nat.reduceAdd, Nat.reduceLT, zz, Nat.reduceEqDiff, if_true, if_false, decide_true, decide_false, eq_self]
      refine (c170 _ _).callB ?_
      simp only [h2, nil_ptr, cd_ld hP, cd_sti hP, cd_sts hP, cd_stb hP, List.set_cons_zero, List.set_cons_succ, List.length_cons, List.length_nil, Nat.reduceAdd, Nat.reduceLT, zz, Nat.reduceEqDiff, if_true, if_false, decide_true, decide_false, eq_self]
      refine Lfp_up (wordAt s (skip s a)).length (fun i x σ' => x = lookP [(0, .ptr P 0 0 0)] ∧ σ' = cd σ P [.str s, .int .i64 ((skip s a + i : Nat) : Int), .int .i64 (skip s a), x3, .str [], .bool false]) ?_ ⟨rfl, rfl⟩
      rintro Φ2 i x σ1 hi ⟨rfl, rfl⟩ hnext
      simp only [nil_ptr, cd_ld hP, cd_sti hP, cd_sts hP, cd_stb hP, List.set_cons_zero, List.set_cons_succ, List.length_cons, List.length_nil, Nat.reduceAdd, Nat.reduceLT, zz, Nat.reduceEqDiff, if_true, if_false, decide_true, decide_false, eq_self]
      by_cases hlt : i < (wordAt s (skip s a)).length
      · obtain ⟨d, hd, hb⟩ := word_lt hlt
        have hdl := (List.getElem?_eq_some_iff.1 hd).1
        simp only [decide_eq_true hdl, vStrAt_nat _ hd, nil_ptr, cd_ld hP, cd_sti hP, cd_sts hP, cd_stb hP, List.set_cons_zero, List.set_cons_succ, List.length_cons, List.length_nil, Nat.reduceAdd, Nat.reduceLT, zz, Nat.reduceEqDiff, if_true, if_false, decide_true, decide_false, eq_self]
        refine (c170 _ _).callB ?_
        simp only [hb, add_one (a := skip s a + i) (by omega), nil_ptr, cd_ld hP, cd_sti hP, cd_sts hP, cd_stb hP, List.set_cons_zero, List.set_cons_succ, List.length_cons, List.length_nil, Nat.reduceAdd, Nat.reduceLT, zz, Nat.reduceEqDiff, if_true, if_false, decide_true, decide_false, eq_self]
        exact hnext _ _ hlt ⟨rfl, by rw [Nat.add_assoc]⟩
      · obtain rfl : i = (wordAt s (skip s a)).length := by omega
        clear hnext hi hlt
        have hok : (wordAt s (skip s a)).length < 4611686018427387904 := by omega
        have hdn : ¬ (skip s a + (wordAt s (skip s a)).length < s.length) → decide (skip s a + (wordAt s (skip s a)).length < s.length) = false := fun h => by rw [decide_eq_false_iff_not]; exact h
        by_cases hend : skip s a + (wordAt s (skip s a)).length < s.length
        all_goals first
          | (have hd : s[skip s a + (wordAt s (skip s a)).length]? = some s[skip s a + (wordAt s (skip s a)).length] := List.getElem?_eq_getElem hend
             simp only [decide_eq_true hend, vStrAt_nat _ hd, nil_ptr, cd_ld hP, cd_sti hP, cd_sts hP, cd_stb hP, List.set_cons_zero, List.set_cons_succ, List.length_cons, List.length_nil, Nat.reduceAdd, Nat.reduceLT, zz, Nat.reduceEqDiff, if_true, if_false, decide_true, decide_false, eq_self]
             refine (c170 _ _).callB ?_
             simp only [word_at hd, sub_str (show skip s a ≤ skip s a + (wordAt s (skip s a)).length by omega) hwl, word_sub, nil_ptr, cd_ld hP, cd_sti hP, cd_sts hP, cd_stb hP, List.set_cons_zero, List.set_cons_succ, List.length_cons, List.length_nil, Nat.reduceAdd, Nat.reduceLT, zz, Nat.reduceEqDiff, if_true, if_false, decide_true, decide_false, eq_self])
          | simp only [hdn hend, sub_str (show skip s a ≤ skip s a + (wordAt s (skip s a)).length by omega) hwl, word_sub, nil_ptr, cd_ld hP, cd_sti hP, cd_sts hP, cd_stb hP, List.set_cons_zero, List.set_cons_succ, List.length_cons, List.length_nil, Nat.reduceAdd, Nat.reduceLT, zz, Nat.reduceEqDiff, if_true, if_false, decide_true, decide_false, eq_self]
        all_goals
          generalize hw : wordAt s (skip s a) = w at hk1 hk2 hok
          cases h3 : w == [69, 77, 80, 84, 89] with
          | true =>
            simp only [nil_ptr, cd_ld hP, cd_sti hP, cd_sts hP, cd_stb hP, List.set_cons_zero, List.set_cons_succ, List.length_cons, List.length_nil, Nat.reduceAdd, Nat.reduceLT, zz, Nat.reduceEqDiff, if_true, if_false, decide_true, decide_false, eq_self]
            exact weakW_keep (hk1 (by simp [badWord, h3]))
          | false =>
            simp only [nil_ptr, cd_ld hP, cd_sti hP, cd_sts hP, cd_stb hP, List.set_cons_zero, List.set_cons_succ, List.length_cons, List.length_nil, Nat.reduceAdd, Nat.reduceLT, zz, Nat.reduceEqDiff, if_true, if_false, decide_true, decide_false, eq_self]
            refine (c125 hok _).callB ?_
            cases h4 : isWord w with
            | true =>
              simp only [nil_ptr, cd_ld hP, cd_sti hP, cd_sts hP, cd_stb hP, List.set_cons_zero, List.set_cons_succ, List.length_cons, List.length_nil, Nat.reduceAdd, Nat.reduceLT, zz, Nat.reduceEqDiff, if_true, if_false, decide_true, decide_false, eq_self]
              exact weakW_keep (hk1 (by simp [badWord, h4]))
            | false =>
              simp only [nil_ptr, cd_ld hP, cd_sti hP, cd_sts hP, cd_stb hP, List.set_cons_zero, List.set_cons_succ, List.length_cons, List.length_nil, Nat.reduceAdd, Nat.reduceLT, zz, Nat.reduceEqDiff, if_true, if_false, decide_true, decide_false, eq_self]
              refine (c126 hok _).callB ?_
              cases h5 : isParam w with
              | true =>
                simp only [nil_ptr, cd_ld hP, cd_sti hP, cd_sts hP, cd_stb hP, List.set_cons_zero, List.set_cons_succ, List.length_cons, List.length_nil, Nat.reduceAdd, Nat.reduceLT, zz, Nat.reduceEqDiff, if_true, if_false, decide_true, decide_false, eq_self]
                exact weakW_keep (hk1 (by simp [badWord, h5]))
              | false =>
                simp only [nil_ptr, cd_ld hP, cd_sti hP, cd_sts hP, cd_stb hP, List.set_cons_zero, List.set_cons_succ, List.length_cons, List.length_nil, Nat.reduceAdd, Nat.reduceLT, zz, Nat.reduceEqDiff, if_true, if_false, decide_true, decide_false, eq_self]
                refine (c171 P s).callB (fun v ts hh => by cases hh) fun e σ' he hp => ?_
                cases he
                exact hk2 (by simp [badWord, h3, h4, h5]) σ' (by rw [cd_take] at hp; exact hp)
    cases hL with
    | fin _ h1 =>
      have : decide (skip s a < s.length) = false := by rw [decide_eq_false_iff_not]; omega
      simp only [this, hgeq (show skip s a ≥ s.length by omega), nil_ptr, cd_ld hP, cd_sti hP, cd_sts hP, cd_stb hP, List.set_cons_zero, List.set_cons_succ, List.length_cons, List.length_nil, Nat.reduceAdd, Nat.reduceLT, zz, Nat.reduceEqDiff, if_true, if_false, decide_true, decide_false, eq_self]
      refine weakW_keep ?_
      have := hR (.tuple []) [] rfl
      simp only [hcells, h1] at this
      exact this
    | form _ c h1 h2 h3 =>
      have hal := (List.getElem?_eq_some_iff.1 h1).1
      simp only [decide_eq_true hal, vStrAt_nat _ h1, nil_ptr, cd_ld hP, cd_sti hP, cd_sts hP, cd_stb hP, List.set_cons_zero, List.set_cons_succ, List.length_cons, List.length_nil, Nat.reduceAdd, Nat.reduceLT, zz, Nat.reduceEqDiff, if_true, if_false, decide_true, decide_false, eq_self]
      refine (c169 _ _ _).callB ?_
      simp only [idx_blank, skip_at h1, hlss hal, vStrAt_nat _ h1, nil_ptr, cd_ld hP, cd_sti hP, cd_sts hP, cd_stb hP, List.set_cons_zero, List.set_cons_succ, List.length_cons, List.length_nil, Nat.reduceAdd, Nat.reduceLT, zz, Nat.reduceEqDiff, if_true, if_false, decide_true, decide_false, eq_self]
      refine (c170 _ _).callB ?_
      simp only [h2, nil_ptr, cd_ld hP, cd_sti hP, cd_sts hP, cd_stb hP, List.set_cons_zero, List.set_cons_succ, List.length_cons, List.length_nil, Nat.reduceAdd, Nat.reduceLT, zz, Nat.reduceEqDiff, if_true, if_false, decide_true, decide_false, eq_self]
      refine (c169 _ _ _).callB ?_
      simp only [idx_sign, h3, nil_ptr, cd_ld hP, cd_sti hP, cd_sts hP, cd_stb hP, List.set_cons_zero, List.set_cons_succ, List.length_cons, List.length_nil, Nat.reduceAdd, Nat.reduceLT, zz, Nat.reduceEqDiff, if_true, if_false, decide_true, decide_false, eq_self]
      refine (c171 P s).callB (fun v ts hh => by cases hh) fun e σ' he hp => ?_
      cases he
      exact hX _ _ rfl (by rw [cd_take] at hp; exact hp)
    | name _ c h1 h2 h3 => rw [hnl c h1] at h2; cases h2
    | word _ c ts f h1 h2 h3 h4 => rw [hnl c h1] at h2; cases h2
    | sign _ c ts f h1 h2 h3 h4 =>
      have hal := (List.getElem?_eq_some_iff.1 h1).1
      simp only [decide_eq_true hal, vStrAt_nat _ h1, nil_ptr, cd_ld hP, cd_sti hP, cd_sts hP, cd_stb hP, List.set_cons_zero, List.set_cons_succ, List.length_cons, List.length_nil, Nat.reduceAdd, Nat.reduceLT, zz, Nat.reduceEqDiff, if_true, if_false, decide_true, decide_false, eq_self]
      refine (c169 _ _ _).callB ?_
      simp only [idx_blank, skip_at h1, hlss hal, vStrAt_nat _ h1, nil_ptr, cd_ld hP, cd_sti hP, cd_sts hP, cd_stb hP, List.set_cons_zero, List.set_cons_succ, List.length_cons, List.length_nil, Nat.reduceAdd, Nat.reduceLT, zz, Nat.reduceEqDiff, if_true, if_false, decide_true, decide_false, eq_self]
      refine (c170 _ _).callB ?_
      simp only [h2, nil_ptr, cd_ld hP, cd_sti hP, cd_sts hP, cd_stb hP, List.set_cons_zero, List.set_cons_succ, List.length_cons, List.length_nil, Nat.reduceAdd, Nat.reduceLT, zz, Nat.reduceEqDiff, if_true, if_false, decide_true, decide_false, eq_self]
      refine (c169 _ _ _).callB ?_
      simp only [idx_sign, h3, add_one (a := skip s a) (by omega), nil_ptr, cd_ld hP, cd_sti hP, cd_sts hP, cd_stb hP, List.set_cons_zero, List.set_cons_succ, List.length_cons, List.length_nil, Nat.reduceAdd, Nat.reduceLT, zz, Nat.reduceEqDiff, if_true, if_false, decide_true, decide_false, eq_self]
      have hgo : (goF f ts).bind (fun _ => Except.ok (PV.tuple [], ts)) = (goF f ts).bind (fun _ => Except.ok (PV.tuple [], ts)) := rfl
      have hok : goF f ((skip s a, signAt s (skip s a)) :: ts) = .ok ((skip s a, signAt s (skip s a)) :: ts) := by cases f <;> rfl
      have hsg : sgn ((skip s a, signAt s (skip s a)) :: ts) = signAt s (skip s a) := by
        obtain ⟨w, hw⟩ := sign_cons h1
        simp [sgn, isP, hw, h2]
      have fin := hR (.tuple []) ((skip s a, signAt s (skip s a)) :: ts) (by rw [hok]; rfl)
      simp only [hcells, hsg] at fin
      have hsub := sign_sub h1
      have hsl := sign_le h1
      by_cases hc : c = 58
      · subst hc
        have e58 : (((58 : UInt8).toNat : Int) == 58) = true := rfl
        simp only [e58, nil_ptr, cd_ld hP, cd_sti hP, cd_sts hP, cd_stb hP, List.set_cons_zero, List.set_cons_succ, List.length_cons, List.length_nil, Nat.reduceAdd, Nat.reduceLT, zz, Nat.reduceEqDiff, if_true, if_false, decide_true, decide_false, eq_self]
        by_cases hl2 : skip s a + 1 < s.length
        · have hd : s[skip s a + 1]? = some s[skip s a + 1] := List.getElem?_eq_getElem hl2
          simp only [decide_eq_true hl2, vStrAt_nat _ hd, nil_ptr, cd_ld hP, cd_sti hP, cd_sts hP, cd_stb hP, List.set_cons_zero, List.set_cons_succ, List.length_cons, List.length_nil, Nat.reduceAdd, Nat.reduceLT, zz, Nat.reduceEqDiff, if_true, if_false, decide_true, decide_false, eq_self]
          by_cases hd58 : s[skip s a + 1] = 58
          · rw [hd58] at hd
            have h2' := signAt_two h1 hd
            rw [h2'] at fin hsub hsl
            simp only [List.length_cons, List.length_nil, Nat.reduceAdd] at fin hsub hsl
            simp only [hd58, e58, add_one (a := skip s a + 1) (by omega), sub_str (show skip s a ≤ skip s a + 1 + 1 by omega) (show skip s a + 1 + 1 ≤ s.length by omega), nil_ptr, cd_ld hP, cd_sti hP, cd_sts hP, cd_stb hP, List.set_cons_zero, List.set_cons_succ, List.length_cons, List.length_nil, Nat.reduceAdd, Nat.reduceLT, zz, Nat.reduceEqDiff, if_true, if_false, decide_true, decide_false, eq_self]
            refine weakW_keep ?_
            rw [show skip s a + 1 + 1 = skip s a + 2 from rfl, hsub]
            exact fin
          · have h2' := signAt_one h1 (fun hh => hd58 (by rw [hd] at hh; exact Option.some.inj hh.2))
            rw [h2'] at fin hsub hsl
            simp only [List.length_cons, List.length_nil, Nat.reduceAdd] at fin hsub hsl
            have e2 := u8_ne hd58
            simp only [e2, sub_str (show skip s a ≤ skip s a + 1 by omega) (show skip s a + 1 ≤ s.length by omega), nil_ptr, cd_ld hP, cd_sti hP, cd_sts hP, cd_stb hP, List.set_cons_zero, List.set_cons_succ, List.length_cons, List.length_nil, Nat.reduceAdd, Nat.reduceLT, zz, Nat.reduceEqDiff, if_true, if_false, decide_true, decide_false, eq_self]
            refine weakW_keep ?_
            rw [hsub]
            exact fin
        · have h2' := signAt_one h1 (fun hh => hl2 (List.getElem?_eq_some_iff.1 hh.2).1)
          rw [h2'] at fin hsub hsl
          simp only [List.length_cons, List.length_nil, Nat.reduceAdd] at fin hsub hsl
          have : decide (skip s a + 1 < s.length) = false := by rw [decide_eq_false_iff_not]; exact hl2
          simp only [this, sub_str (show skip s a ≤ skip s a + 1 by omega) (show skip s a + 1 ≤ s.length by omega), nil_ptr, cd_ld hP, cd_sti hP, cd_sts hP, cd_stb hP, List.set_cons_zero, List.set_cons_succ, List.length_cons, List.length_nil, Nat.reduceAdd, Nat.reduceLT, zz, Nat.reduceEqDiff, if_true, if_false, decide_true, decide_false, eq_self]
          refine weakW_keep ?_
          rw [hsub]
          exact fin
      · have h2' := signAt_one h1 (fun hh => hc hh.1)
        rw [h2'] at fin hsub hsl
        simp only [List.length_cons, List.length_nil, Nat.reduceAdd] at fin hsub hsl
        have e2 := u8_ne hc
        simp only [e2, sub_str (show skip s a ≤ skip s a + 1 by omega) (show skip s a + 1 ≤ s.length by omega), nil_ptr, cd_ld hP, cd_sti hP, cd_sts hP, cd_stb hP, List.set_cons_zero, List.set_cons_succ, List.length_cons, List.length_nil, Nat.reduceAdd, Nat.reduceLT, zz, Nat.reduceEqDiff, if_true, if_false, decide_true, decide_false, eq_self]
        refine weakW_keep ?_
        rw [hsub]
        exact fin


theorem cd_pre {σ σ' : St} {P : Nat} {cs : List PV} (ds : List PV) (hP : P < σ.length) (h : cd σ P cs <+: σ') : cd σ P ds <+: cd σ' P ds := by
  obtain ⟨g, rfl⟩ := h
  refine ⟨g, ?_⟩
  unfold cd
  rw [List.set_append_left _ _ (by simpa using hP), List.set_set]
theorem pre_has {σ σ' : St} {P : Nat} {cs : List PV} (hP : P < σ.length) (h : cd σ P cs <+: σ') : Has σ' P cs := by
  obtain ⟨g, rfl⟩ := h
  have := cd_has hP cs
  unfold Has at this ⊢
  rw [List.getElem?_append_left (by simpa [cd] using hP)]
  exact this
theorem pan_pre {σ σ' σ'' : St} {P : Nat} {cs : List PV} (hP : P < σ.length) (h : cd σ P cs <+: σ') (h2 : σ'.take P <+: σ'') : σ.take P <+: σ'' := by
  obtain ⟨g, rfl⟩ := h
  rw [List.take_append_of_le_length (by simp [cd]; omega), cd_take] at h2
  exact h2
theorem pre_cell {σ σ' : St} {P : Nat} {cs : List PV} {v v' : PV} {K : PV → St → Prop} (hP : P < σ.length) (h : cd σ P cs <+: σ')
    (hcs : ∀ x ∈ cs, Flat x) (hv : FrzD σ' (fun b => σ.length ≤ b) v v') (hk : K v' (cd σ P cs)) : weakW σ v σ' K := by
  refine weakW_cell hP (by have := h.length_le; simpa [cd] using this) (fun c hc hne => ?_) (pre_has hP h) hcs hv hk
  obtain ⟨g, rfl⟩ := h
  rw [List.getElem?_append_left (by simpa [cd] using hc), cd_ne hne]
theorem grow_cd {n0 sz P : Nat} {σ : St} {x : PV} {ys cs : List PV} (h : Grow n0 sz σ x ys) (hP : P < n0) : Grow n0 sz (cd σ P cs) x ys := by
  rcases h with h | ⟨b, g, h1, h2, h3, h4⟩
  · exact .inl h
  · exact .inr ⟨b, g, h1, h2, by rw [cd_ne (by omega)]; exact h3, h4⟩

theorem c172 {s : Str} {f : Option Flt} {ts : List Tok} {σ : St} {P : Nat} (h : Has σ P (hcells s ts)) (hv : Val s f ts) : Ret W 172 [.ptr P 0 0 0] σ (.bool (isPart ts)) := by
  refine ret_of fun R hR => ?_
  rw [fn172_eq]
  unfold fn172
  simp only [nil_ptr, h.ld, zz, Nat.reduceEqDiff, if_true, if_false, decide_true, decide_false, eq_self]
  cases hv with
  | nil _ =>
    simp only [hcells, zz, Nat.reduceEqDiff, if_true, if_false, decide_true, decide_false, eq_self]
    exact weakW_keep hR
  | cons t ts h1 h2 h3 h4 h5 =>
    simp only [hcells, zz, Nat.reduceEqDiff, if_true, if_false, decide_true, decide_false, eq_self]
    refine weakW_keep ?_
    simp only [isPart, sgn] at hR ⊢
    cases hp : isP t with
    | true => simpa [hp] using hR
    | false =>
      have : (t.2 == ([] : Str)) = false := by simpa using h3
      simpa [hp, this] using hR

theorem c140 {s : Str} {ts : List Tok} {σ : St} {P : Nat} (h : Has σ P (hcells s ts)) : Rd 140 [.ptr P 0 0 0] σ P s (.error (wrongF s ts)) := by
  intro R hR hX
  refine callW_fold ?_
  rw [fn140_eq]
  unfold fn140
  simp only [nil_ptr, h.ld, zz, Nat.reduceEqDiff, if_true, if_false, decide_true, decide_false, eq_self]
  cases ts with
  | nil =>
    simp only [hcells, zz, Nat.reduceEqDiff, if_true, if_false, decide_true, decide_false, eq_self]
    refine (c171 P s).callB (fun v ts hh => by cases hh) fun e σ' he hp => ?_
    cases he
    exact hX _ _ rfl hp
  | cons t ts =>
    simp only [hcells, zz, Nat.reduceEqDiff, if_true, if_false, decide_true, decide_false, eq_self]
    refine (c171 P s).callB (fun v ts hh => by cases hh) fun e σ' he hp => ?_
    cases he
    exact hX _ _ rfl hp

/-- On to the next token. -/
theorem c136' {s : Str} (hs : s.length < 4611686018427387903) {σ : St} {P : Nat} {t : Tok} {ts : List Tok} {f : Option Flt} (hv : Val s f (t :: ts)) (h : Has σ P (hcells s (t :: ts))) :
    Rd 136 [.ptr P 0 0 0] σ P s ((goF f ts).bind fun _ => .ok (.tuple [], ts)) := by
  cases hv with
  | cons _ _ h1 h2 h3 h4 h5 => exact c136 hs h2 h5 h

theorem Val.tail {s : Str} {t : Tok} {ts ts' : List Tok} {f : Option Flt} (hv : Val s f (t :: ts)) (hg : goF f ts = .ok ts') : Val s f ts := by
  cases hv with
  | cons _ _ h1 h2 h3 h4 h5 => exact (h5.val h2 hg).2

theorem goF_ok {f : Option Flt} {ts ts' : List Tok} (h : goF f ts = .ok ts') : ts' = ts := by
  unfold goF at h
  split at h
  · cases h
  · exact (Except.ok.inj h).symm

/-- The text of a token is the part of the text between its ends. -/
theorem Val.sub {s : Str} {t : Tok} {ts : List Tok} {f : Option Flt} (hv : Val s f (t :: ts)) : vSubStr (.str s) (some (.int .i64 (t.1 : Nat))) (some (.int .i64 (t.1 + t.2.length : Nat))) = some (.str t.2) := by
  cases hv with
  | cons _ _ h1 h2 h3 h4 h5 => rw [sub_str (by omega) h2, h1]

theorem Val.okw {s : Str} (hs : s.length < 4611686018427387903) {t : Tok} {ts : List Tok} {f : Option Flt} (hv : Val s f (t :: ts)) : okS t.2 := by
  cases hv with
  | cons _ _ h1 h2 h3 h4 h5 => show t.2.length < _; omega

theorem c173 {s : Str} (hs : s.length < 4611686018427387903) {f : Option Flt} {ts : List Tok} {σ : St} {P : Nat} (h : Has σ P (hcells s ts)) (hv : Val s f ts) :
    Rd 173 [.ptr P 0 0 0] σ P s (if isPart ts && txt ts == EMPTY then (goF f ts.tail).bind fun _ => .ok (.bool true, ts.tail) else .ok (.bool false, ts)) := by
  intro R hR hX
  refine callW_fold ?_
  rw [fn173_eq]
  unfold fn173
  refine (c172 h hv).callB ?_
  cases hp : isPart ts with
  | false =>
    simp only [zz, Nat.reduceEqDiff, if_true, if_false, decide_true, decide_false, eq_self]
    refine weakW_keep ?_
    have := hR (.bool false) ts (by simp [hp])
    rw [h.self] at this
    exact this
  | true =>
    cases ts with
    | nil => cases hp
    | cons t ts =>
      simp only [nil_ptr, h.ld, hcells, hv.sub, zz, Nat.reduceEqDiff, if_true, if_false, decide_true, decide_false, eq_self]
      cases he : t.2 == [69, 77, 80, 84, 89] with
      | false =>
        simp only [zz, Nat.reduceEqDiff, if_true, if_false, decide_true, decide_false, eq_self]
        refine weakW_keep ?_
        have := hR (.bool false) (t :: ts) (by simp [txt, he])
        rw [h.self] at this
        exact this
      | true =>
        simp only [zz, Nat.reduceEqDiff, if_true, if_false, decide_true, decide_false, eq_self]
        have hif : (if (isPart (t :: ts) && txt (t :: ts) == EMPTY) = true then (goF f (t :: ts).tail).bind fun _ => Except.ok (PV.bool true, (t :: ts).tail) else Except.ok (PV.bool false, t :: ts)) = (goF f ts).bind fun _ => Except.ok (PV.bool true, ts) := by
          simp [hp, txt, he]
        rw [hif] at hR hX
        refine (c136' hs hv h).callB (fun v ts' hh => ?_) fun e σ' he hp => ?_
        · cases hg : goF f ts with
          | error e => rw [hg] at hh; cases hh
          | ok z =>
            rw [hg] at hh
            cases hh
            refine weakW_keep (hR _ _ (by rw [hg]; rfl))
        · cases hg : goF f ts with
          | error e => rw [hg] at he; cases he; exact hX _ _ (by rw [hg]; rfl) hp
          | ok z => rw [hg] at he; cases he

end Go.Proofs.YtiniifbmeobmgaaGreatDoor
