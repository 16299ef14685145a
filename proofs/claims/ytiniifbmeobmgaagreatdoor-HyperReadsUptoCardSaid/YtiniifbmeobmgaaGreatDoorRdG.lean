/- The reference's reader: its tokens. -/
import Derived.Test.YtiniifbmeobmgaaGreatDoorRdF
import Derived.Test.YtiniifbmeobmgaaGreatDoorFnF
set_option linter.unusedVariables false
set_option linter.unusedSimpArgs false
namespace Go.Proofs.YtiniifbmeobmgaaGreatDoor
open Go Go.Abs

theorem c141 (c : UInt8) (σ : St) : Ret W 141 [.int .u8 (c.toNat : Int)] σ (.bool (letB c)) := by
  refine ret_of fun R hR => ?_
  rw [fn141_eq]
  unfold fn141
  unfold letB at hR
  simp only [zz, Nat.reduceEqDiff, if_true, if_false, decide_true, decide_false, eq_self]
  cases h1 : decide ((c.toNat : Int) ≥ 97) <;> simp only [h1, Bool.true_and, Bool.false_and, Bool.false_or, zz, Nat.reduceEqDiff, if_true, if_false, decide_true, decide_false, eq_self] at hR ⊢
  all_goals first
    | (cases h2 : decide ((c.toNat : Int) ≤ 122) <;> simp only [h2, Bool.true_or, Bool.false_or, zz, Nat.reduceEqDiff, if_true, if_false, decide_true, decide_false, eq_self] at hR ⊢)
    | skip
  all_goals first
    | exact weakW_keep hR
    | (cases h3 : decide ((c.toNat : Int) ≥ 65) <;> simp only [h3, Bool.true_and, Bool.false_and, Bool.false_or, zz, Nat.reduceEqDiff, if_true, if_false, decide_true, decide_false, eq_self] at hR ⊢)
  all_goals first
    | (cases h4 : decide ((c.toNat : Int) ≤ 90) <;> simp only [h4, Bool.true_or, Bool.false_or, zz, Nat.reduceEqDiff, if_true, if_false, decide_true, decide_false, eq_self] at hR ⊢)
    | skip
  all_goals first
    | exact weakW_keep hR
    | (cases h5 : decide ((c.toNat : Int) ≥ 49) <;> simp only [h5, Bool.true_and, Bool.false_and, zz, Nat.reduceEqDiff, if_true, if_false, decide_true, decide_false, eq_self] at hR ⊢)
  all_goals first
    | exact weakW_keep hR
    | (cases h6 : decide ((c.toNat : Int) ≤ 57) <;> simp only [h6, zz, Nat.reduceEqDiff, if_true, if_false, decide_true, decide_false, eq_self] at hR ⊢)
  all_goals exact weakW_keep hR

/-- The reference's reader: where it is, its token, its fault. -/
structure RR where
  a : Nat
  tt : Str
  ta : Nat
  e : Flt

def rc (s : Str) (q : RR) : List PV := [.str s, .int .i64 q.a, .str q.tt, .int .i64 q.ta, .int .i64 q.e.1, .int .i64 q.e.2]

theorem rc_flat (s : Str) (q : RR) : ∀ x ∈ rc s q, Flat x := by
  intro x hx
  simp only [rc, List.mem_cons, List.not_mem_nil, or_false] at hx
  rcases hx with rfl | rfl | rfl | rfl | rfl | rfl <;> constructor

/-- A function of the reference's reader: it leaves the reader in another state. -/
def Up (f : FuncId) (args : List PV) (σ : St) (P : Nat) (s : Str) (v : PV) (q : RR) : Prop := ∀ R : Res → St → Prop, R (.ret v) (cd σ P (rc s q)) → W f args σ R

theorem Up.callB {f : FuncId} {args : List PV} {σ : St} {P : Nat} {s : Str} {v : PV} {q : RR} (h : Up f args σ P s v q) {K X : PV → St → Prop} (k : K v (cd σ P (rc s q))) : Go.Abs.callB W f args σ K X := h _ k

def RR.stop (q : RR) (at_ : Nat) (code : Int) : RR := if q.e.2 == 0 then { q with e := (at_, code) } else q

theorem cd_st2 {σ : St} {P : Nat} (hP : P < σ.length) {a b c d e f x y : PV} : vStore 2 (.ptr P 0 0 4) (.agg [x, y]) (cd σ P [a, b, c, d, e, f]) = some (cd σ P [a, b, c, d, x, y]) := by
  have h : Has (cd σ P [a, b, c, d, e, f]) P [a, b, c, d, e, f] := cd_has hP _
  unfold Has at h
  simp [vStore, h, vPut, PV.cells?, setRange]
  simp [cd]
theorem cd_st3 {σ : St} {P : Nat} (hP : P < σ.length) {a b c d e f x y : PV} : vStore 2 (.ptr P 0 0 2) (.agg [x, y]) (cd σ P [a, b, c, d, e, f]) = some (cd σ P [a, b, x, y, e, f]) := by
  have h : Has (cd σ P [a, b, c, d, e, f]) P [a, b, c, d, e, f] := cd_has hP _
  unfold Has at h
  simp [vStore, h, vPut, PV.cells?, setRange]
  simp [cd]

theorem c142 {s : Str} {q : RR} {σ : St} {P : Nat} (h : Has σ P (rc s q)) (at_ : Nat) (code : Int) : Up 142 [.ptr P 0 0 0, .int .i64 at_, .int .i64 code] σ P s (.tuple []) (q.stop at_ code) := by
  intro R hR
  have hP := h.lt
  refine callW_fold ?_
  rw [fn142_eq]
  unfold fn142
  have hb : vBuild [(.int .i64 0), (.int .i64 0)] [(0, 1, .int .i64 at_), (1, 1, .int .i64 code)] = some [.int .i64 at_, .int .i64 code] := rfl
  rw [← h.self]
  simp only [rc, nil_ptr, cd_ld hP, cd_sti hP, cd_sts hP, cd_stb hP, List.set_cons_zero, List.set_cons_succ, List.length_cons, List.length_nil, Nat.reduceAdd, Nat.reduceLT, zz, Nat.reduceEqDiff, if_true, if_false, decide_true, decide_false, eq_self]
  unfold RR.stop at hR
  cases he : q.e.2 == 0 with
  | true =>
    rw [he] at hR
    simp only [he, hb, cd_st2 hP, nil_ptr, cd_ld hP, cd_sti hP, cd_sts hP, cd_stb hP, List.set_cons_zero, List.set_cons_succ, List.length_cons, List.length_nil, Nat.reduceAdd, Nat.reduceLT, zz, Nat.reduceEqDiff, if_true, if_false, decide_true, decide_false, eq_self]
    exact weakW_keep hR
  | false =>
    rw [he] at hR
    simp only [he, nil_ptr, cd_ld hP, cd_sti hP, cd_sts hP, cd_stb hP, List.set_cons_zero, List.set_cons_succ, List.length_cons, List.length_nil, Nat.reduceAdd, Nat.reduceLT, zz, Nat.reduceEqDiff, if_true, if_false, decide_true, decide_false, eq_self]
    exact weakW_keep hR

def isPs : Str → Bool
  | c :: _ => letB c
  | [] => false

theorem c143 {s : Str} {q : RR} {σ : St} {P : Nat} (h : Has σ P (rc s q)) : Ret W 143 [.ptr P 0 0 0] σ (.bool (isPs q.tt)) := by
  refine ret_of fun R hR => ?_
  have hP := h.lt
  rw [fn143_eq]
  unfold fn143
  simp only [nil_ptr, h.ld, rc, zz, Nat.reduceEqDiff, if_true, if_false, decide_true, decide_false, eq_self]
  cases htt : q.tt with
  | nil =>
    have e0 : (([] : Str) == []) = true := rfl
    simp only [e0, zz, Nat.reduceEqDiff, if_true, if_false, decide_true, decide_false, eq_self]
    refine weakW_keep ?_
    rw [htt] at hR
    exact hR
  | cons c w =>
    have e0 : ((c :: w : Str) == []) = false := rfl
    have hat : vStrAt (.str (c :: w)) (.int .i64 0) = some (.int .u8 (c.toNat : Int)) := vStrAt_nat .i64 (i := 0) rfl
    simp only [e0, hat, zz, Nat.reduceEqDiff, if_true, if_false, decide_true, decide_false, eq_self]
    refine (c141 _ _).callB ?_
    refine weakW_keep ?_
    rw [htt] at hR
    exact hR

def RR.wrong (s : Str) (q : RR) : RR := (if q.tt == [] then q.stop s.length 16 else q).stop q.ta 9

theorem c79 {s : Str} {q : RR} {σ : St} {P : Nat} (h : Has σ P (rc s q)) : Up 79 [.ptr P 0 0 0] σ P s (.tuple []) (q.wrong s) := by
  intro R hR
  have hP := h.lt
  refine callW_fold ?_
  rw [fn79_eq]
  unfold fn79
  refine CutW_of ?_
  simp only [nil_ptr, h.ld, rc, zz, Nat.reduceEqDiff, if_true, if_false, decide_true, decide_false, eq_self]
  unfold RR.wrong at hR
  cases he : q.tt == [] with
  | true =>
    rw [he] at hR
    simp only [he, zz, Nat.reduceEqDiff, if_true, if_false, decide_true, decide_false, eq_self]
    refine (c142 h s.length 16).callB ?_
    have h2 := cd_has hP (rc s (q.stop s.length 16))
    have hta : (rc s (q.stop s.length 16))[3]? = some (.int .i64 q.ta) := by
      unfold RR.stop
      split <;> rfl
    simp only [nil_ptr, h2.ld, hta, zz, Nat.reduceEqDiff, if_true, if_false, decide_true, decide_false, eq_self]
    refine (c142 h2 q.ta 9).callB ?_
    simp only [cd_cd]
    exact weakW_keep hR
  | false =>
    rw [he] at hR
    simp only [he, nil_ptr, h.ld, rc, zz, Nat.reduceEqDiff, if_true, if_false, decide_true, decide_false, eq_self]
    refine (c142 h q.ta 9).callB ?_
    exact weakW_keep hR

/-- The next token, whatever the fault. -/
def RR.next (s : Str) (q : RR) : RR :=
  match s[skip s q.a]? with
  | none => { a := s.length, tt := [], ta := s.length, e := q.e }
  | some c =>
    if letB c then { a := skip s q.a + (wordAt s (skip s q.a)).length, tt := wordAt s (skip s q.a), ta := skip s q.a, e := q.e }
    else if signB c then { a := skip s q.a + (signAt s (skip s q.a)).length, tt := signAt s (skip s q.a), ta := skip s q.a, e := q.e }
    else { a := s.length, tt := [], ta := skip s q.a, e := (q.stop (skip s q.a) 2).e }


theorem u8_lit (c : UInt8) (k : Nat) (hk : k < 256) : ((c.toNat : Int) == (k : Int)) = (c == UInt8.ofNat k) := by
  rw [Bool.eq_iff_iff, beq_iff_eq, beq_iff_eq]
  have h2 : (UInt8.ofNat k).toNat = k := by simp [UInt8.toNat_ofNat']; omega
  constructor
  · intro h
    refine UInt8.toNat_inj.1 ?_
    rw [h2]
    omega
  · rintro rfl
    rw [h2]

theorem word_none {s : Str} {p : Nat} (h : s.length ≤ p) : wordAt s p = [] := by
  unfold wordAt
  rw [List.drop_eq_nil_of_le h]
  rfl
theorem word_not {s : Str} {p : Nat} {c : UInt8} (h : s[p]? = some c) (hc : letB c = false) : wordAt s p = [] := by
  unfold wordAt
  rw [drop_cons h, List.takeWhile_cons, hc]
  rfl

theorem c78 {s : Str} (hs : s.length < 4611686018427387903) {q : RR} {σ : St} {P : Nat} (h : Has σ P (rc s q)) (ha : q.a ≤ s.length) : Up 78 [.ptr P 0 0 0] σ P s (.tuple []) (q.next s) := by
  intro R hR
  have hP := h.lt
  refine callW_fold ?_
  rw [fn78_eq]
  unfold fn78
  refine CutW_of ?_
  refine Lfp_up (skip s q.a - q.a) (fun i x σ' => x = lookP [(0, .ptr P 0 0 0)] ∧ σ' = cd σ P [.str s, .int .i64 ((q.a + i : Nat) : Int), .str q.tt, .int .i64 q.ta, .int .i64 q.e.1, .int .i64 q.e.2]) ?_ ⟨rfl, h.self.symm⟩
  rintro Φ i x σ1 hi ⟨rfl, rfl⟩ hnext
  have hge := skip_ge s q.a
  have hle := skip_le ha
  simp only [nil_ptr, cd_ld hP, cd_sti hP, cd_sts hP, cd_stb hP, List.set_cons_zero, List.set_cons_succ, List.length_cons, List.length_nil, Nat.reduceAdd, Nat.reduceLT, zz, Nat.reduceEqDiff, if_true, if_false, decide_true, decide_false, eq_self]
  have hdn : ∀ {a b : Nat}, ¬ a < b → decide (a < b) = false := fun h => by rw [decide_eq_false_iff_not]; exact h
  by_cases hlt : i < skip s q.a - q.a
  · obtain ⟨c, hc, hb⟩ := skip_lt (show q.a + i < skip s q.a by omega)
    have hal := (List.getElem?_eq_some_iff.1 hc).1
    have e32 : ((c.toNat : Int) == 32) = (c == 32) := u8_lit c 32 (by decide)
    have e9 : ((c.toNat : Int) == 9) = (c == 9) := u8_lit c 9 (by decide)
    have e10 : ((c.toNat : Int) == 10) = (c == 10) := u8_lit c 10 (by decide)
    have go := hnext (lookP [(0, .ptr P 0 0 0)]) _ hlt ⟨rfl, rfl⟩
    rw [← Nat.add_assoc] at go
    cases h1 : c == 32 with
    | true =>
      simp only [decide_eq_true hal, vStrAt_nat _ hc, e32, h1, add_one (a := q.a + i) (by omega), nil_ptr, cd_ld hP, cd_sti hP, cd_sts hP, cd_stb hP, List.set_cons_zero, List.set_cons_succ, List.length_cons, List.length_nil, Nat.reduceAdd, Nat.reduceLT, zz, Nat.reduceEqDiff, if_true, if_false, decide_true, decide_false, eq_self]
      exact go
    | false =>
      cases h2 : c == 9 with
      | true =>
        simp only [decide_eq_true hal, vStrAt_nat _ hc, e32, e9, h1, h2, add_one (a := q.a + i) (by omega), nil_ptr, cd_ld hP, cd_sti hP, cd_sts hP, cd_stb hP, List.set_cons_zero, List.set_cons_succ, List.length_cons, List.length_nil, Nat.reduceAdd, Nat.reduceLT, zz, Nat.reduceEqDiff, if_true, if_false, decide_true, decide_false, eq_self]
        exact go
      | false =>
        cases h3 : c == 10 with
        | true =>
          simp only [decide_eq_true hal, vStrAt_nat _ hc, e32, e9, e10, h1, h2, h3, add_one (a := q.a + i) (by omega), nil_ptr, cd_ld hP, cd_sti hP, cd_sts hP, cd_stb hP, List.set_cons_zero, List.set_cons_succ, List.length_cons, List.length_nil, Nat.reduceAdd, Nat.reduceLT, zz, Nat.reduceEqDiff, if_true, if_false, decide_true, decide_false, eq_self]
          exact go
        | false => simp [blankB, h1, h2, h3] at hb
  · have hai : q.a + i = skip s q.a := by omega
    simp only [hai]
    clear hnext hi hlt
    by_cases hend : skip s q.a < s.length
    all_goals first
      | (have hc : s[skip s q.a]? = some s[skip s q.a] := List.getElem?_eq_getElem hend
         have hb := skip_at hc
         have e32 : ((s[skip s q.a].toNat : Int) == 32) = (s[skip s q.a] == 32) := u8_lit _ 32 (by decide)
         have e9 : ((s[skip s q.a].toNat : Int) == 9) = (s[skip s q.a] == 9) := u8_lit _ 9 (by decide)
         have e10 : ((s[skip s q.a].toNat : Int) == 10) = (s[skip s q.a] == 10) := u8_lit _ 10 (by decide)
         have b1 : (s[skip s q.a] == 32) = false := by
           cases hh : s[skip s q.a] == 32 with
           | false => rfl
           | true => simp [blankB, hh] at hb
         have b2 : (s[skip s q.a] == 9) = false := by
           cases hh : s[skip s q.a] == 9 with
           | false => rfl
           | true => simp [blankB, hh] at hb
         have b3 : (s[skip s q.a] == 10) = false := by
           cases hh : s[skip s q.a] == 10 with
           | false => rfl
           | true => simp [blankB, hh] at hb
         simp only [decide_eq_true hend, vStrAt_nat _ hc, e32, e9, e10, b1, b2, b3, nil_ptr, cd_ld hP, cd_sti hP, cd_sts hP, cd_stb hP, List.set_cons_zero, List.set_cons_succ, List.length_cons, List.length_nil, Nat.reduceAdd, Nat.reduceLT, zz, Nat.reduceEqDiff, if_true, if_false, decide_true, decide_false, eq_self])
      | simp only [hdn hend, nil_ptr, cd_ld hP, cd_sti hP, cd_sts hP, cd_stb hP, List.set_cons_zero, List.set_cons_succ, List.length_cons, List.length_nil, Nat.reduceAdd, Nat.reduceLT, zz, Nat.reduceEqDiff, if_true, if_false, decide_true, decide_false, eq_self]
    all_goals
      refine CutW_of ?_
      refine Lfp_up (wordAt s (skip s q.a)).length (fun i x σ' => x = lookP [(0, .ptr P 0 0 0), (2, .int .i64 (skip s q.a : Nat))] ∧ σ' = cd σ P [.str s, .int .i64 ((skip s q.a + i : Nat) : Int), .str q.tt, .int .i64 q.ta, .int .i64 q.e.1, .int .i64 q.e.2]) ?_ ⟨rfl, rfl⟩
      rintro Φ2 j x σ1 hj ⟨rfl, rfl⟩ hnext
      simp only [nil_ptr, cd_ld hP, cd_sti hP, cd_sts hP, cd_stb hP, List.set_cons_zero, List.set_cons_succ, List.length_cons, List.length_nil, Nat.reduceAdd, Nat.reduceLT, zz, Nat.reduceEqDiff, if_true, if_false, decide_true, decide_false, eq_self]
      have hwle := word_le (s := s) hle
      by_cases hlt : j < (wordAt s (skip s q.a)).length
      · obtain ⟨d, hd, hb⟩ := word_lt hlt
        have hdl := (List.getElem?_eq_some_iff.1 hd).1
        simp only [decide_eq_true hdl, vStrAt_nat _ hd, nil_ptr, cd_ld hP, cd_sti hP, cd_sts hP, cd_stb hP, List.set_cons_zero, List.set_cons_succ, List.length_cons, List.length_nil, Nat.reduceAdd, Nat.reduceLT, zz, Nat.reduceEqDiff, if_true, if_false, decide_true, decide_false, eq_self]
        refine (c141 _ _).callB ?_
        simp only [hb, add_one (a := skip s q.a + j) (by omega), nil_ptr, cd_ld hP, cd_sti hP, cd_sts hP, cd_stb hP, List.set_cons_zero, List.set_cons_succ, List.length_cons, List.length_nil, Nat.reduceAdd, Nat.reduceLT, zz, Nat.reduceEqDiff, if_true, if_false, decide_true, decide_false, eq_self]
        exact hnext _ _ hlt ⟨rfl, by rw [Nat.add_assoc]⟩
      · obtain rfl : j = (wordAt s (skip s q.a)).length := by omega
        clear hnext hj hlt
        by_cases hend2 : skip s q.a + (wordAt s (skip s q.a)).length < s.length
        all_goals first
          | (have hd : s[skip s q.a + (wordAt s (skip s q.a)).length]? = some s[skip s q.a + (wordAt s (skip s q.a)).length] := List.getElem?_eq_getElem hend2
             simp only [decide_eq_true hend2, vStrAt_nat _ hd, nil_ptr, cd_ld hP, cd_sti hP, cd_sts hP, cd_stb hP, List.set_cons_zero, List.set_cons_succ, List.length_cons, List.length_nil, Nat.reduceAdd, Nat.reduceLT, zz, Nat.reduceEqDiff, if_true, if_false, decide_true, decide_false, eq_self]
             refine (c141 _ _).callB ?_
             simp only [word_at hd, nil_ptr, cd_ld hP, cd_sti hP, cd_sts hP, cd_stb hP, List.set_cons_zero, List.set_cons_succ, List.length_cons, List.length_nil, Nat.reduceAdd, Nat.reduceLT, zz, Nat.reduceEqDiff, if_true, if_false, decide_true, decide_false, eq_self])
          | simp only [hdn hend2, nil_ptr, cd_ld hP, cd_sti hP, cd_sts hP, cd_stb hP, List.set_cons_zero, List.set_cons_succ, List.length_cons, List.length_nil, Nat.reduceAdd, Nat.reduceLT, zz, Nat.reduceEqDiff, if_true, if_false, decide_true, decide_false, eq_self]
        all_goals
          refine CutW_of ?_
          simp only [nil_ptr, cd_ld hP, cd_sti hP, cd_sts hP, cd_stb hP, List.set_cons_zero, List.set_cons_succ, List.length_cons, List.length_nil, Nat.reduceAdd, Nat.reduceLT, zz, Nat.reduceEqDiff, if_true, if_false, decide_true, decide_false, eq_self]
          have heq : ∀ n : Nat, ((n : Int) == (n : Int)) = true := fun n => by simp
          have hb2 : ∀ (w : Str) (n : Int), vBuild [(.str []), (.int .i64 0)] [(0, 1, .str w), (1, 1, .int .i64 n)] = some [.str w, .int .i64 n] := fun w n => rfl
          cases hc0 : s[skip s q.a]? with
          | none =>
            have hp : s.length ≤ skip s q.a := by simpa using hc0
            have hnx : q.next s = { a := s.length, tt := [], ta := s.length, e := q.e } := by unfold RR.next; rw [hc0]
            rw [hnx] at hR
            have hw := word_none hp
            have hpe : skip s q.a = s.length := by omega
            rw [hpe] at hw
            have hsub := sub_str (s := s) (a := s.length) (b := s.length) (Nat.le_refl _) (Nat.le_refl _)
            simp only [hpe, hw, List.length_nil, Nat.add_zero, heq, hdn (Nat.lt_irrefl s.length), hsub, hb2, cd_st3 hP, nil_ptr, cd_ld hP, cd_sti hP, cd_sts hP, cd_stb hP, List.set_cons_zero, List.set_cons_succ, List.length_cons, List.length_nil, Nat.reduceAdd, Nat.reduceLT, zz, Nat.reduceEqDiff, if_true, if_false, decide_true, decide_false, eq_self]
            refine weakW_keep ?_
            have : List.drop s.length (List.take s.length s) = [] := by simp
            rw [this]
            exact hR
          | some c =>
            have hcl := (List.getElem?_eq_some_iff.1 hc0).1
            cases hl : letB c with
            | true =>
              have hnx : q.next s = { a := skip s q.a + (wordAt s (skip s q.a)).length, tt := wordAt s (skip s q.a), ta := skip s q.a, e := q.e } := by unfold RR.next; rw [hc0]; simp [hl]
              rw [hnx] at hR
              obtain ⟨w, hw⟩ := word_cons hc0 hl
              have hpos : 0 < (wordAt s (skip s q.a)).length := by rw [hw]; simp
              have hne : (((skip s q.a + (wordAt s (skip s q.a)).length : Nat) : Int) == (skip s q.a : Int)) = false := by
                rw [beq_eq_false_iff_ne]
                omega
              simp only [hne, sub_str (show skip s q.a ≤ skip s q.a + (wordAt s (skip s q.a)).length by omega) hwle, word_sub, hb2, cd_st3 hP, nil_ptr, cd_ld hP, cd_sti hP, cd_sts hP, cd_stb hP, List.set_cons_zero, List.set_cons_succ, List.length_cons, List.length_nil, Nat.reduceAdd, Nat.reduceLT, zz, Nat.reduceEqDiff, if_true, if_false, decide_true, decide_false, eq_self]
              exact weakW_keep hR
            | false =>
              have hw := word_not hc0 hl
              have n46 : ((c.toNat : Int) != 46) = !(c == 46) := congrArg (fun x => !x) (u8_lit c 46 (by decide))
              have n58 : ((c.toNat : Int) != 58) = !(c == 58) := congrArg (fun x => !x) (u8_lit c 58 (by decide))
              have n59 : ((c.toNat : Int) != 59) = !(c == 59) := congrArg (fun x => !x) (u8_lit c 59 (by decide))
              have n44 : ((c.toNat : Int) != 44) = !(c == 44) := congrArg (fun x => !x) (u8_lit c 44 (by decide))
              have e58 : ((c.toNat : Int) == 58) = (c == 58) := u8_lit c 58 (by decide)
              have hcon : skip s q.a + (wordAt s (skip s q.a)).length < s.length := by rw [hw]; exact hcl
              first
               | exact absurd hcon hend2
               | (
                 have hsub1 := sub_str (s := s) (show skip s q.a ≤ skip s q.a + 1 by omega) (show skip s q.a + 1 ≤ s.length by omega)
                 have one : ¬ (c = 58 ∧ s[skip s q.a + 1]? = some 58) → signB c = true → R (.ret (.tuple [])) (cd σ P [.str s, .int .i64 (skip s q.a + 1 : Nat), .str ((s.take (skip s q.a + 1)).drop (skip s q.a)), .int .i64 (skip s q.a), .int .i64 q.e.1, .int .i64 q.e.2]) := by
                   intro h1 h2
                   have hnx : q.next s = { a := skip s q.a + (signAt s (skip s q.a)).length, tt := signAt s (skip s q.a), ta := skip s q.a, e := q.e } := by unfold RR.next; rw [hc0]; simp [hl, h2]
                   rw [hnx] at hR
                   have h3 := signAt_one hc0 h1
                   have h4 := sign_sub hc0
                   rw [h3] at h4 hR
                   simp only [List.length_cons, List.length_nil, Nat.reduceAdd] at h4 hR
                   rw [h4]
                   exact hR
                 by_cases h58 : c = 58
                 · subst h58
                   have z46 : ((58 : UInt8) == 46) = false := rfl
                   have z58 : ((58 : UInt8) == 58) = true := rfl
                   by_cases hl2 : skip s q.a + 1 < s.length
                   · have hd2 : s[skip s q.a + 1]? = some s[skip s q.a + 1] := List.getElem?_eq_getElem hl2
                     have ed : ((s[skip s q.a + 1].toNat : Int) == 58) = (s[skip s q.a + 1] == 58) := u8_lit _ 58 (by decide)
                     cases h2 : s[skip s q.a + 1] == 58 with
                     | false =>
                       simp only [hw, List.length_nil, Nat.add_zero, heq, decide_eq_true hcl, decide_eq_true hl2, vStrAt_nat _ hc0, vStrAt_nat _ hd2, n46, n58, z46, z58, e58, ed, h2, add_one (a := skip s q.a) (by omega), hsub1, hb2, cd_st3 hP, nil_ptr, cd_ld hP, cd_sti hP, cd_sts hP, cd_stb hP, List.set_cons_zero, List.set_cons_succ, List.length_cons, List.length_nil, Nat.reduceAdd, Nat.reduceLT, zz, Nat.reduceEqDiff, if_true, if_false, decide_true, decide_false, eq_self]
                       refine weakW_keep (one (fun hh => ?_) rfl)
                       rw [hd2] at hh
                       have := Option.some.inj hh.2
                       rw [this] at h2
                       cases h2
                     | true =>
                       have h3 : s[skip s q.a + 1]? = some 58 := by rw [hd2]; exact congrArg some (by simpa using h2)
                       have h4 := signAt_two hc0 h3
                       have h5 := sign_sub hc0
                       have hnx : q.next s = { a := skip s q.a + (signAt s (skip s q.a)).length, tt := signAt s (skip s q.a), ta := skip s q.a, e := q.e } := by unfold RR.next; rw [hc0]; simp [hl, show signB 58 = true from rfl]
                       rw [hnx] at hR
                       rw [h4] at h5 hR
                       simp only [List.length_cons, List.length_nil, Nat.reduceAdd] at h5 hR
                       simp only [hw, List.length_nil, Nat.add_zero, heq, decide_eq_true hcl, decide_eq_true hl2, vStrAt_nat _ hc0, vStrAt_nat _ hd2, n46, n58, z46, z58, e58, ed, h2, add_one (a := skip s q.a) (by omega), add_one (a := skip s q.a + 1) (by omega),
                         sub_str (s := s) (show skip s q.a ≤ skip s q.a + 1 + 1 by omega) (show skip s q.a + 1 + 1 ≤ s.length by omega), hb2, cd_st3 hP, nil_ptr, cd_ld hP, cd_sti hP, cd_sts hP, cd_stb hP, List.set_cons_zero, List.set_cons_succ, List.length_cons, List.length_nil, Nat.reduceAdd, Nat.reduceLT, zz, Nat.reduceEqDiff, if_true, if_false, decide_true, decide_false, eq_self]
                       refine weakW_keep ?_
                       rw [show skip s q.a + 1 + 1 = skip s q.a + 2 from rfl, h5]
                       exact hR
                   · simp only [hw, List.length_nil, Nat.add_zero, heq, decide_eq_true hcl, hdn hl2, vStrAt_nat _ hc0, n46, n58, z46, z58, e58, add_one (a := skip s q.a) (by omega), hsub1, hb2, cd_st3 hP, nil_ptr, cd_ld hP, cd_sti hP, cd_sts hP, cd_stb hP, List.set_cons_zero, List.set_cons_succ, List.length_cons, List.length_nil, Nat.reduceAdd, Nat.reduceLT, zz, Nat.reduceEqDiff, if_true, if_false, decide_true, decide_false, eq_self]
                     exact weakW_keep (one (fun hh => hl2 (List.getElem?_eq_some_iff.1 hh.2).1) rfl)
                 · have z58 : (c == 58) = false := by simpa using h58
                   have hone := one (fun hh => h58 hh.1)
                   cases h1 : c == 46 with
                   | true =>
                     simp only [hw, List.length_nil, Nat.add_zero, heq, decide_eq_true hcl, vStrAt_nat _ hc0, n46, n58, n59, n44, e58, z58, h1, add_one (a := skip s q.a) (by omega), hsub1, hb2, cd_st3 hP, nil_ptr, cd_ld hP, cd_sti hP, cd_sts hP, cd_stb hP, List.set_cons_zero, List.set_cons_succ, List.length_cons, List.length_nil, Nat.reduceAdd, Nat.reduceLT, zz, Nat.reduceEqDiff, if_true, if_false, decide_true, decide_false, eq_self]
                     exact weakW_keep (hone (by simp [signB, h1]))
                   | false =>
                     cases h2 : c == 59 with
                     | true =>
                       simp only [hw, List.length_nil, Nat.add_zero, heq, decide_eq_true hcl, vStrAt_nat _ hc0, n46, n58, n59, n44, e58, z58, h1, h2, add_one (a := skip s q.a) (by omega), hsub1, hb2, cd_st3 hP, nil_ptr, cd_ld hP, cd_sti hP, cd_sts hP, cd_stb hP, List.set_cons_zero, List.set_cons_succ, List.length_cons, List.length_nil, Nat.reduceAdd, Nat.reduceLT, zz, Nat.reduceEqDiff, if_true, if_false, decide_true, decide_false, eq_self]
                       exact weakW_keep (hone (by simp [signB, h2]))
                     | false =>
                       cases h3 : c == 44 with
                       | true =>
                         simp only [hw, List.length_nil, Nat.add_zero, heq, decide_eq_true hcl, vStrAt_nat _ hc0, n46, n58, n59, n44, e58, z58, h1, h2, h3, add_one (a := skip s q.a) (by omega), hsub1, hb2, cd_st3 hP, nil_ptr, cd_ld hP, cd_sti hP, cd_sts hP, cd_stb hP, List.set_cons_zero, List.set_cons_succ, List.length_cons, List.length_nil, Nat.reduceAdd, Nat.reduceLT, zz, Nat.reduceEqDiff, if_true, if_false, decide_true, decide_false, eq_self]
                         exact weakW_keep (hone (by simp [signB, h3]))
                       | false =>
                         have hsb : signB c = false := by simp [signB, h1, h2, h3, z58]
                         have hnx : q.next s = { a := s.length, tt := [], ta := skip s q.a, e := (q.stop (skip s q.a) 2).e } := by unfold RR.next; rw [hc0]; simp [hl, hsb]
                         rw [hnx] at hR
                         simp only [hw, List.length_nil, Nat.add_zero, heq, decide_eq_true hcl, vStrAt_nat _ hc0, n46, n58, n59, n44, e58, z58, h1, h2, h3, nil_ptr, cd_ld hP, cd_sti hP, cd_sts hP, cd_stb hP, List.set_cons_zero, List.set_cons_succ, List.length_cons, List.length_nil, Nat.reduceAdd, Nat.reduceLT, zz, Nat.reduceEqDiff, if_true, if_false, decide_true, decide_false, eq_self]
                         have hq := cd_has hP (rc s { q with a := skip s q.a })
                         refine (c142 (q := { q with a := skip s q.a }) hq (skip s q.a) 2).callB ?_
                         have hst : RR.stop { q with a := skip s q.a } (skip s q.a) 2 = { q with a := skip s q.a, e := (q.stop (skip s q.a) 2).e } := by
                           unfold RR.stop
                           split <;> rfl
                         rw [hst, cd_cd]
                         simp only [rc, hb2, cd_st3 hP, nil_ptr, cd_ld hP, cd_sti hP, cd_sts hP, cd_stb hP, List.set_cons_zero, List.set_cons_succ, List.length_cons, List.length_nil, Nat.reduceAdd, Nat.reduceLT, zz, Nat.reduceEqDiff, if_true, if_false, decide_true, decide_false, eq_self]
                         exact weakW_keep hR)

end Go.Proofs.YtiniifbmeobmgaaGreatDoor
