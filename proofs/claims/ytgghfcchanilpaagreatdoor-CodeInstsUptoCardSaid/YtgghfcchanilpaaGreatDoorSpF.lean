/- The instruction of a text, as the package reads it. -/
import Derived.Test.YtgghfcchanilpaaGreatDoorSpE
set_option linter.unusedVariables false
set_option linter.unusedSimpArgs false
namespace Go.Proofs.YtgghfcchanilpaaGreatDoor
open Go Go.Abs
open Go.Lib (decDigits itoa)

theorem num_end (s : Str) : ∃ e, numEnd (Go.Lib.atoiAll s) (Go.Lib.atoiSat s) = .tuple [.int .i64 (numS s), e] := by
  unfold numS numEnd
  cases Go.Lib.atoiAll s with
  | ok v => exact ⟨_, rfl⟩
  | range => exact ⟨_, rfl⟩
  | _ => exact ⟨_, rfl⟩

theorem c50 {s : Str} (h : s.length ≤ 281474976710656) (σ : St) : ∃ e, Ret W 50 [.str s] σ (.tuple [.int .i64 (numS s), e]) := by
  obtain ⟨e, he⟩ := num_end s
  refine ⟨e, ret_of fun R hR => ?_⟩
  show bindO False (extAtoi [.str s] σ) (fun r => R (.ret r.1) r.2)
  have : extAtoi [.str s] σ = some (.tuple [.int .i64 (numS s), e], σ) := by
    simp only [extAtoi]
    rw [if_pos h, he]
  rw [this]
  exact hR

theorem c49 {s : Str} (h : s.length ≤ 281474976710656) (σ : St) : ∃ e, Ret W 49 [.str s, .int .i64 10, .int .i64 64] σ (.tuple [.int .i64 (numS s), e]) := by
  obtain ⟨e, he⟩ := num_end s
  refine ⟨e, ret_of fun R hR => ?_⟩
  show bindO False (extParse [.str s, .int .i64 10, .int .i64 64] σ) (fun r => R (.ret r.1) r.2)
  have : extParse [.str s, .int .i64 10, .int .i64 64] σ = some (.tuple [.int .i64 (numS s), e], σ) := by
    simp only [extParse]
    rw [if_pos h, Go.Lib.parseIntB_64, Go.Lib.intSat_64, he]
  rw [this]
  exact hR

theorem c96 {s t : Str} (h : s.length < 4294967281) (σ : St) : Ret W 96 [.str s, .str t] σ (.tuple [.str (Go.Lib.cut s t).1, .str (Go.Lib.cut s t).2.1, .bool (Go.Lib.cut s t).2.2]) := ret_of fun R hR => by
  show bindO False (extCut [.str s, .str t] σ) (fun r => R (.ret r.1) r.2)
  have : extCut [.str s, .str t] σ = some (.tuple [.str (Go.Lib.cut s t).1, .str (Go.Lib.cut s t).2.1, .bool (Go.Lib.cut s t).2.2], σ) := by
    simp only [extCut]
    rw [if_pos h]
  rw [this]
  exact hR

theorem c48 {s : Str} (h : s.length < 4294967281) (σ : St) : Ret W 48 [.str s, .str [32]] σ (.list .full ((splitB 32 s).map .str)) := ret_of fun R hR => by
  show bindO False (extSplit [.str s, .str [32]] σ) (fun r => R (.ret r.1) r.2)
  have : extSplit [.str s, .str [32]] σ = some (.list .full ((splitB 32 s).map .str), σ) := by
    simp only [extSplit]
    rw [if_pos h]
  rw [this]
  exact hR

theorem cut_len (s t : Str) : (Go.Lib.cut s t).1.length ≤ s.length ∧ (Go.Lib.cut s t).2.1.length ≤ s.length := by
  unfold Go.Lib.cut
  split
  · simp; omega
  · simp

theorem map_one (σ : St) (x : PV) : vMapSet .str (.mref σ.length) (.str [115]) x (σ ++ [.map 0 []]) = some (σ ++ [.map 1 [(.str [115], x)]]) := by
  simp [vMapSet, isKey, vFind]

theorem map_two (σ : St) (x y : PV) : vMapSet .str (.mref σ.length) (.str [114]) y (σ ++ [.map 1 [(.str [115], x)]]) = some (σ ++ [.map 2 [(.str [115], x), (.str [114], y)]]) := by
  simp [vMapSet, isKey, vFind, vEqS]

theorem map_look (σ : St) (c : UInt8) : vLookup .str (.int .i64 0) false (.mref σ.length) (.str [c]) (σ ++ [.map 2 [(.str [115], .int .i64 1), (.str [114], .int .i64 2)]]) = some (.int .i64 (if c = 115 then 1 else if c = 114 then 2 else 0)) := by
  simp only [vLookup, isKey, new_get, if_true]
  by_cases h1 : c = 115
  · subst h1
    simp [vFind, vEqS]
  · by_cases h2 : c = 114
    · subst h2
      simp [vFind, vEqS]
    · have b1 : (c == 115) = false := by simp [h1]
      have b2 : (c == 114) = false := by simp [h2]
      simp [vFind, vEqS, h1, h2, b1, b2]

theorem under_oper (n : Nat) (o : OperS) : Under n (pvOper o) := by
  refine .agg _ fun i x hx => ?_
  match i with
  | 0 => simp at hx; subst hx; exact .int _ _
  | 1 => simp at hx; subst hx; exact .int _ _
  | 2 => simp at hx; subst hx; exact .int _ _
  | i + 3 => simp at hx

theorem b_zero3 : vBuild [(.int .i64 0), (.int .i64 0), (.int .i64 0)] [] = some [.int .i64 0, .int .i64 0, .int .i64 0] := rfl
theorem p_oper (a b c : Int) : vPut 3 (.agg [(.int .i64 0), (.int .i64 0), (.int .i64 0)]) 0 (.agg [.int .i64 a, .int .i64 b, .int .i64 c]) = some (.agg [.int .i64 a, .int .i64 b, .int .i64 c]) := rfl
theorem q_oper (a b c : Int) : vPart true 3 (.agg [.int .i64 a, .int .i64 b, .int .i64 c]) 0 = some (.agg [.int .i64 a, .int .i64 b, .int .i64 c]) := rfl
theorem b_oper (a b c : Int) : vBuild [(.int .i64 0), (.int .i64 0), (.int .i64 0)] [(0, 1, .int .i64 a), (1, 1, .int .i64 b), (2, 1, .int .i64 c)] = some [.int .i64 a, .int .i64 b, .int .i64 c] := rfl

theorem c51 {s : Str} (h : s.length < 4294967281) (σ : St) : Ret W 51 [.str s] σ (pvOper (readS s)) := by
  refine ret_of fun R hR => ?_
  rw [fn51_eq]
  unfold fn51
  show bindO False (vMapSet .str (.mref σ.length) (.str [115]) (.int .i64 1) (σ ++ [.map 0 []])) _
  simp only [map_one, map_two, zz, Nat.reduceEqDiff]
  have fin : ∀ o : OperS, R (.ret (pvOper o)) σ → weakW σ (pvOper o) (σ ++ [.map 2 [(.str [115], .int .i64 1), (.str [114], .int .i64 2)]]) fun v σ => R (.ret v) σ := fun o ho =>
    weakW_clean (List.prefix_append _ _) (frz_same (under_oper _ _)) ho
  match s, h with
  | [], h =>
    have : decide (((([] : Str).length : Nat) : Int) < 2) = true := rfl
    simp only [this, b_zero3, p_oper, q_oper, resCons, vResults, zz, Nat.reduceEqDiff]
    exact fin ⟨0, 0, 0⟩ hR
  | [c], h =>
    have : decide ((([c].length : Nat) : Int) < 2) = true := rfl
    simp only [this, b_zero3, p_oper, q_oper, resCons, vResults, zz, Nat.reduceEqDiff]
    exact fin ⟨0, 0, 0⟩ hR
  | c :: c' :: r, h =>
    have h2 : decide ((((c :: c' :: r).length : Nat) : Int) < 2) = false := by
      simp only [decide_eq_false_iff_not]
      simp
      omega
    have e1 : vSubStr (.str (c :: c' :: r)) (some (.int .i64 1)) none = some (.str (c' :: r)) := by
      simp [vSubStr, bound]
    have e2 : vSubStr (.str (c :: c' :: r)) none (some (.int .i64 1)) = some (.str [c]) := by
      simp [vSubStr, bound]
    have hl : (c' :: r).length < 4294967281 := by simp at h ⊢; omega
    obtain ⟨l1, l2⟩ := cut_len (c' :: r) [46]
    have hR' : R (.ret (pvOper ⟨if c = 115 then 1 else if c = 114 then 2 else 0, numS (Go.Lib.cut (c' :: r) [46]).1, numS (Go.Lib.cut (c' :: r) [46]).2.1⟩)) σ := hR
    simp only [h2, e1, zz, Nat.reduceEqDiff]
    refine (c96 hl _).callB ?_
    simp only [zz, Nat.reduceEqDiff]
    generalize (Go.Lib.cut (c' :: r) [46]).1 = u1 at l1 hR'
    generalize (Go.Lib.cut (c' :: r) [46]).2.1 = u2 at l2 hR'
    obtain ⟨x1, r1⟩ := c50 (s := u1) (by omega) (σ ++ [.map 2 [(.str [115], .int .i64 1), (.str [114], .int .i64 2)]])
    refine r1.callB ?_
    simp only [zz, Nat.reduceEqDiff]
    obtain ⟨x2, r2⟩ := c50 (s := u2) (by omega) (σ ++ [.map 2 [(.str [115], .int .i64 1), (.str [114], .int .i64 2)]])
    refine r2.callB ?_
    simp only [e2, map_look, b_oper, p_oper, q_oper, resCons, vResults, zz, Nat.reduceEqDiff]
    exact fin _ hR'

theorem b_inst0 : vBuild [(.int .i64 0), (.int .i64 0), (.int .i64 0), (.int .i64 0), (.int .i64 0), (.int .i64 0), (.int .i64 0), (.int .i64 0), (.int .i64 0), (.int .i64 0), (.int .i64 0), (.int .i64 0)] [] = some [(.int .i64 0), (.int .i64 0), (.int .i64 0), (.int .i64 0), (.int .i64 0), (.int .i64 0), (.int .i64 0), (.int .i64 0), (.int .i64 0), (.int .i64 0), (.int .i64 0), (.int .i64 0)] := rfl
theorem zero_inst : PV.agg [(.int .i64 0), (.int .i64 0), (.int .i64 0), (.int .i64 0), (.int .i64 0), (.int .i64 0), (.int .i64 0), (.int .i64 0), (.int .i64 0), (.int .i64 0), (.int .i64 0), (.int .i64 0)] = pvInst zeroI := rfl
theorem p_inst (i : InstS) : vPut 12 (pvInst zeroI) 0 (pvInst i) = some (pvInst i) := rfl
def pcells0 : PV → List PV
  | .agg l => l
  | _ => []
theorem b_inst (o n k : Int) (s t d : OperS) : vBuild [(.int .i64 0), (.int .i64 0), (.int .i64 0), (.int .i64 0), (.int .i64 0), (.int .i64 0), (.int .i64 0), (.int .i64 0), (.int .i64 0), (.int .i64 0), (.int .i64 0), (.int .i64 0)] [(0, 1, .int .i64 o), (1, 3, pvOper s), (4, 3, pvOper t), (7, 3, pvOper d), (10, 1, .int .i64 n), (11, 1, .int .i64 k)] =
  some (pcells0 (pvInst ⟨o, s, t, d, n, k⟩)) := rfl
theorem agg_cells (i : InstS) : PV.agg (pcells0 (pvInst i)) = pvInst i := rfl

theorem split_len (s : Str) : ∀ w ∈ splitB 32 s, w.length ≤ s.length := by
  induction s with
  | nil => intro w hw; simp [splitB] at hw; subst hw; simp
  | cons b l ih =>
    intro w hw
    simp only [splitB] at hw
    split at hw
    · rcases List.mem_cons.1 hw with rfl | hw
      · simp
      · have := ih w hw; simp; omega
    · cases hs : splitB 32 l with
      | nil => exact absurd hs (splitB_ne 32 l)
      | cons x xs =>
        rw [hs] at hw ih
        rcases List.mem_cons.1 hw with rfl | hw
        · have := ih x (by simp); simp; omega
        · have := ih w (by simp [hw]); simp; omega

def pvRes (r : InstS × Int) : PV := .tuple [pvInst r.1, .int .i64 r.2]

theorem loose_in {l : List Str} {i : InstS} (h : looseS l = some i) : i.ok = true := by
  unfold looseS at h
  split at h
  · rename_i a b c d e f
    simp only [Option.some.injEq] at h
    subst h
    simp only [InstS.ok, read_in, atoi_in, Bool.and_true]
    cases hf : findS a with
    | none => rfl
    | some n =>
      have := (name_of_find hf).1
      show inI64 ((n : Nat) : Int) = true
      exact inI64_of (by omega) (by omega)
  · cases h

theorem c21 {s : Str} (h : s.length < 4294967281) (σ : St) : Ret W 21 [.str s] σ (pvRes (instS s)) := by
  refine ret_of fun R hR => ?_
  rw [fn21_eq]
  unfold fn21
  refine (c48 h _).callB ?_
  have hsl := split_len s
  unfold instS at hR
  generalize splitB 32 s = l at hR hsl
  simp only [List.length_map, ne_dec, zero_inst, zz, Nat.reduceEqDiff]
  by_cases h6 : (l.length : Int) = 6
  · have h6' : l.length = 6 := by omega
    match l, h6' with
    | [a, b, c, d, e, f], _ =>
      have la := hsl a (by simp)
      have lb := hsl b (by simp)
      have lc := hsl c (by simp)
      have ld := hsl d (by simp)
      have le := hsl e (by simp)
      have lf := hsl f (by simp)
      have x0 : vIndex 1 (.list .full ([a, b, c, d, e, f].map PV.str)) (.int .i64 0) = some (.eptr (.str a) 0) := rfl
      have x1 : vIndex 1 (.list .full ([a, b, c, d, e, f].map PV.str)) (.int .i64 1) = some (.eptr (.str b) 0) := rfl
      have x2 : vIndex 1 (.list .full ([a, b, c, d, e, f].map PV.str)) (.int .i64 2) = some (.eptr (.str c) 0) := rfl
      have x3 : vIndex 1 (.list .full ([a, b, c, d, e, f].map PV.str)) (.int .i64 3) = some (.eptr (.str d) 0) := rfl
      have x4 : vIndex 1 (.list .full ([a, b, c, d, e, f].map PV.str)) (.int .i64 4) = some (.eptr (.str e) 0) := rfl
      have x5 : vIndex 1 (.list .full ([a, b, c, d, e, f].map PV.str)) (.int .i64 5) = some (.eptr (.str f) 0) := rfl
      simp only [h6, decide_true, x0, x1, x2, x3, x4, x5, zz, Nat.reduceEqDiff]
      obtain ⟨y1, r1⟩ := c49 (s := e) (by omega) σ
      refine r1.callB ?_
      simp only [zz, Nat.reduceEqDiff]
      obtain ⟨y2, r2⟩ := c50 (s := f) (by omega) σ
      refine r2.callB ?_
      simp only [zz, Nat.reduceEqDiff]
      refine (c13 a _).callB ?_
      simp only [findV, zz, Nat.reduceEqDiff]
      refine (c51 (by omega) _).callC ?_
      refine (c51 (by omega) _).callC ?_
      refine (c51 (by omega) _).callB ?_
      have hl : looseS [a, b, c, d, e, f] = some (InstS.mk ((findS a).getD 0 : Nat) (readS b) (readS c) (readS d) (numS e) (numS f)) := rfl
      simp only [b_inst, zz, Nat.reduceEqDiff]
      generalize InstS.mk ((findS a).getD 0 : Nat) (readS b) (readS c) (readS d) (numS e) (numS f) = i at hl
      simp only [agg_cells, p_inst, inst_parts, zz, Nat.reduceEqDiff]
      refine (c19 (loose_in hl) _).callB ?_
      rw [hl] at hR
      simp only [List.headD_cons] at hR
      simp only [ne_dec, b_inst0, zero_inst, p_inst, inst_parts, resCons, vResults, zz, Nat.reduceEqDiff]
      cases hf : (findS a).isSome with
      | false =>
        simp only [hf, List.headD_cons, Bool.false_and, Bool.false_eq_true, if_false] at hR
        simp only [b_inst0, zero_inst, p_inst, inst_parts, resCons, vResults, zz, Nat.reduceEqDiff]
        exact weakW_keep hR
      | true =>
        cases he : decide ((lineS i).2 = 0) with
        | false =>
          simp only [hf, he, List.headD_cons, Bool.true_and, Bool.false_and, Bool.false_eq_true, if_false] at hR
          simp only [b_inst0, zero_inst, p_inst, inst_parts, resCons, vResults, zz, Nat.reduceEqDiff]
          exact weakW_keep hR
        | true =>
          simp only [zz, Nat.reduceEqDiff]
          cases hs : ((lineS i).1 == s) with
          | false =>
            simp only [hf, he, hs, List.headD_cons, Bool.and_false, Bool.false_eq_true, if_false] at hR
            simp only [b_inst0, zero_inst, p_inst, inst_parts, resCons, vResults, zz, Nat.reduceEqDiff]
            exact weakW_keep hR
          | true =>
            simp only [hf, he, hs, List.headD_cons, Bool.and_self, if_true] at hR
            simp only [b_inst0, zero_inst, p_inst, inst_parts, resCons, vResults, zz, Nat.reduceEqDiff]
            exact weakW_keep hR
  · have hl : looseS l = none := by
      unfold looseS
      split
      · exact absurd rfl h6
      · rfl
    rw [hl] at hR
    simp only [h6, decide_false, b_inst0, zero_inst, p_inst, inst_parts, resCons, vResults, zz, Nat.reduceEqDiff]
    exact weakW_keep hR

theorem vEqL_ints : ∀ (l l' : List Int), l.length = l'.length → vEqL (List.replicate l.length .int) (l.map (PV.int .i64)) (l'.map (PV.int .i64)) = some (decide (l = l'))
  | [], [], _ => rfl
  | [], _ :: _, h => by cases h
  | _ :: _, [], h => by cases h
  | a :: l, b :: l', h => by
    have ih := vEqL_ints l l' (by simpa using h)
    simp only [List.length_cons, List.replicate_succ, List.map_cons, vEqL, vEqS, if_true, eq_dec]
    by_cases hab : a = b
    · subst hab
      simp only [decide_true, ih, List.cons.injEq, true_and]
    · simp [hab]

def instL (i : InstS) : List Int := [i.op, i.s.k, i.s.a, i.s.b, i.t.k, i.t.a, i.t.b, i.d.k, i.d.a, i.d.b, i.n, i.k]

theorem instL_inj {i j : InstS} : instL i = instL j ↔ i = j := by
  constructor
  · intro h
    obtain ⟨o, ⟨s1, s2, s3⟩, ⟨t1, t2, t3⟩, ⟨d1, d2, d3⟩, n, k⟩ := i
    obtain ⟨o', ⟨s1', s2', s3'⟩, ⟨t1', t2', t3'⟩, ⟨d1', d2', d3'⟩, n', k'⟩ := j
    simp only [instL, List.cons.injEq, and_true] at h
    obtain ⟨rfl, rfl, rfl, rfl, rfl, rfl, rfl, rfl, rfl, rfl, rfl, rfl⟩ := h
    rfl
  · rintro rfl
    rfl

theorem inst_eq (i j : InstS) : vBin (some (.st [.int, .int, .int, .int, .int, .int, .int, .int, .int, .int, .int, .int])) .eql (pvInst i) (pvInst j) = some (.bool (decide (i = j))) ∧ vBin (some (.st [.int, .int, .int, .int, .int, .int, .int, .int, .int, .int, .int, .int])) .neq (pvInst i) (pvInst j) = some (.bool (!decide (i = j))) := by
  have key : vEqL (List.replicate 12 .int) ((instL i).map (PV.int .i64)) ((instL j).map (PV.int .i64)) = some (decide (i = j)) := by
    rw [show (12 : Nat) = (instL i).length from rfl, vEqL_ints (instL i) (instL j) rfl]
    exact congrArg some (decide_eq_decide.2 instL_inj)
  constructor
  · show (match vEqL (List.replicate 12 .int) ((instL i).map (PV.int .i64)) ((instL j).map (PV.int .i64)) with | some b => some (PV.bool b) | none => none) = _
    rw [key]
  · show (match vEqL (List.replicate 12 .int) ((instL i).map (PV.int .i64)) ((instL j).map (PV.int .i64)) with | some b => some (PV.bool !b) | none => none) = _
    rw [key]

theorem line_small {i : InstS} (hi : i.ok = true) : (lineS i).1.length ≤ 300 := by
  rw [lineS_L]
  simp only [InstS.ok, Bool.and_eq_true] at hi
  obtain ⟨i0, i1, i2, i3, i4, i5⟩ := hi
  have h1 := lineL_small [i.s, i.t, i.d] (nameS i.op) (by
    intro o ho
    simp at ho
    rcases ho with rfl | rfl | rfl <;> assumption)
  have h2 := nameS_small i.op
  have la := itoa_small i4
  have lb := itoa_small i5
  simp only [List.length_cons, List.length_nil] at h1
  split
  · split
    · simp
    · simp; omega
  · simp

theorem c4 {i : InstS} (hi : i.ok = true) : Ret W 4 [pvInst i] [] (.bool true) := by
  refine ret_of fun R hR => ?_
  rw [fn4_eq]
  unfold fn4
  simp only [inst_parts, zz, Nat.reduceEqDiff]
  refine (c19 hi _).callB ?_
  simp only [inst_parts, zz, Nat.reduceEqDiff]
  refine (c20 hi _).callB ?_
  simp only [zz, Nat.reduceEqDiff]
  refine c12.callB ?_
  simp only [BEq.rfl, bne_self_eq_false, zz, Nat.reduceEqDiff]
  have hsm := line_small hi
  refine (c21 (by omega) _).callB ?_
  simp only [pvRes, zero_inst, p_inst, ne_dec, eq_dec, zz, Nat.reduceEqDiff]
  cases hg : goodI i with
  | true =>
    have h1 := inst_line hg hi
    have h2 : (lineS i).2 = 0 := line_ok.2 hg
    rw [h1]
    simp only [h2, decide_true, inst_parts, inst_eq, zz, Nat.reduceEqDiff]
    exact weakW_keep hR
  | false =>
    obtain ⟨h1, h2⟩ := line_bad hg
    have h3 : (instS (lineS i).1).2 = 9 := by rw [h1]; rfl
    simp only [h2, h3, decide_false, decide_true, zz, Nat.reduceEqDiff]
    exact weakW_keep hR

end Go.Proofs.YtgghfcchanilpaaGreatDoor
