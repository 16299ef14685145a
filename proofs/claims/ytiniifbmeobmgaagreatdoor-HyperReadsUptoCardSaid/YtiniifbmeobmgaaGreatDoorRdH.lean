/- The reference's reader: parts and alternatives. -/
import Derived.Test.YtiniifbmeobmgaaGreatDoorRdG
set_option linter.unusedVariables false
set_option linter.unusedSimpArgs false
namespace Go.Proofs.YtiniifbmeobmgaaGreatDoor
open Go Go.Abs

/-- What the reference's reader does to its state, in plain words. -/
def nameBad (d : Bool) (w : Str) : Bool := !isWord w && (!(w == EMPTY) && (!isMeta w && !(d && isParam w)))
def lastE : List Part → Bool
  | [] => false
  | [p] => p.2 == EMPTY
  | _ :: l => lastE l
def synBad (acc : List Part) (w : Str) : Bool := !acc.isEmpty && (w == EMPTY || lastE acc)

def pName (d : Bool) (q : RR) : RR := if nameBad d q.tt then q.stop q.ta 8 else q
def pSyn (acc : List Part) (q : RR) : RR := if synBad acc q.tt then q.stop q.ta 9 else q
def pLoop (s : Str) (d : Bool) : Nat → RR → List Part → RR × List Part
  | 0, q, acc => (q, acc)
  | n + 1, q, acc => if isPs q.tt && q.e.2 == 0 then pLoop s d n ((pSyn acc (pName d q)).next s) (acc ++ [(!isWord q.tt, q.tt)]) else (q, acc)
def pParts (s : Str) (d : Bool) (q : RR) : RR × List Part := pLoop s d (s.length + 1) q []

/-- A state of moderate size. -/
structure Ok (s : Str) (q : RR) : Prop where
  a : q.a ≤ s.length
  tt : q.tt.length ≤ s.length

theorem stop_a (q : RR) (x : Nat) (c : Int) : (q.stop x c).a = q.a := by unfold RR.stop; split <;> rfl
theorem stop_tt (q : RR) (x : Nat) (c : Int) : (q.stop x c).tt = q.tt := by unfold RR.stop; split <;> rfl
theorem stop_ta (q : RR) (x : Nat) (c : Int) : (q.stop x c).ta = q.ta := by unfold RR.stop; split <;> rfl
theorem Ok.stop {s : Str} {q : RR} (h : Ok s q) (x : Nat) (c : Int) : Ok s (q.stop x c) := ⟨by rw [stop_a]; exact h.a, by rw [stop_tt]; exact h.tt⟩
theorem pName_a (d : Bool) (q : RR) : (pName d q).a = q.a := by unfold pName; split; exact stop_a _ _ _; rfl
theorem pName_tt (d : Bool) (q : RR) : (pName d q).tt = q.tt := by unfold pName; split; exact stop_tt _ _ _; rfl
theorem pName_ta (d : Bool) (q : RR) : (pName d q).ta = q.ta := by unfold pName; split; exact stop_ta _ _ _; rfl
theorem pSyn_a (l : List Part) (q : RR) : (pSyn l q).a = q.a := by unfold pSyn; split; exact stop_a _ _ _; rfl
theorem pSyn_tt (l : List Part) (q : RR) : (pSyn l q).tt = q.tt := by unfold pSyn; split; exact stop_tt _ _ _; rfl
theorem wrong_a (s : Str) (q : RR) : (q.wrong s).a = q.a := by
  unfold RR.wrong
  rw [stop_a]
  split
  · exact stop_a _ _ _
  · rfl
theorem wrong_tt (s : Str) (q : RR) : (q.wrong s).tt = q.tt := by
  unfold RR.wrong
  rw [stop_tt]
  split
  · exact stop_tt _ _ _
  · rfl
theorem Ok.wrong {s : Str} {q : RR} (h : Ok s q) : Ok s (q.wrong s) := ⟨by rw [wrong_a]; exact h.a, by rw [wrong_tt]; exact h.tt⟩

/-- A further token lies further on. -/
theorem next_spec {s : Str} {q : RR} (ha : q.a ≤ s.length) : Ok s (q.next s) ∧ q.a ≤ (q.next s).a ∧ ((q.next s).tt ≠ [] → q.a < (q.next s).a) := by
  have hge := skip_ge s q.a
  have hle := skip_le ha
  unfold RR.next
  cases hc : s[skip s q.a]? with
  | none => exact ⟨⟨Nat.le_refl _, by simp⟩, ha, fun h => absurd rfl h⟩
  | some c =>
    simp only
    split
    · rename_i hl
      have h1 := word_le (s := s) hle
      obtain ⟨w, hw⟩ := word_cons hc hl
      have : 0 < (wordAt s (skip s q.a)).length := by rw [hw]; simp
      exact ⟨⟨h1, by show (wordAt s (skip s q.a)).length ≤ _; omega⟩, by show q.a ≤ skip s q.a + _; omega, fun _ => by show q.a < skip s q.a + _; omega⟩
    · split
      · have h1 := sign_le hc
        obtain ⟨w, hw⟩ := sign_cons hc
        have : 0 < (signAt s (skip s q.a)).length := by rw [hw]; simp
        exact ⟨⟨h1, by show (signAt s (skip s q.a)).length ≤ _; omega⟩, by show q.a ≤ skip s q.a + _; omega, fun _ => by show q.a < skip s q.a + _; omega⟩
      · exact ⟨⟨Nat.le_refl _, by simp⟩, ha, fun h => absurd rfl h⟩

theorem isPs_ne {w : Str} (h : isPs w = true) : w ≠ [] := by
  rintro rfl
  cases h

theorem lastE_get : ∀ {acc : List Part}, acc ≠ [] → ∃ p, acc[acc.length - 1]? = some p ∧ lastE acc = (p.2 == EMPTY)
  | [], h => absurd rfl h
  | [p], _ => ⟨p, rfl, rfl⟩
  | a :: b :: l, _ => by
    obtain ⟨p, h1, h2⟩ := lastE_get (acc := b :: l) (by simp)
    refine ⟨p, ?_, h2⟩
    simpa using h1

theorem c80 {s : Str} (hs : s.length ≤ 65536) {q : RR} {σ : St} {P : Nat} (h : Has σ P (rc s q)) (hq : Ok s q) (d : Bool) : Up 80 [.ptr P 0 0 0, .bool d] σ P s (pvParts (reK (pParts s d q).2)) (pParts s d q).1 := by
  intro R hR
  have hP := h.lt
  refine callW_fold ?_
  rw [fn80_eq]
  unfold fn80
  refine CutW_of ?_
  refine Lfp_down (fun m x σ' => ∃ q' v acc, x = lookP [(0, .ptr P 0 0 0), (1, .bool d), (5, v)] ∧ Ok s q' ∧ (isPs q'.tt = true → s.length - q'.a < m) ∧ acc.length + m ≤ s.length + 1 ∧ cd σ P (rc s q') <+: σ' ∧ Grow σ.length 2 σ' v (acc.map pvPart) ∧
    pLoop s d m q' acc = pParts s d q) ?_ (s.length + 1) ⟨q, _, [], rfl, hq, fun _ => by omega, by simp, by rw [h.self]; exact List.prefix_refl _, Grow.nil _ _ _, rfl⟩
  rintro Φ m x σ1 ⟨q', v, acc, rfl, hq', hm, hlen, hp, hG, hF⟩ hnext _
  have hc := pre_has hP hp
  simp only [zz, Nat.reduceEqDiff, if_true, if_false, decide_true, decide_false, eq_self]
  refine (c143 hc).callB ?_
  -- the end
  have fin : (isPs q'.tt && q'.e.2 == 0) = false → weakW σ v σ1 fun v σ => R (.ret v) σ := by
    intro hb
    have hF' : (q', acc) = pParts s d q := by
      rw [← hF]
      cases m with
      | zero => rfl
      | succ m => simp [pLoop, hb]
    rw [← hF'] at hR
    refine pre_cell hP hp (rc_flat _ _) (Grow.frzD hG (fun b hb => hb) (fun y hy => ?_)) ?_
    · obtain ⟨p, _, rfl⟩ := List.mem_map.1 hy
      exact flatPart p
    · rw [growV_sl]
      exact hR
  cases hip : isPs q'.tt with
  | false =>
    simp only [zz, Nat.reduceEqDiff, if_true, if_false, decide_true, decide_false, eq_self]
    exact fin (by rw [hip]; rfl)
  | true =>
    simp only [nil_ptr, hc.ld, rc, zz, Nat.reduceEqDiff, if_true, if_false, decide_true, decide_false, eq_self]
    cases he : q'.e.2 == 0 with
    | false =>
      simp only [zz, Nat.reduceEqDiff, if_true, if_false, decide_true, decide_false, eq_self]
      exact fin (by rw [hip, he]; rfl)
    | true =>
      obtain ⟨m, rfl⟩ : ∃ k, m = k + 1 := ⟨m - 1, by have := hm hip; omega⟩
      have hok : okS q'.tt := by have := hq'.tt; show q'.tt.length < _; omega
      have hF : pLoop s d m ((pSyn acc (pName d q')).next s) (acc ++ [(!isWord q'.tt, q'.tt)]) = pParts s d q := by
        rw [← hF]
        simp [pLoop, hip, he]
      simp only [zz, Nat.reduceEqDiff, if_true, if_false, decide_true, decide_false, eq_self]
      refine (c130 hok _).callB ?_
      refine CutW_of ?_
      -- behind the name's check
      have step1 : ∀ σ2, cd σ P (rc s (pName d q')) <+: σ2 → Grow σ.length 2 σ2 v (acc.map pvPart) →
          CutW σ (fun J66 =>
          bindO False (vLen .sl v σ2) fun v69 =>
          bindO False (vBin none .gtr v69 (.int .i64 0)) fun v70 =>
          guardG False v70 true (fun J71 =>
          bindO False (vBin none .eql (.str q'.tt) (.str [69, 77, 80, 84, 89])) fun v74 =>
          J71 (lookE [(56, (.v (.str q'.tt))), (57, (.v v74)), (58, (.v v74))]) σ2) σ2 (fun y72 σ73 =>
          guardG False (y72 58).pv false (fun J75 =>
          bindO False (vLen .sl v σ73) fun v78 =>
          bindO False (vBin none .sub v78 (.int .i64 1)) fun v79 =>
          bindO False (vIndex 2 v v79) fun v80 =>
          bindO False (vField 1 v80) fun v81 =>
          bindO False (vLoad false 1 v81 σ73) fun v82 =>
          bindO False (vBin none .eql v82 (.str [69, 77, 80, 84, 89])) fun v83 =>
          J75 (lookE [(59, (.v v)), (60, (.v v)), (61, (.v v78)), (62, (.v v79)), (63, (.v v80)), (64, (.v v81)), (65, (.v v82)), (66, (.v v83))]) σ73) σ73 (fun y76 σ77 =>
          guardG False v70 true (fun J84 =>
          bindO False (vPick (y72 58).pv (.bool true) (y76 66).pv) fun v87 =>
          J84 (lookE [(67, (.v v87))]) σ77) σ77 (fun y85 σ86 =>
          bindO False (vPick v70 (y85 67).pv (.bool false)) fun v88 =>
          condW v88 (
          bindO False (vNil (.ptr P 0 0 0)) fun v89 =>
          bindO False (vField 2 v89) fun v90 =>
          bindO False (vField 1 v90) fun v91 =>
          bindO False (vLoad false 1 v91 σ86) fun v92 =>
          callB W 142 [.ptr P 0 0 0, v92, (.int .i64 9)] σ86 (fun v93 σ94 =>
          J66 (lookP [(0, .ptr P 0 0 0), (1, .bool d), (5, v), (6, .str q'.tt), (7, .bool (isWord q'.tt))]) σ94) (fun e95 σ96 => R (.pan e95) σ96)) (
          J66 (lookP [(0, .ptr P 0 0 0), (1, .bool d), (5, v), (6, .str q'.tt), (7, .bool (isWord q'.tt))]) σ86))))) (fun x67 σ68 =>
          bindO False (vUn .not (x67 7)) fun v97 =>
          bindO False (vBuild [(.bool false), (.str [])] [(0, 1, v97), (1, 1, (x67 6))]) fun v98 =>
          bindO False (vBuildSl 2 (List.replicate 1 (.agg [(.bool false), (.str [])])) [(0, (.agg v98))]) fun v99 =>
          bindS (vAppend 2 24 (x67 5) (.list .full v99) σ68) fun v100 σ101 =>
          callB W 78 [(x67 0)] σ101 (fun v102 σ103 =>
          Φ (lookP [(0, (x67 0)), (1, (x67 1)), (5, v100)]) σ103) (fun e104 σ105 => R (.pan e104) σ105)) := by
        intro σ2 hp2 hG2
        refine CutW_of ?_
        have hc2 := pre_has hP hp2
        -- behind the place's check
        have step2 : ∀ σ3, cd σ P (rc s (pSyn acc (pName d q'))) <+: σ3 → Grow σ.length 2 σ3 v (acc.map pvPart) →
            bindO False (vBuild [(.bool false), (.str [])] [(0, 1, .bool (!isWord q'.tt)), (1, 1, .str q'.tt)]) fun v98 =>
            bindO False (vBuildSl 2 (List.replicate 1 (.agg [(.bool false), (.str [])])) [(0, (.agg v98))]) fun v99 =>
            bindS (vAppend 2 24 v (.list .full v99) σ3) fun v100 σ101 =>
            callB W 78 [.ptr P 0 0 0] σ101 (fun v102 σ103 =>
            Φ (lookP [(0, .ptr P 0 0 0), (1, .bool d), (5, v100)]) σ103) (fun e104 σ105 => R (.pan e104) σ105) := by
          intro σ3 hp3 hG3
          have hb1 : vBuild [(.bool false), (.str [])] [(0, 1, .bool (!isWord q'.tt)), (1, 1, .str q'.tt)] = some [.bool (!isWord q'.tt), .str q'.tt] := rfl
          obtain ⟨xs, x', σ4, h1, h2, h3, h4⟩ := grow_one sizedPart (n0 := 0) (a := ((!isWord q'.tt, q'.tt) : Part)) (.agg [(.bool false), (.str [])]) (by_ := 24) (σ0 := cd σ P (rc s (pSyn acc (pName d q')))) (by rw [cd_len]; exact hG3) hp3 (by omega)
          rw [cd_len] at h3
          have h1 : vBuildSl 2 (List.replicate 1 (.agg [(.bool false), (.str [])])) [(0, .agg [.bool (!isWord q'.tt), .str q'.tt])] = some xs := h1
          simp only [hb1, h1, h2, zz, Nat.reduceEqDiff, if_true, if_false, decide_true, decide_false, eq_self]
          have ha2 : (pSyn acc (pName d q')).a ≤ s.length := by rw [pSyn_a, pName_a]; exact hq'.a
          refine (c78 (by omega) (pre_has hP h4) ha2).callB ?_
          obtain ⟨n1, n2, n3⟩ := next_spec ha2
          rw [pSyn_a, pName_a] at n2 n3
          refine hnext _ _ m (by omega) ⟨_, x', acc ++ [(!isWord q'.tt, q'.tt)], rfl, n1, fun hh => ?_, by simp; omega, cd_pre _ hP h4, grow_cd h3 hP, hF⟩
          have := hm hip
          have := n3 (isPs_ne hh)
          have := n1.a
          omega
        have hvl : vLen .sl v σ2 = some (.int .i64 (acc.length : Nat)) := by
          have := hG2.elems.len σ2
          rw [this]
          simp
        have hgt : ∀ n : Nat, decide (((n : Nat) : Int) > 0) = decide (0 < n) := fun n => by
          rw [decide_eq_decide]
          omega
        have hta : (rc s (pName d q'))[3]? = some (.int .i64 q'.ta) := by show some (PV.int .i64 ((pName d q').ta : Int)) = _; rw [pName_ta]
        by_cases hacc : acc = []
        · have hsy : pSyn acc (pName d q') = pName d q' := by
            subst hacc
            rfl
          rw [hsy] at step2
          subst hacc
          simp only [hvl, hgt, List.length_nil, Nat.lt_irrefl, zz, Nat.reduceEqDiff, if_true, if_false, decide_true, decide_false, eq_self]
          exact step2 σ2 hp2 hG2
        · have hpos := List.length_pos_iff.2 hacc
          obtain ⟨p, hp1, hp2'⟩ := lastE_get hacc
          have hne : acc.isEmpty = false := by cases acc with
            | nil => exact absurd rfl hacc
            | cons a l => rfl
          have stop : synBad acc q'.tt = true → callB W 142 [.ptr P 0 0 0, .int .i64 q'.ta, (.int .i64 9)] σ2 (fun v93 σ94 =>
              bindO False (vUn .not (.bool (isWord q'.tt))) fun v97 =>
              bindO False (vBuild [(.bool false), (.str [])] [(0, 1, v97), (1, 1, .str q'.tt)]) fun v98 =>
              bindO False (vBuildSl 2 (List.replicate 1 (.agg [(.bool false), (.str [])])) [(0, (.agg v98))]) fun v99 =>
              bindS (vAppend 2 24 v (.list .full v99) σ94) fun v100 σ101 =>
              callB W 78 [.ptr P 0 0 0] σ101 (fun v102 σ103 =>
              Φ (lookP [(0, .ptr P 0 0 0), (1, .bool d), (5, v100)]) σ103) (fun e104 σ105 => R (.pan e104) σ105)) (fun e95 σ96 => R (.pan e95) σ96) := by
            intro hsy
            have hsy2 : pSyn acc (pName d q') = (pName d q').stop q'.ta 9 := by
              unfold pSyn
              rw [pName_tt, hsy, pName_ta]
              rfl
            rw [hsy2] at step2
            refine (c142 hc2 q'.ta 9).callB ?_
            simp only [zz, Nat.reduceEqDiff, if_true, if_false, decide_true, decide_false, eq_self]
            exact step2 _ (cd_pre _ hP hp2) (grow_cd hG2 hP)
          have nostop : synBad acc q'.tt = false → pSyn acc (pName d q') = pName d q' := by
            intro hsy
            unfold pSyn
            rw [pName_tt, hsy]
            rfl
          cases he1 : q'.tt == [69, 77, 80, 84, 89] with
          | true =>
            simp only [hvl, hgt, decide_eq_true hpos, he1, nil_ptr, hc2.ld, hta, zz, Nat.reduceEqDiff, if_true, if_false, decide_true, decide_false, eq_self]
            have := stop (by simp [synBad, hne, he1])
            simp only [zz, Nat.reduceEqDiff, if_true, if_false, decide_true, decide_false, eq_self] at this
            exact this
          | false =>
            obtain ⟨px, g1, _, g3⟩ := hG2.elems.at_ (i := acc.length - 1) (e := pvPart p) (cs := [.bool p.1, .str p.2]) (k := .i64) (by simp [hp1]) rfl rfl
            obtain ⟨py, g4, g5⟩ := g3 1
            have hsub : vBin none .sub (.int .i64 (acc.length : Nat)) (.int .i64 1) = some (.int .i64 ((acc.length - 1 : Nat) : Int)) := sub_nat (b := 1) (by omega) (by omega)
            have hpp : vPart false 1 (pvPart p) 1 = some (.str p.2) := rfl
            cases he2 : p.2 == [69, 77, 80, 84, 89] with
            | true =>
              simp only [hvl, hgt, decide_eq_true hpos, he1, hsub, g1, g4, g5, hpp, he2, nil_ptr, hc2.ld, hta, zz, Nat.reduceEqDiff, if_true, if_false, decide_true, decide_false, eq_self]
              have := stop (by simp [synBad, hne, hp2', he2])
              simp only [zz, Nat.reduceEqDiff, if_true, if_false, decide_true, decide_false, eq_self] at this
              exact this
            | false =>
              rw [nostop (by simp [synBad, he1, hp2', he2])] at step2
              simp only [hvl, hgt, decide_eq_true hpos, he1, hsub, g1, g4, g5, hpp, he2, zz, Nat.reduceEqDiff, if_true, if_false, decide_true, decide_false, eq_self]
              exact step2 σ2 hp2 hG2
      have hta : (rc s q')[3]? = some (.int .i64 q'.ta) := rfl
      have bad : nameBad d q'.tt = true → cd σ P (rc s (pName d q')) <+: cd σ1 P (rc s (q'.stop q'.ta 8)) := fun hb => by
        have : pName d q' = q'.stop q'.ta 8 := by simp [pName, hb]
        rw [this]
        exact cd_pre _ hP hp
      have good : nameBad d q'.tt = false → cd σ P (rc s (pName d q')) <+: σ1 := fun hb => by
        have : pName d q' = q' := by simp [pName, hb]
        rw [this]
        exact hp
      cases hw : isWord q'.tt with
      | true =>
        have := step1 σ1 (good (by simp [nameBad, hw])) hG
        rw [hw] at this
        simp only [zz, Nat.reduceEqDiff, if_true, if_false, decide_true, decide_false, eq_self] at this ⊢
        exact this
      | false =>
        rw [hw] at step1
        cases he1 : q'.tt == [69, 77, 80, 84, 89] with
        | true =>
          have := step1 σ1 (good (by simp [nameBad, he1])) hG
          simp only [he1, zz, Nat.reduceEqDiff, if_true, if_false, decide_true, decide_false, eq_self] at this ⊢
          exact this
        | false =>
          simp only [he1, zz, Nat.reduceEqDiff, if_true, if_false, decide_true, decide_false, eq_self]
          refine (c66 hok _).callB ?_
          cases hmt : isMeta q'.tt with
          | true =>
            have := step1 σ1 (good (by simp [nameBad, hmt])) hG
            simp only [he1, zz, Nat.reduceEqDiff, if_true, if_false, decide_true, decide_false, eq_self] at this ⊢
            exact this
          | false =>
            cases d with
            | false =>
              simp only [nil_ptr, hc.ld, hta, zz, Nat.reduceEqDiff, if_true, if_false, decide_true, decide_false, eq_self]
              refine (c142 hc q'.ta 8).callB ?_
              have := step1 _ (bad (by simp [nameBad, hw, he1, hmt])) (grow_cd hG hP)
              simp only [he1, zz, Nat.reduceEqDiff, if_true, if_false, decide_true, decide_false, eq_self] at this ⊢
              exact this
            | true =>
              simp only [zz, Nat.reduceEqDiff, if_true, if_false, decide_true, decide_false, eq_self]
              refine (c129 hok _).callB ?_
              have hbp : (!(base q'.tt == [])) = isParam q'.tt := base_param q'.tt
              cases hpm : isParam q'.tt with
              | true =>
                rw [hpm] at hbp
                have := step1 σ1 (good (by simp [nameBad, hpm])) hG
                simp only [he1, hbp, zz, Nat.reduceEqDiff, if_true, if_false, decide_true, decide_false, eq_self] at this ⊢
                exact this
              | false =>
                rw [hpm] at hbp
                simp only [hbp, nil_ptr, hc.ld, hta, zz, Nat.reduceEqDiff, if_true, if_false, decide_true, decide_false, eq_self]
                refine (c142 hc q'.ta 8).callB ?_
                have := step1 _ (bad (by simp [nameBad, hw, he1, hmt, hpm])) (grow_cd hG hP)
                simp only [he1, zz, Nat.reduceEqDiff, if_true, if_false, decide_true, decide_false, eq_self] at this ⊢
                exact this

end Go.Proofs.YtiniifbmeobmgaaGreatDoor
