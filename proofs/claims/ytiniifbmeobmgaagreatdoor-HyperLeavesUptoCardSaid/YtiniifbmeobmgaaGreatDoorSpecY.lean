/- The package's Matches: the table of what may match; the answer. -/
import Derived.Test.YtiniifbmeobmgaaGreatDoorSpecX
set_option linter.unusedVariables false
set_option linter.unusedSimpArgs false
namespace Go.Proofs.YtiniifbmeobmgaaGreatDoor
open Go Go.Abs

theorem any_succ (N : Nat) (f : Nat → Bool) : (List.range (N + 1)).any f = ((List.range N).any f || f N) := by
  rw [List.range_succ, List.any_append]
  simp

theorem c23 {g : Gram} (hg : OkGram g) {l : List Part} (hl : l.length ≤ 8) (hok : ∀ p ∈ l, okS p.2) {s : Str} (hs : s.length ≤ 900) {lk : LK} {most : Int} (hmost : most ≤ 900) (hmost0 : -1 ≤ most) {σ : St} {R : Res → St → Prop}
    (hR : ∀ σ' ov es n0, OutAt n0 σ' ov (matG g l s most).1 es → σ <+: σ' → R (.ret (.tuple [ov, .int .i64 (matG g l s most).2])) σ') :
    W 23 [pvGram g, .list lk (l.map pvPart), .str s, .int .i64 most] σ R := by
  refine callW_fold ?_
  rw [fn23_eq]
  unfold fn23
  have hmlen := hg.ml
  have hbox : opC.vBoxAny (pvGram g) = some (2, pvGram g) := rfl
  have h02 : 0 < 2 := by decide
  have hpt : vPart true 2 (pvGram g) 0 = some (pvGram g) := rfl
  simp only [hbox, h02, newW_eq, zz, Nat.reduceEqDiff]
  have hp1 : σ <+: σ ++ [Blk.arr 0 2 [pvGram g]] := ⟨_, rfl⟩
  have hgq : (σ ++ [Blk.arr 0 2 [pvGram g]])[σ.length]? = some (.arr 0 2 [pvGram g]) := new_get _ _
  have hldg : ∀ σ' : St, σ'[σ.length]? = some (.arr 0 2 [pvGram g]) → vLoad true 2 (.ptr σ.length 0 0 0) σ' = some (pvGram g) := fun σ' e => by
    simp only [vLoad, e, if_true, List.getElem?_cons_zero]
    rfl
  simp only [hldg _ hgq, zz, Nat.reduceEqDiff]
  generalize (σ ++ [Blk.arr 0 2 [pvGram g]]) = σ1 at hp1 hgq ⊢
  generalize hgp : σ.length = gp at hgq hldg ⊢
  have fin : ∀ (e : Int) (σ' : St), σ <+: σ' → matG g l s most = ([], e) → weakW σ (.tuple [.list .nil [], .int .i64 e]) σ' fun v σ => R (.ret v) σ := fun e σ' hp he => by
    rw [he] at hR
    exact weakW_keep (hR σ' (.list .nil []) [] 0 (OutAt.nil 0 σ') hp)
  refine (c15 hg σ1).callB ?_
  simp only [zz, Nat.reduceEqDiff]
  cases hc : (checkG g != 0) with
  | true =>
    simp only [zz, Nat.reduceEqDiff]
    have hc' : ¬ checkG g = 0 := by simpa using hc
    exact fin _ _ hp1 (by unfold matG; rw [if_neg hc'])
  | false =>
  have hc' : checkG g = 0 := by simpa using hc
  have hmat : matG g l s most = if l.any (badPart true) then ([], 8)
    else if l.any (unkPart (names g)) then ([], 4)
    else if wordsOk s = false then ([], 2)
    else if 200 < (wordsL s).length ∨ most < 0 then ([], 3)
    else if ((allB (wordsL s) (fpart g (wordsL s) (derT g (wordsL s))) l 0 []).length : Int) ≤ most then (allB (wordsL s) (fpart g (wordsL s) (derT g (wordsL s))) l 0 [], 0)
    else ([], 3) := by
    unfold matG
    rw [if_pos hc']
  simp only [zz, Nat.reduceEqDiff]
  refine (c59 (by omega) hok).callB ?_
  cases hbad : l.any (badPart true) with
  | true =>
    simp only [zz, Nat.reduceEqDiff]
    exact fin _ _ hp1 (by rw [hmat, hbad]; rfl)
  | false =>
  rw [hbad] at hmat
  simp only [Bool.false_eq_true, if_false] at hmat
  simp only [zz, Nat.reduceEqDiff]
  refine (c62 encPart (unkPart (names g)) hb91 (by omega) fun p hp => c91 hg (hok p hp) hgq).callB ?_
  cases hunk : l.any (unkPart (names g)) with
  | true =>
    simp only [zz, Nat.reduceEqDiff]
    exact fin _ _ hp1 (by rw [hmat, hunk]; rfl)
  | false =>
  rw [hunk] at hmat
  simp only [Bool.false_eq_true, if_false] at hmat
  have hkn : ∀ p ∈ l, knownP g p := fun p hp => by
    rw [List.any_eq_false] at hunk
    exact unk_known (by simpa using hunk p hp)
  simp only [zz, Nat.reduceEqDiff]
  refine (c71 (by omega) σ1).callB ?_
  simp only [zz, Nat.reduceEqDiff]
  cases hwok : wordsOk s with
  | false =>
    simp only [zz, Nat.reduceEqDiff]
    exact fin _ _ hp1 (by rw [hmat, hwok]; rfl)
  | true =>
  rw [hwok] at hmat
  simp only [Bool.true_eq_false, if_false] at hmat
  obtain ⟨wk, hwk⟩ := wordsPV_list s
  rw [hwk]
  have hwl := len_tot (wordsL s)
  have hwt := wordsL_tot s
  simp only [List.length_map, zz, Nat.reduceEqDiff]
  cases h200 : decide (((wordsL s).length : Int) > 200) with
  | true =>
    have : 200 < (wordsL s).length ∨ most < 0 := .inl (by rw [decide_eq_true_eq] at h200; omega)
    rw [if_pos this] at hmat
    simp only [zz, Nat.reduceEqDiff]
    exact fin _ _ hp1 hmat
  | false =>
  simp only [zz, Nat.reduceEqDiff]
  cases hneg : decide (most < 0) with
  | true =>
    have : 200 < (wordsL s).length ∨ most < 0 := .inr (by simpa using hneg)
    rw [if_pos this] at hmat
    simp only [zz, Nat.reduceEqDiff]
    exact fin _ _ hp1 hmat
  | false =>
  have hno : ¬ (200 < (wordsL s).length ∨ most < 0) := by
    rw [decide_eq_false_iff_not] at h200 hneg
    omega
  rw [if_neg hno] at hmat
  obtain ⟨mostN, rfl⟩ : ∃ n : Nat, most = (n : Int) := ⟨most.toNat, by omega⟩
  simp only [hldg _ hgq, zz, Nat.reduceEqDiff]
  generalize hws : wordsL s = ws at *
  refine c73 hg hc' (by omega) fun σ2 t hM => ?_
  obtain ⟨⟨A, ixb, bm, bc, T, hH, hRi⟩, hpre⟩ := hM
  have hp2 : σ1 <+: σ2 := pre_of hpre
  have hp02 : σ <+: σ2 := hp1.trans hp2
  have hall := allB_right hRi hkn (Nat.zero_le _) []
  -- the matcher
  have hbd : vBuild [.nilptr, (.list .nil []), (.list .nil []), .nilmap, (.list .nil []), (.int .i64 0)] [(0, 1, .ptr t 0 0 0), (1, 1, .list lk (l.map pvPart)), (3, 1, .mref σ2.length), (5, 1, .int .i64 (mostN : Nat))] = some [.ptr t 0 0 0, .list lk (l.map pvPart), .list .nil [], .mref σ2.length, .list .nil [], .int .i64 (mostN : Nat)] := rfl
  have hbx : ∀ x y z : PV, opC.vBoxAny (.agg [.ptr t 0 0 0, .list lk (l.map pvPart), x, .mref σ2.length, y, z]) = some (6, .agg [.ptr t 0 0 0, .list lk (l.map pvPart), x, .mref σ2.length, y, z]) := fun _ _ _ => rfl
  have h06 : 0 < 6 := by decide
  simp only [newMapW_eq, hbd, hbx, h06, newW_eq, List.length_map, zz, Nat.reduceEqDiff]
  have hmb : σ2.length < (σ2 ++ [Blk.map 0 []]).length := by simp
  generalize hPd : (σ2 ++ [Blk.map 0 []]).length = P at hmb ⊢
  generalize hmbd : σ2.length = mb at hmb ⊢
  generalize hσ3 : (σ2 ++ [Blk.map 0 []]) ++ [Blk.arr 0 6 [.agg [.ptr t 0 0 0, .list lk (l.map pvPart), .list .nil [], .mref mb, .list .nil [], .int .i64 (mostN : Nat)]]] = σ3
  have hmb3 : σ3[mb]? = some (.map 0 []) := by
    rw [← hσ3, List.getElem?_append_left (by simp; omega), ← hmbd]
    exact new_get _ _
  have hP3 : σ3[P]? = some (.arr 0 6 [.agg [.ptr t 0 0 0, .list lk (l.map pvPart), .list .nil [], .mref mb, .list .nil [], .int .i64 (mostN : Nat)]]) := by
    rw [← hσ3, ← hPd]
    exact new_get _ _
  have hp3 : σ2 <+: σ3 := by rw [← hσ3]; exact pre_app ⟨_, rfl⟩ _
  have hP3l : P < σ3.length := (List.getElem?_eq_some_iff.1 hP3).1
  have hmb2 : σ2.length ≤ mb := by omega
  have hP2 : σ2.length ≤ P := by omega
  clear hσ3 hPd hmbd
  simp only [add_one (a := l.length) (by omega), mk_nl (σ := σ3) (n := l.length + 1) (by omega), vNil_ptr, zz, Nat.reduceEqDiff]
  have hP4 : (σ3 ++ [Blk.arr 0 1 (List.replicate (l.length + 1) (.list .nil []))])[P]? = some (.arr 0 6 [.agg [.ptr t 0 0 0, .list lk (l.map pvPart), .list .nil [], .mref mb, .list .nil [], .int .i64 (mostN : Nat)]]) := by rw [List.getElem?_append_left hP3l]; exact hP3
  have hst : vStore 1 (.ptr P 0 0 2) (.sref σ3.length 0 1 0 (l.length + 1)) (σ3 ++ [Blk.arr 0 1 (List.replicate (l.length + 1) (.list .nil []))]) = some ((σ3 ++ [Blk.arr 0 1 (List.replicate (l.length + 1) (.list .nil []))]).set P (.arr 0 6 [.agg [.ptr t 0 0 0, .list lk (l.map pvPart), .sref σ3.length 0 1 0 (l.length + 1), .mref mb, .list .nil [], .int .i64 (mostN : Nat)]])) := by
    simp only [vStore, hP4, if_true, List.getElem?_cons_zero]
    rfl
  simp only [hst, zz, Nat.reduceEqDiff]
  generalize hσb : (σ3 ++ [Blk.arr 0 1 (List.replicate (l.length + 1) (.list .nil []))]).set P (.arr 0 6 [.agg [.ptr t 0 0 0, .list lk (l.map pvPart), .sref σ3.length 0 1 0 (l.length + 1), .mref mb, .list .nil [], .int .i64 (mostN : Nat)]]) = σb
  have hPb : σb[P]? = some (.arr 0 6 [.agg [.ptr t 0 0 0, .list lk (l.map pvPart), .sref σ3.length 0 1 0 (l.length + 1), .mref mb, .list .nil [], .int .i64 (mostN : Nat)]]) := by
    rw [← hσb]
    exact List.getElem?_set_self (by simp; omega)
  have hYb : σb[σ3.length]? = some (.arr 0 1 (List.replicate (l.length + 1) (.list .nil []))) := by
    rw [← hσb, List.getElem?_set_ne (by omega)]
    exact new_get _ _
  have hmbb : σb[mb]? = some (.map 0 []) := by
    rw [← hσb, List.getElem?_set_ne (by omega), List.getElem?_append_left (by omega)]
    exact hmb3
  have hagb : ∀ c < σ2.length, σb[c]? = σ2[c]? := fun c hc => by
    rw [← hσb, List.getElem?_set_ne (by omega), List.getElem?_append_left (by omega)]
    obtain ⟨e, rfl⟩ := hp3
    exact List.getElem?_append_left hc
  have hlenb : σb.length = σ3.length + 1 := by rw [← hσb]; simp
  clear hσb hst hP4 hP3 hmb3
  generalize hY : σ3.length = Y at hPb hYb hlenb hP3l ⊢
  have hp2Y : σ2.length ≤ Y := by have := hp3.length_le; omega
  have hHb := hH.pre (pre_of hagb)
  have hYP : Y ≠ P := by omega
  have hYmb : Y ≠ mb := fun he => by rw [he, hmbb] at hYb; cases hYb
  have hldP2 : ∀ σ' : St, σ'[P]? = some (.arr 0 6 [.agg [.ptr t 0 0 0, .list lk (l.map pvPart), .sref Y 0 1 0 (l.length + 1), .mref mb, .list .nil [], .int .i64 (mostN : Nat)]]) → vLoad false 1 (.ptr P 0 0 2) σ' = some (.sref Y 0 1 0 (l.length + 1)) ∧ vLoad false 1 (.ptr P 0 0 0) σ' = some (.ptr t 0 0 0) := fun σ' e => ⟨by simp [vLoad, e], by simp [vLoad, e]⟩
  -- the rows, from the last on
  refine Lfp_up (l.length + 1) (fun u x σ' => x = lookP [(1, .list lk (l.map pvPart)), (11, .list wk (ws.map .str)), (13, .ptr P 0 0 0), (14, .int .i64 ((l.length : Int) - (u : Int)))] ∧ May σb σ' Y ws.length ws (fpart g ws T) l (l.length + 1 - u)) ?_
    ⟨by simp, ⟨by simp, fun _ _ _ => rfl, ?_, fun k h1 h2 => by omega⟩⟩
  rotate_left
  · rw [hYb, rng_rep]
    congr 2
    refine rng_congr fun k hk => ?_
    rw [if_neg (by omega)]
  rintro Φ u x σ' hu ⟨rfl, hMay⟩ next
  have hagP : σ'[P]? = some (.arr 0 6 [.agg [.ptr t 0 0 0, .list lk (l.map pvPart), .sref Y 0 1 0 (l.length + 1), .mref mb, .list .nil [], .int .i64 (mostN : Nat)]]) := by
    rw [hMay.agree P (by omega) (Ne.symm hYP)]; exact hPb
  obtain ⟨hl2, hl0⟩ := hldP2 σ' hagP
  simp only [zz, Nat.reduceEqDiff]
  by_cases hul : u < l.length + 1
  · -- one row
    have hge : decide (((l.length : Int) - (u : Int)) ≥ 0) = true := by rw [decide_eq_true_eq]; omega
    have hcast : ((l.length : Int) - (u : Int)) = ((l.length - u : Nat) : Int) := by omega
    have hk1 : l.length - u < l.length + 1 := by omega
    simp only [hge, vNil_ptr, hl2, List.length_map, add_one (a := ws.length) (by omega), mk_bl (σ := σ') (n := ws.length + 1) (by omega), zz, Nat.reduceEqDiff]
    rw [hcast]
    have hlenσ := hMay.len
    have hYl : Y < σ'.length := by omega
    have htop0 : (σ' ++ [Blk.arr 0 1 (bl (ws.length + 1) fun _ => false)])[Y]? = some (.arr 0 1 ((List.range (l.length + 1)).map fun k => if l.length + 1 - u ≤ k then .sref (σb.length + (l.length - k)) 0 1 0 (ws.length + 1) else .list .nil [])) := by rw [List.getElem?_append_left hYl]; exact hMay.top
    have hst := st_rng (x := .sref σ'.length 0 1 0 (ws.length + 1)) htop0 hk1 (by rw [if_neg (by omega)]) rfl
    simp only [ix_sref (b := Y) (q := .i64) hk1, hst, zz, Nat.reduceEqDiff]
    -- the store, a row begun
    have hseteq : (σ' ++ [Blk.arr 0 1 (bl (ws.length + 1) fun _ => false)]).set Y (.arr 0 1 ((List.range (l.length + 1)).map fun j => if j = l.length - u then .sref σ'.length 0 1 0 (ws.length + 1) else if l.length + 1 - u ≤ j then .sref (σb.length + (l.length - j)) 0 1 0 (ws.length + 1) else .list .nil [])) =
        σ'.set Y (.arr 0 1 ((List.range (l.length + 1)).map fun j => if j = l.length - u then .sref σ'.length 0 1 0 (ws.length + 1) else if l.length + 1 - u ≤ j then .sref (σb.length + (l.length - j)) 0 1 0 (ws.length + 1) else .list .nil [])) ++ [Blk.arr 0 1 (bl (ws.length + 1) fun _ => false)] := by
      rw [List.set_append_left _ _ hYl]
    rw [hseteq]
    generalize hσt : σ'.set Y (.arr 0 1 ((List.range (l.length + 1)).map fun j => if j = l.length - u then .sref σ'.length 0 1 0 (ws.length + 1) else if l.length + 1 - u ≤ j then .sref (σb.length + (l.length - j)) 0 1 0 (ws.length + 1) else .list .nil [])) = σt
    have hlt : σt.length = σ'.length := by rw [← hσt]; simp
    have htopt : σt[Y]? = some (.arr 0 1 ((List.range (l.length + 1)).map fun j => if l.length - u ≤ j then .sref (σb.length + (l.length - j)) 0 1 0 (ws.length + 1) else .list .nil [])) := by
      rw [← hσt, List.getElem?_set_self hYl]
      congr 2
      refine rng_congr fun j hj => ?_
      by_cases h1 : j = l.length - u
      · subst h1
        rw [if_pos rfl, if_pos (Nat.le_refl _), hlenσ]
        congr 1
        omega
      · rw [if_neg h1]
        by_cases h2 : l.length + 1 - u ≤ j
        · rw [if_pos h2, if_pos (by omega)]
        · rw [if_neg h2, if_neg (by omega)]
    have hagt : ∀ c < σb.length, c ≠ Y → σt[c]? = σb[c]? := fun c hc hcY => by rw [← hσt, List.getElem?_set_ne (Ne.symm hcY)]; exact hMay.agree c hc hcY
    have hrowt : ∀ k, l.length + 1 - u ≤ k → k ≤ l.length → σt[σb.length + (l.length - k)]? = some (.arr 0 1 (bl (ws.length + 1) fun a => mayB ws (fpart g ws T) (l.drop k) a)) := fun k h1 h2 => by
      rw [← hσt, List.getElem?_set_ne (by omega)]; exact hMay.row k h1 h2
    clear hst htop0 hseteq hσt
    have hPt : ∀ F, (σt ++ [Blk.arr 0 1 (bl (ws.length + 1) F)])[P]? = some (.arr 0 6 [.agg [.ptr t 0 0 0, .list lk (l.map pvPart), .sref Y 0 1 0 (l.length + 1), .mref mb, .list .nil [], .int .i64 (mostN : Nat)]]) := fun F => by
      rw [List.getElem?_append_left (by omega), hagt P (by omega) (Ne.symm hYP)]; exact hPb
    have hHt : ∀ F, HT (σt ++ [Blk.arr 0 1 (bl (ws.length + 1) F)]) t A ixb bm bc g ws wk T := fun F => hH.pre (pre_of fun c hc => by
      rw [List.getElem?_append_left (by omega), hagt c (by omega) (by omega), hagb c hc])
    have hYk : ∀ F k, l.length - u ≤ k → k ≤ l.length → vLoad false 1 (.ptr Y 0 k 0) (σt ++ [Blk.arr 0 1 (bl (ws.length + 1) F)]) = some (.sref (σb.length + (l.length - k)) 0 1 0 (ws.length + 1)) := fun F k h1 h2 => by
      have : (σt ++ [Blk.arr 0 1 (bl (ws.length + 1) F)])[Y]? = some (.arr 0 1 ((List.range (l.length + 1)).map fun j => if l.length - u ≤ j then .sref (σb.length + (l.length - j)) 0 1 0 (ws.length + 1) else .list .nil [])) := by rw [List.getElem?_append_left (by omega)]; exact htopt
      simp only [vLoad, this, rng_get (show k < l.length + 1 by omega), if_true, if_pos h1]
      rfl
    have hbidx : σb.length + (l.length - (l.length - u)) = σt.length := by rw [hlt, hlenσ]; omega
    have hnewF : ∀ F, (σt ++ [Blk.arr 0 1 (bl (ws.length + 1) F)])[σb.length + (l.length - (l.length - u))]? = some (.arr 0 1 (bl (ws.length + 1) F)) := fun F => by rw [hbidx]; exact new_get _ _
    have hsetF : ∀ F G, (σt ++ [Blk.arr 0 1 (bl (ws.length + 1) F)]).set (σb.length + (l.length - (l.length - u))) (.arr 0 1 (bl (ws.length + 1) G)) = σt ++ [Blk.arr 0 1 (bl (ws.length + 1) G)] := fun F G => by rw [hbidx]; exact set_new _ _ _
    have e0 := hldP2 _ (hPt fun _ => false)
    simp only [vNil_ptr, e0.1, ix_sref (b := Y) (q := .i64) hk1, hYk (fun _ => false) (l.length - u) (Nat.le_refl _) (by omega), zz, Nat.reduceEqDiff]
    refine Lfp_up (ws.length + 1) (fun a x σ6 => x = lookP [(1, .list lk (l.map pvPart)), (11, .list wk (ws.map .str)), (13, .ptr P 0 0 0), (14, .int .i64 ((l.length - u : Nat) : Int)), (82, .int .i64 ((ws.length + 1 : Nat) : Int)), (83, .int .i64 a)] ∧
        σ6 = σt ++ [Blk.arr 0 1 (bl (ws.length + 1) fun j => decide (j < a) && mayB ws (fpart g ws T) (l.drop (l.length - u)) j)]) ?_ ⟨rfl, congrArg (fun l => σt ++ [Blk.arr 0 1 l]) (bl_congr fun k _ => by simp)⟩
    rintro Φ2 a x σ6 ha ⟨rfl, rfl⟩ next2
    simp only [zz, Nat.reduceEqDiff]
    by_cases hal : a < ws.length + 1
    · have e1 := hldP2 _ (hPt fun j => decide (j < a) && mayB ws (fpart g ws T) (l.drop (l.length - u)) j)
      have stepF : ∀ b, b = mayB ws (fpart g ws T) (l.drop (l.length - u)) a → (σt ++ [Blk.arr 0 1 (bl (ws.length + 1) fun j => if j = a then b else decide (j < a) && mayB ws (fpart g ws T) (l.drop (l.length - u)) j)]) = σt ++ [Blk.arr 0 1 (bl (ws.length + 1) fun j => decide (j < a + 1) && mayB ws (fpart g ws T) (l.drop (l.length - u)) j)] := fun b hb => by
        congr 3
        refine bl_congr fun k _ => ?_
        by_cases hka : k = a
        · subst hka
          rw [if_pos rfl, hb]
          simp
        · rw [if_neg hka]
          congr 1
          exact decide_eq_decide.2 (by omega)
      simp only [hal, List.length_map, zz, Nat.reduceEqDiff]
      by_cases hu0 : u = 0
      · -- the last row
        subst hu0
        have hbe : (((l.length - 0 : Nat) : Int) == (l.length : Int)) = true := by simp
        have hmay : mayB ws (fpart g ws T) (l.drop (l.length - 0)) a = ((a : Int) == (ws.length : Int)) := by
          rw [Nat.sub_zero, List.drop_length]
          refine bool_ext ?_
          simp [mayB]
          omega
        simp only [hbe, vNil_ptr, e1.1, ix_sref (b := Y) (q := .i64) hk1, hYk _ (l.length - 0) (Nat.le_refl _) (by omega), ix_sref (b := σb.length + (l.length - (l.length - 0))) (q := .i64) hal, st_bl (hnewF _) hal, hsetF, add_one (a := a) (by omega), zz, Nat.reduceEqDiff]
        exact next2 _ _ hal ⟨rfl, stepF _ hmay.symm⟩
      · have hbe : (((l.length - u : Nat) : Int) == (l.length : Int)) = false := by
          rw [beq_eq_false_iff_ne]
          omega
        have hkl : l.length - u < l.length := by omega
        have hgi : l[l.length - u]? = some l[l.length - u] := by simp [hkl]
        have hmem : l[l.length - u] ∈ l := by simp
        have hdr := drop_cons hgi
        generalize l[l.length - u] = p at hgi hmem hdr
        have hmay : mayB ws (fpart g ws T) (l.drop (l.length - u)) a = (List.range (ws.length + 1 - a)).any fun n => mayB ws (fpart g ws T) (l.drop (l.length - u + 1)) (a + n) && fpart g ws T p a (a + n) := by
          rw [hdr, mayB]
        simp only [hbe, zz, Nat.reduceEqDiff]
        refine Lfp_up (ws.length + 1 - a) (fun n x σ7 => x = lookP [(1, .list lk (l.map pvPart)), (11, .list wk (ws.map .str)), (13, .ptr P 0 0 0), (14, .int .i64 ((l.length - u : Nat) : Int)), (15, .int .i64 (a : Nat)), (16, .int .i64 n), (82, .int .i64 ((ws.length + 1 : Nat) : Int)), (83, .int .i64 (a : Nat))] ∧
            σ7 = σt ++ [Blk.arr 0 1 (bl (ws.length + 1) fun j => if j = a then (List.range n).any fun n => mayB ws (fpart g ws T) (l.drop (l.length - u + 1)) (a + n) && fpart g ws T p a (a + n) else decide (j < a) && mayB ws (fpart g ws T) (l.drop (l.length - u)) j)]) ?_ ⟨rfl, by
          congr 3
          refine bl_congr fun k _ => ?_
          by_cases hka : k = a
          · subst hka; simp
          · simp [hka]⟩
        rintro Φ3 n x σ7 hn ⟨rfl, rfl⟩ next3
        simp only [add_nat (a := a) (b := n) (by omega), List.length_map, Int.ofNat_le, zz, Nat.reduceEqDiff]
        by_cases hnl : a + n ≤ ws.length
        · have hanl : a + n < ws.length + 1 := by omega
          have hk2 : l.length - u + 1 < l.length + 1 := by omega
          generalize hF : (fun j => if j = a then (List.range n).any fun n => mayB ws (fpart g ws T) (l.drop (l.length - u + 1)) (a + n) && fpart g ws T p a (a + n) else decide (j < a) && mayB ws (fpart g ws T) (l.drop (l.length - u)) j) = F
          have hFa : F a = (List.range n).any fun n => mayB ws (fpart g ws T) (l.drop (l.length - u + 1)) (a + n) && fpart g ws T p a (a + n) := by rw [← hF]; simp
          have e2 := hldP2 _ (hPt F)
          have f1 := hYk F (l.length - u) (Nat.le_refl _) (by omega)
          have f2 := hYk F (l.length - u + 1) (by omega) (by omega)
          have hrow2 : (σt ++ [Blk.arr 0 1 (bl (ws.length + 1) F)])[σb.length + (l.length - (l.length - u + 1))]? = some (.arr 0 1 (bl (ws.length + 1) fun a => mayB ws (fpart g ws T) (l.drop (l.length - u + 1)) a)) := by
            rw [List.getElem?_append_left (by omega)]
            exact hrowt (l.length - u + 1) (by omega) (by omega)
          have stepN : ∀ b, b = (F a || (mayB ws (fpart g ws T) (l.drop (l.length - u + 1)) (a + n) && fpart g ws T p a (a + n))) → (σt ++ [Blk.arr 0 1 (bl (ws.length + 1) fun j => if j = a then b else F j)]) = σt ++ [Blk.arr 0 1 (bl (ws.length + 1) fun j => if j = a then (List.range (n + 1)).any fun n => mayB ws (fpart g ws T) (l.drop (l.length - u + 1)) (a + n) && fpart g ws T p a (a + n) else decide (j < a) && mayB ws (fpart g ws T) (l.drop (l.length - u)) j)] := fun b hb => by
            congr 3
            refine bl_congr fun k _ => ?_
            by_cases hka : k = a
            · rw [if_pos hka, if_pos hka, hb, any_succ, hFa]
            · rw [if_neg hka, if_neg hka, ← hF]
              simp [hka]
          simp only [hnl, vNil_ptr, e2.1, e2.2, ix_sref (b := Y) (q := .i64) hk1, f1, ix_sref (b := σb.length + (l.length - (l.length - u))) (q := .i64) hal, ld_bl (hnewF F) hal, zz, Nat.reduceEqDiff]
          cases hX : F a with
          | true =>
            simp only [zz, Nat.reduceEqDiff]
            simp only [st_bl (hnewF F) hal, hsetF, add_one (a := n) (by omega), zz, Nat.reduceEqDiff]
            exact next3 _ _ (by omega) ⟨rfl, stepN true (by rw [hX]; rfl)⟩
          | false =>
            simp only [add_one (a := l.length - u) (by omega), ix_sref (b := Y) (q := .i64) hk2, f2, add_nat (a := a) (b := n) (by omega), ix_sref (b := σb.length + (l.length - (l.length - u + 1))) (q := .i64) hanl, ld_bl hrow2 hanl, zz, Nat.reduceEqDiff]
            cases hYv : mayB ws (fpart g ws T) (l.drop (l.length - u + 1)) (a + n) with
            | false =>
              simp only [zz, Nat.reduceEqDiff]
              simp only [st_bl (hnewF F) hal, hsetF, add_one (a := n) (by omega), zz, Nat.reduceEqDiff]
              exact next3 _ _ (by omega) ⟨rfl, stepN false (by rw [hX, hYv]; rfl)⟩
            | true =>
              simp only [vNil_ptr, e2.2, encPart.index hgi, encPart.part, zz, Nat.reduceEqDiff]
              refine (c93 (hHt F) (hok p hmem) (hkn p hmem) hnl).callC ?_
              simp only [st_bl (hnewF F) hal, hsetF, add_one (a := n) (by omega), zz, Nat.reduceEqDiff]
              exact next3 _ _ (by omega) ⟨rfl, stepN _ (by rw [hX, hYv]; rfl)⟩
        · have hne : n = ws.length + 1 - a := by omega
          subst hne
          simp only [hnl, add_one (a := a) (by omega), zz, Nat.reduceEqDiff]
          refine next2 _ _ hal ⟨rfl, stepF _ hmay.symm⟩
    · obtain rfl : a = ws.length + 1 := by omega
      have hsub1 : vBin none .sub (.int .i64 ((l.length - u : Nat) : Int)) (.int .i64 1) = some (.int .i64 ((l.length : Int) - ((u + 1 : Nat) : Int))) := by
        rw [vBin_sub _ (by omega) (by omega)]
        congr 2
        omega
      simp only [hal, hsub1, zz, Nat.reduceEqDiff]
      refine next _ _ hul ⟨rfl, ⟨?_, fun c hc hcY => ?_, ?_, fun k h1 h2 => ?_⟩⟩
      · simp [hlt, hlenσ]
        omega
      · rw [List.getElem?_append_left (by omega)]; exact hagt c hc hcY
      · rw [List.getElem?_append_left (by omega), htopt]
        congr 2
        refine rng_congr fun j _ => ?_
        by_cases hj : l.length - u ≤ j
        · rw [if_pos hj, if_pos (by omega)]
        · rw [if_neg hj, if_neg (by omega)]
      · by_cases hku : k = l.length - u
        · subst hku
          rw [hnewF]
          congr 2
          refine bl_congr fun j hj => ?_
          simp [hj]
        · rw [List.getElem?_append_left (by omega)]
          exact hrowt k (by omega) h2
  · obtain rfl : u = l.length + 1 := by omega
    have hge : decide (((l.length : Int) - ((l.length + 1 : Nat) : Int)) ≥ 0) = false := by rw [decide_eq_false_iff_not]; omega
    simp only [hge, zz, Nat.reduceEqDiff]
    have hag' : ∀ c < σ2.length, σ'[c]? = σ2[c]? := fun c hc => by rw [hMay.agree c (by omega) (by omega), hagb c hc]
    have hH' := hH.pre (pre_of hag')
    have hmb' : σ'[mb]? = some (.map 0 []) := by rw [hMay.agree mb (by have := (List.getElem?_eq_some_iff.1 hmbb).1; omega) (Ne.symm hYmb)]; exact hmbb
    have hmay := hMay
    have hStat : Stat t Y A ixb (fun k => σb.length + (l.length - k)) bm bc g ws wk T l σ' := by
      refine ⟨hH', ?_, fun k hk => hMay.row k (by omega) hk⟩
      rw [hMay.top]
      congr 2
      refine rng_congr fun k _ => ?_
      rw [if_pos (by omega)]
    have hixmb : ixb ≠ mb := fun he => by
      obtain ⟨v, hv⟩ := hH.map
      have := (List.getElem?_eq_some_iff.1 hv).1
      omega
    have hM0 : MS σ' P t Y mb l lk mostN σ' [] [] (.list .nil []) [] := ⟨fun _ _ _ _ => rfl, Nat.le_refl _, hagP, ⟨0, hmb'⟩, OutAt.nil _ _⟩
    refine c94 hStat hagP hmb' hixmb hkn hok (by omega) (by omega) (by omega) hl l.length 0 (by omega) σ' 0 [] [] [] (.list .nil []) [] _ hM0 List.Pairwise.nil List.Pairwise.nil (fun x => Iff.rfl) (by simp; omega) (Nat.zero_le _) (Nat.zero_le _) fun σ7 ov7 es7 hM7 => ?_
    have hpre7 : σ <+: σ7 := by
      refine hp02.trans (pre_of fun c hc => ?_)
      rw [hM7.agree c (by have := hMay.len; omega) (by omega) (by omega), hag' c hc]
    rw [List.nil_append, List.drop_zero, hall] at hM7 ⊢
    obtain ⟨w0, w1, w2, w3, w4, w5⟩ := hM7.ld (fun _ _ => trivial)
    simp only [zz, Nat.reduceEqDiff]
    by_cases hfit : (allB ws (fpart g ws (derT g ws)) l 0 []).length ≤ mostN
    · have : (((allB ws (fpart g ws (derT g ws)) l 0 []).length : Int)) ≤ (mostN : Int) := by omega
      rw [if_pos this] at hmat
      rw [decide_eq_true hfit]
      simp only [vNil_ptr, w4, zz, Nat.reduceEqDiff]
      have hO := hM7.out
      rw [List.take_of_length_le (by omega)] at hO
      rw [hmat] at hR
      exact weakW_keep (hR σ7 ov7 es7 _ hO hpre7)
    · have : ¬ (((allB ws (fpart g ws (derT g ws)) l 0 []).length : Int)) ≤ (mostN : Int) := by omega
      rw [if_neg this] at hmat
      rw [decide_eq_false hfit]
      simp only [zz, Nat.reduceEqDiff]
      exact fin _ _ hpre7 hmat

end Go.Proofs.YtiniifbmeobmgaaGreatDoor
