import Derived.Test.YtgghfcchanilpaaGreatDoorSpNa
import Derived.Test.YtgghfcchanilpaaGreatDoorSpZe
set_option linter.unusedVariables false
set_option linter.unusedSimpArgs false
namespace Go.Proofs.YtgghfcchanilpaaGreatDoor
open Go Go.Abs
theorem push_int {σ τ : St} {v : PV} {L : List Int} (hp : σ <+: τ) (h : Grow σ.length 1 τ v (L.map pvI)) (hl : L.length ≤ 4194304) (n : Int) : ∃ v' τ', vAppend 1 8 v (.list .full [.int .i64 n]) τ = some (v', τ') ∧ σ <+: τ' ∧ Grow σ.length 1 τ' v' ((L ++ [n]).map pvI) := by
 obtain ⟨x', σ', h1, h2, h3, -⟩ := Grow.app (by_ := 8) h hp (y := .list .full [.int .i64 n]) (zs := [.int .i64 n]) rfl (fun z hz => by simp at hz; subst hz; exact sized_i n) (by simp; omega)
 refine ⟨x', σ', h1, h3, ?_⟩
 rw [List.map_append]
 exact h2
theorem frz_ints {n0 : Nat} {σ : St} {v : PV} {L : List Int} (h : Grow n0 1 σ v (L.map pvI)) : Frz σ n0 v (growV (L.map pvI)) := Grow.frz h fun y hy => by
 obtain ⟨n, _, rfl⟩ := List.mem_map.1 hy
 exact .base _ (.int _ _)
theorem i_idx {lk : LK} {l : List Int} {j : Nat} {n : Int} (h : l[j]? = some n) {q : IntKind} : vIndex 1 (.list lk (l.map pvI)) (.int q j) = some (.eptr (.int .i64 n) 0) := encI.index h
theorem i_ld (n : Int) (σ : St) : vLoad false 1 (.eptr (.int .i64 n) 0) σ = some (.int .i64 n) := rfl
theorem c140 {lk : LK} {l : List Int} (hl : l.length ≤ 1048577) (n : Int) (σ : St) : Ret W 140 [.list lk (l.map pvI), .int .i64 n] σ (growV ((putI l n).map pvI)) := by
 refine ret_of fun R hR => ?_
 rw [fn140_eq]
 unfold fn140
 simp only [zz, Nat.reduceEqDiff]
 refine CutW_by (fun x τ => ∃ acc d, x 1 = .int .i64 n ∧ x 6 = .bool d ∧ σ <+: τ ∧ Grow σ.length 1 τ (x 5) (acc.map pvI) ∧ acc.length ≤ 2097154 ∧ acc ++ (if d then [] else [n]) = putI l n) (fun x τ hx => ?_) ?_
 ·obtain ⟨acc, d, q1, q6, hp, hg, hal, hput⟩ := hx
  simp only [q1, q6, zz, Nat.reduceEqDiff]
  refine CutW_by (fun x' τ' => σ <+: τ' ∧ Grow σ.length 1 τ' (x' 5) ((putI l n).map pvI)) (fun x' τ' hx' => ?_) ?_
  ·exact weakW_clean hx'.1 (frz_ints hx'.2) hR
  ·cases d with
   | true =>
    simp only [if_true, List.append_nil] at hput
    rw [hput] at hg
    simp only [zz, Nat.reduceEqDiff]
    exact ⟨hp, hg⟩
   | false =>
    simp only [Bool.false_eq_true, if_false] at hput
    obtain ⟨v', τ', e1, p1, g1⟩ := push_int hp hg (by omega) n
    rw [hput] at g1
    simp only [b1_int, e1, zz, Nat.reduceEqDiff]
    exact ⟨p1, g1⟩
 refine Lfp_up l.length (fun j x τ => ∃ acc d v, x = lookP [(0, .list lk (l.map pvI)), (1, .int .i64 n), (5, v), (6, .bool d), (7, .int .i64 j)] ∧ σ <+: τ ∧ Grow σ.length 1 τ v (acc.map pvI) ∧ acc.length ≤ 2 * j ∧ acc ++ putL n (l.drop j) d = putI l n) ?_
  ⟨[], false, _, rfl, List.prefix_refl _, .nil _ _ _, by simp, by simp [putI]⟩
 rintro Φ j x τ hj ⟨acc, d, v, rfl, hp, hg, hal, hput⟩ next
 by_cases hlt : j < l.length
 ·have hge : l[j]? = some l[j] := by simp [hlt]
  have hdrop : l.drop j = l[j] :: l.drop (j + 1) := List.drop_eq_getElem_cons hlt
  generalize l[j] = y at hge hdrop
  rw [hdrop] at hput
  simp only [putL] at hput
  simp only [List.length_map, hlt, lt_len' hlt, decide_true, zz, Nat.reduceEqDiff]
  refine CutW_by (fun x' τ' => ∃ acc' v', x' = lookP [(0, .list lk (l.map pvI)), (1, .int .i64 n), (5, v'), (6, .bool (d || decide (n ≤ y))), (7, .int .i64 j)] ∧ σ <+: τ' ∧ Grow σ.length 1 τ' v' (acc'.map pvI) ∧ acc'.length ≤ 2 * (j + 1) ∧ acc' ++ putL n (l.drop (j + 1)) (d || decide (n ≤ y)) = putI l n) (fun x' τ' hx' => ?_) ?_
  ·obtain ⟨acc', v', rfl, hp', hg', hal', hput'⟩ := hx'
   simp only [zz, Nat.reduceEqDiff]
   rw [vBin_add _ (by omega) (by omega)]
   simp only [zz, Nat.reduceEqDiff]
   exact next _ _ hlt ⟨acc', _, v', rfl, hp', hg', hal', hput'⟩
  refine CutW_by (fun x' τ' => ∃ acc' v', x' = lookP [(0, .list lk (l.map pvI)), (1, .int .i64 n), (5, v'), (6, .bool (d || decide (n ≤ y))), (7, .int .i64 j)] ∧ σ <+: τ' ∧ Grow σ.length 1 τ' v' (acc'.map pvI) ∧ acc'.length ≤ 2 * j + 1 ∧ acc' ++ ((if y ≠ n then [y] else []) ++ putL n (l.drop (j + 1)) (d || decide (n ≤ y))) = putI l n) (fun x' τ' hx' => ?_) ?_
  ·obtain ⟨acc', v', rfl, hp', hg', hal', hput'⟩ := hx'
   have hne : vBin none .neq (.int .i64 y) (.int .i64 n) = some (.bool (y != n)) := rfl
   simp only [i_idx hge, i_ld, hne, zz, Nat.reduceEqDiff]
   refine condB (fun hb => ?_) (fun hb => ?_)
   ·have hyn : y ≠ n := by simpa using hb
    rw [if_pos hyn] at hput'
    obtain ⟨v2, τ2, e1, p1, g1⟩ := push_int hp' hg' (by omega) y
    simp only [i_idx hge, i_ld, b1_int, e1, zz, Nat.reduceEqDiff]
    exact ⟨_, _, rfl, p1, g1, by simp; omega, by rw [List.append_assoc]; exact hput'⟩
   ·have hyn : ¬ y ≠ n := by simpa using hb
    rw [if_neg hyn, List.nil_append] at hput'
    exact ⟨_, _, rfl, hp', hg', by omega, hput'⟩
  refine andG (decide (n ≤ y)) (fun _ J hJ => ?_) ?_
  ·simp only [i_idx hge, i_ld, zz, Nat.reduceEqDiff]
   exact hJ _ rfl
  refine condB (fun hb => ?_) (fun hb => ?_)
  ·obtain ⟨v2, τ2, e1, p1, g1⟩ := push_int hp hg (by omega) n
   simp only [b1_int, e1, zz, Nat.reduceEqDiff]
   have hle : decide (n ≤ y) = true := (Bool.and_eq_true_iff.1 hb).2
   refine ⟨_, _, ?_, p1, g1, by simp; omega, ?_⟩
   ·rw [hle, Bool.or_true]
   ·rw [hb, if_pos rfl] at hput
    simpa [List.append_assoc] using hput
  ·refine ⟨_, _, ?_, hp, hg, by omega, ?_⟩
   ·cases d with
    | true => rfl
    | false =>
     have hle : decide (n ≤ y) = false := by simpa using hb
     rw [hle]
     rfl
   ·rw [hb] at hput
    simpa using hput
 ·obtain rfl : j = l.length := by omega
  simp only [List.length_map, not_lt_len', Nat.lt_irrefl, decide_false, zz, Nat.reduceEqDiff]
  refine ⟨acc, d, trivial, rfl, hp, hg, by omega, ?_⟩
  rw [List.drop_length] at hput
  exact hput
theorem c141 {c : CodeS} (hc : Okay c) (pc : Int) (σ : St) : Ret W 141 [pvCode c, .int .i64 pc] σ (.int .i64 (idxOf (inR pc) c.routs.2 0)) := by
 refine ret_of fun R hR => ?_
 rw [fn141_eq]
 unfold fn141
 have hrl := hc.routs
 simp only [code_parts, zz, Nat.reduceEqDiff]
 refine CutW_by (fun x τ => τ = σ ∧ idxOf (inR pc) c.routs.2 0 = -1) (fun x τ hx => ?_) ?_
 ·obtain ⟨rfl, h⟩ := hx
  rw [h] at hR
  exact weakW_keep hR
 refine Lfp_up c.routs.2.length (fun j x τ => x = lookP [(1, .int .i64 pc), (5, .int .i64 j), (2, pvCode c)] ∧ τ = σ ∧ (c.routs.2.take j).all (fun r => !inR pc r) = true) ?_ ⟨rfl, rfl, rfl⟩
 rintro Φ j x τ hj ⟨rfl, rfl, hp⟩ next
 by_cases hlt : j < c.routs.2.length
 ·simp only [code_parts, sl_len, lt_len hlt, hlt, decide_true, zz, Nat.reduceEqDiff]
  refine (c135 (by unfold len; omega) _ _).callB ?_
  have hin : (decide ((j : Int) ≥ 0) && inRout c j pc) = inR pc (rAt c j) := by
   rw [decide_eq_true (show (j : Int) ≥ 0 by omega), Bool.true_and]
   rfl
  rw [hin]
  refine condB (fun hb => ?_) (fun hb => ?_)
  ·have := idxOf_hit (n := 0) (rAt_get hlt) hb hp
   rw [this, Nat.zero_add] at hR
   exact weakW_keep hR
  ·rw [vBin_add _ (by omega) (by omega)]
   simp only [zz, Nat.reduceEqDiff]
   exact next _ _ hlt ⟨rfl, rfl, all_take_succ hp (rAt_get hlt) (by rw [hb]; rfl)⟩
 ·obtain rfl : j = c.routs.2.length := by omega
  rw [List.take_length] at hp
  simp only [code_parts, sl_len, not_lt_len, Nat.lt_irrefl, decide_false, zz, Nat.reduceEqDiff]
  exact ⟨trivial, idxOf_none hp⟩
theorem puts_len : ∀ (xs l : List Int), (xs.foldl putI l).length ≤ l.length + xs.length
 | [], l => by simp
 | x :: xs, l => by
  have h1 := puts_len xs (putI l x)
  have h2 := putI_len l x
  simp only [List.foldl_cons, List.length_cons]
  omega
theorem c76 {c : CodeS} (hc : Okay c) (hright : Right c) {k : Nat} (hkl : k < c.insts.2.length) (σ : St) : Ret W 76 [pvCode c, .int .i64 k] σ (growV ((nextS c k).map pvI)) := by
 refine ret_of fun R hR => ?_
 rw [fn76_eq]
 unfold fn76
 have hil := hc.insts
 have hjs := fun ho => hright.jumps hkl ho
 obtain ⟨hf, hr0⟩ := hright.fit
 obtain ⟨r, hr, hfr, hto, hri⟩ := fit_rout_of hf hr0 (k := k) (by omega) (by unfold len; omega)
 have hns : nextS c k = (nextL c (iAt c k) ++ (if behindB (iAt c k) && decide ((k : Int) + 1 < (rAt c r).to) then [(k : Int) + 1] else [])).foldl putI [] := by
  unfold nextS
  rw [hri]
 have hjl : (jumpsOf c (iAt c k)).2.length ≤ 1048576 := by
  unfold jumpsOf atI
  rw [List.getD_eq_getElem?_getD]
  cases hq : c.jumps.2[(iAt c k).k.toNat]? with
  | none => simp
  | some m => exact hc.jump m (List.mem_of_getElem? hq)
 obtain ⟨hkn, -, -⟩ := inst_ok (hright.inst k hkl)
 have hix : vIndex 12 (pvSl pvInst c.insts) (.int .i64 k) = some (.eptr (pvInst (iAt c k)) 0) := sl_idx encInst (iAt_get hkl)
 generalize iAt c k = i at hix hjs hns hjl hkn
 obtain ⟨l1, -, -⟩ := letters hkn
 have s4 : vStrAt (.str (formS i.op)) (.int .i64 4) = some (.int .u8 (lf i.op 4)) := str_at (k := 4) hkn (by omega)
 have fin : ∀ L, nextS c k = L → weakW σ (growV (L.map pvI)) σ fun v σ => R (.ret v) σ := fun L h => by
  rw [← h]
  exact weakW_keep hR
 clear hR
 simp only [code_parts, hix, encInst.part, put_inst, inst_parts3, zz, Nat.reduceEqDiff]
 
 refine CutW_by (fun x τ => x 1 = .int .i64 k ∧ x 2 = pvCode c ∧ x 5 = pvInst i ∧ x 6 = growV (((if i.op = 11 ∨ i.op = 12 ∨ i.op = 19 then (jumpsOf c i).2 else []).foldl putI []).map pvI) ∧ τ = σ) (fun x τ hx => ?_) ?_
 case refine_2 =>
  refine (c18 _ _).callB ?_
  simp only [s4, zz, Nat.reduceEqDiff]
  refine condL (fun hl => ?_) (fun hl => ?_)
  ·have hop := l1.1 hl
   rw [if_pos hop]
   obtain ⟨j0, j1, j2⟩ := hjs hop
   have hjx : vIndex 1 (pvSl pvInts c.jumps) (.int .i64 i.k) = some (.eptr (pvInts (jumpsOf c i)) 0) := idxI encInts (.nil, []) j0 j1
   generalize jumpsOf c i = t at hjl hjx
   have hlt : ∀ σ : St, vLen .sl (pvInts t) σ = some (.int .i64 (len t)) := fun σ => sl_len _ _ _
   refine Lfp_up t.2.length (fun j x τ => x = lookP [(1, .int .i64 k), (6, growV (((t.2.take j).foldl putI []).map pvI)), (7, .int .i64 j), (2, pvCode c), (5, pvInst i)] ∧ τ = σ) ?_ ⟨rfl, rfl⟩
   rintro Φ j x τ hj ⟨rfl, rfl⟩ next
   by_cases hlj : j < t.2.length
   ·have hg : t.2[j]? = some t.2[j] := by simp [hlj]
    have htake : t.2.take (j + 1) = t.2.take j ++ [t.2[j]] := by rw [List.take_add_one, hg]; rfl
    generalize t.2[j] = y at hg htake
    have hi' : vIndex 1 (pvInts t) (.int .i64 j) = some (.eptr (pvI y) 0) := sl_idx encI hg
    have hpv : pvI y = .int .i64 y := rfl
    simp only [code_parts, inst_parts3, hjx, encInts.part, hlt, lt_len hlj, hlj, decide_true, hi', encI.part, hpv, zz, Nat.reduceEqDiff]
    have hpl := puts_len (t.2.take j) []
    obtain ⟨lk, hlk⟩ := growV_list (((t.2.take j).foldl putI []).map pvI)
    rw [hlk]
    refine (c140 (by simp at hpl; omega) y _).callB ?_
    rw [vBin_add _ (by omega) (by omega)]
    simp only [zz, Nat.reduceEqDiff]
    refine next _ _ hlj ⟨?_, rfl⟩
    rw [htake, List.foldl_append]
    rfl
   ·obtain rfl : j = t.2.length := by omega
    simp only [code_parts, inst_parts3, hjx, encInts.part, hlt, not_lt_len, Nat.lt_irrefl, decide_false, zz, Nat.reduceEqDiff, List.take_length]
    exact ⟨trivial, trivial, trivial, trivial, trivial⟩
  ·rw [if_neg (fun h => hl (l1.2 h))]
   exact ⟨trivial, trivial, trivial, rfl, trivial⟩
 obtain ⟨q1, q2, q5, q6, rfl⟩ := hx
 simp only [q1, q2, q5, q6, code_parts, inst_parts3, zz, Nat.reduceEqDiff]
 have hL0 : ((if i.op = 11 ∨ i.op = 12 ∨ i.op = 19 then (jumpsOf c i).2 else []).foldl putI []).length ≤ 1048576 := by
  have h1 := puts_len (if i.op = 11 ∨ i.op = 12 ∨ i.op = 19 then (jumpsOf c i).2 else []) []
  have h2 : (if i.op = 11 ∨ i.op = 12 ∨ i.op = 19 then (jumpsOf c i).2 else []).length ≤ 1048576 := by
   split
   ·exact hjl
   ·simp
  rw [List.length_nil] at h1
  omega
 have hL1 : (nextL c i).foldl putI [] = if i.op = 9 ∨ i.op = 10 ∨ (i.op = 18 ∧ i.s.b = 0) then putI ((if i.op = 11 ∨ i.op = 12 ∨ i.op = 19 then (jumpsOf c i).2 else []).foldl putI []) i.k else (if i.op = 11 ∨ i.op = 12 ∨ i.op = 19 then (jumpsOf c i).2 else []).foldl putI [] := by
  unfold nextL
  by_cases h1 : i.op = 9 ∨ i.op = 10
  ·rw [if_pos h1, if_pos (by omega), if_neg (by omega)]
   rfl
  ·rw [if_neg h1]
   by_cases h2 : i.op = 11 ∨ i.op = 12 ∨ i.op = 19
   ·rw [if_pos h2, if_neg (by omega), if_pos h2]
   ·rw [if_neg h2]
    by_cases h3 : i.op = 18 ∧ i.s.b = 0
    ·rw [if_pos h3, if_pos (by omega), if_neg h2]
     rfl
    ·rw [if_neg h3, if_neg (by omega), if_neg h2]
 have hN : nextS c k = if behindB i && decide ((k : Int) + 1 < (rAt c r).to) then putI ((nextL c i).foldl putI []) (k + 1) else (nextL c i).foldl putI [] := by
  rw [hns, List.foldl_append]
  split <;> rfl
 have hNl : ((nextL c i).foldl putI []).length ≤ 1048577 := by
  rw [hL1]
  have := putI_len ((if i.op = 11 ∨ i.op = 12 ∨ i.op = 19 then (jumpsOf c i).2 else []).foldl putI []) i.k
  split <;> omega
 clear hns hix hjs q1 q2 q5 q6 x l1 s4
 generalize (if i.op = 11 ∨ i.op = 12 ∨ i.op = 19 then (jumpsOf c i).2 else []).foldl putI [] = L0 at hL0 hL1
 refine CutW_by (fun x τ' => x 1 = .int .i64 k ∧ x 2 = pvCode c ∧ x 5 = pvInst i ∧ x 6 = growV (((nextL c i).foldl putI []).map pvI) ∧ τ' = τ) (fun x τ' hx => ?_) ?_
 case refine_2 =>
  obtain ⟨lk, hlk⟩ := growV_list (L0.map pvI)
  have put1 : ∀ {K X : PV → St → Prop}, (i.op = 9 ∨ i.op = 10 ∨ (i.op = 18 ∧ i.s.b = 0)) → K (growV (((nextL c i).foldl putI []).map pvI)) τ → callB W 140 [growV (L0.map pvI), .int .i64 i.k] τ K X := fun ho hk => by
   rw [hlk]
   rw [hL1, if_pos ho] at hk
   exact (c140 (by omega) i.k τ).callB hk
  have put0 : ¬ (i.op = 9 ∨ i.op = 10 ∨ (i.op = 18 ∧ i.s.b = 0)) → growV (L0.map pvI) = growV (((nextL c i).foldl putI []).map pvI) := fun ho => by rw [hL1, if_neg ho]
  repeat' first
   | contradiction
   | refine condL (fun hl => ?_) (fun hl => ?_)
  all_goals first
   | exact put1 (by omega) ⟨rfl, rfl, rfl, rfl, rfl⟩
   | exact ⟨rfl, rfl, rfl, put0 (by omega), rfl⟩
 obtain ⟨q1, q2, q5, q6, rfl⟩ := hx
 simp only [q1, q2, q5, q6, code_parts, inst_parts3, zz, Nat.reduceEqDiff]
 have hne : ∀ n : Int, vBin none .neq (.int .i64 i.op) (.int .i64 n) = some (.bool (i.op != n)) := fun _ => rfl
 refine andG (i.op != 11) (fun _ J hJ => hJ _ rfl) ?_
 refine andG (i.op != 12) (fun _ J hJ => hJ _ rfl) ?_
 refine andG (i.op != 17) (fun _ J hJ => hJ _ rfl) ?_
 refine andG (i.op != 20) (fun _ J hJ => hJ _ rfl) ?_
 refine andG (i.op != 18) (fun _ J hJ => hJ _ rfl) ?_
 have hbe : ((((((i.op != 9) && (i.op != 11)) && (i.op != 12)) && (i.op != 17)) && (i.op != 20)) && (i.op != 18)) = behindB i := by
  unfold behindB
  rw [Bool.eq_iff_iff]
  simp only [Bool.and_eq_true, bne_iff_ne, ne_eq, Bool.not_eq_true', decide_eq_false_iff_not]
  omega
 rw [hbe]
 have hadd : vBin none .add (.int .i64 k) (.int .i64 1) = some (.int .i64 ((k : Int) + 1)) := vBin_add _ (by omega) (by omega)
 refine CutW_by (fun x τ'' => x 6 = growV ((nextS c k).map pvI) ∧ τ'' = τ') (fun x τ'' hx => ?_) ?_
 ·obtain ⟨q6, rfl⟩ := hx
  rw [q6]
  exact fin _ rfl
 refine andG (decide ((k : Int) + 1 < (rAt c r).to)) (fun _ J hJ => ?_) ?_
 ·simp only [code_parts, hadd, zz, Nat.reduceEqDiff]
  refine (c141 hc k _).callB ?_
  rw [hri]
  refine (c135 (by unfold len; omega) _ _).callB ?_
  have hin : (decide ((r : Int) ≥ 0) && inRout c r ((k : Int) + 1)) = decide ((k : Int) + 1 < (rAt c r).to) := by
   unfold inRout
   rw [decide_eq_true (show (r : Int) ≥ 0 by omega), decide_eq_true (show (rAt c r).fr ≤ (k : Int) + 1 by omega)]
   rfl
  rw [hin]
  exact hJ _ rfl
 refine condB (fun hb => ?_) (fun hb => ?_)
 ·rw [hb, if_pos rfl] at hN
  simp only [hadd, zz, Nat.reduceEqDiff]
  obtain ⟨lk, hlk⟩ := growV_list (((nextL c i).foldl putI []).map pvI)
  rw [hlk]
  refine (c140 hNl _ _).callB ?_
  simp only [zz, Nat.reduceEqDiff]
  rw [hN]
  exact ⟨rfl, trivial⟩
 ·rw [hb, if_neg (by simp)] at hN
  rw [hN]
  exact ⟨rfl, rfl⟩
theorem c27 {c : CodeS} (hc : Okay c) (hn : Nums c) (pc : Int) (σ : St) {R : Res → St → Prop}
  (hR : ∀ (lk : LK) (e : Int), (e = if (checkS c 470 49).2 ≠ 0 then 2 else if inS pc (len c.insts) then 0 else 11) → R (.ret (.tuple [.list lk ((if e = 0 then nextS c pc else []).map pvI), .int .i64 e])) σ) : W 27 [pvCode c, .int .i64 pc] σ R := by
 refine callW_fold ?_
 rw [fn27_eq]
 unfold fn27
 simp only [code_parts, zz, Nat.reduceEqDiff]
 refine (c25 hc hn _).callB ?_
 simp only [sig_fld, flt_ne, zz, Nat.reduceEqDiff]
 refine condB (fun hb => ?_) (fun hb => ?_)
 ·have hne : (checkS c 470 49).2 ≠ 0 := by simpa using hb
  have := hR .nil 2 (by rw [if_pos hne])
  exact weakW_keep this
 have hz : (checkS c 470 49).2 = 0 := by simpa using hb
 have hright := right_of hz
 rw [if_neg (by simpa using hz)] at hR
 simp only [sl_len, zz, Nat.reduceEqDiff]
 refine (c75 _ _ _).callB ?_
 simp only [zz, Nat.reduceEqDiff]
 refine condB (fun hb2 => ?_) (fun hb2 => ?_)
 ·have hin : inS pc (len c.insts) = false := by simpa using hb2
  have := hR .nil 11 (by rw [hin, if_neg (by simp)])
  exact weakW_keep this
 have hin : inS pc (len c.insts) = true := by simpa using hb2
 have hR0 := fun lk => hR lk 0 (by rw [hin, if_pos rfl])
 simp only [inS, Bool.and_eq_true, decide_eq_true_eq] at hin
 obtain ⟨k, rfl⟩ := Int.eq_ofNat_of_zero_le hin.1
 have hkl : k < c.insts.2.length := by unfold len at hin; omega
 refine (c76 hc hright hkl _).callB ?_
 obtain ⟨lk, hlk⟩ := growV_list ((nextS c k).map pvI)
 rw [hlk]
 have := hR0 lk
 simp only [if_true] at this
 exact weakW_keep this
theorem c28 {k m : LK} {l : List Int} (hl : l.length ≤ 4194304) (σ : St) : Ret W 28 [.list k (l.map pvI), .list m (l.map pvI)] σ (.bool true) := by
 refine ret_of fun R hR => ?_
 rw [fn28_eq]
 unfold fn28
 have hne : ∀ n : Int, vBin none .neq (.int .i64 n) (.int .i64 n) = some (.bool false) := fun n => by simp [vBin, vArith]
 simp only [List.length_map, hne, zz, Nat.reduceEqDiff]
 refine CutW_by (fun x τ => τ = σ) (fun x τ hx => ?_) ?_
 ·subst hx
  exact weakW_keep hR
 refine Lfp_up l.length (fun j x τ => x = lookP [(0, .list k (l.map pvI)), (1, .list m (l.map pvI)), (5, .int .i64 j)] ∧ τ = σ) ?_ ⟨rfl, rfl⟩
 rintro Φ j x τ hj ⟨rfl, rfl⟩ next
 by_cases hlt : j < l.length
 ·have hg : l[j]? = some l[j] := by simp [hlt]
  generalize l[j] = y at hg
  simp only [List.length_map, hlt, lt_len' hlt, decide_true, i_idx hg, i_ld, hne, zz, Nat.reduceEqDiff]
  rw [vBin_add _ (by omega) (by omega)]
  simp only [zz, Nat.reduceEqDiff]
  exact next _ _ hlt ⟨rfl, rfl⟩
 ·obtain rfl : j = l.length := by omega
  simp only [List.length_map, not_lt_len', Nat.lt_irrefl, decide_false, zz, Nat.reduceEqDiff]
theorem nextS_len {c : CodeS} (hc : Okay c) (pc : Int) : (nextS c pc).length ≤ 4194304 := by
 unfold nextS
 refine Nat.le_trans (puts_len _ []) ?_
 have hjl : (jumpsOf c (iAt c pc)).2.length ≤ 1048576 := by
  unfold jumpsOf atI
  rw [List.getD_eq_getElem?_getD]
  cases hq : c.jumps.2[(iAt c pc).k.toNat]? with
  | none => simp
  | some m => exact hc.jump m (List.mem_of_getElem? hq)
 have h1 : (nextL c (iAt c pc)).length ≤ 1048576 := by
  unfold nextL
  split
  ·simp
  ·split
   ·exact hjl
   ·split <;> simp
 rw [List.length_append]
 split <;> simp <;> omega
theorem c7 {c : CodeS} (hc : Okay c) (hn : Nums c) {pc : Int} (hpc : InI pc) : Ret W 7 [pvCode c, .int .i64 pc] [] (.bool true) := by
 refine ret_of fun R hR => ?_
 rw [fn7_eq]
 unfold fn7
 simp only [code_parts, zz, Nat.reduceEqDiff]
 refine c12.callB ?_
 simp only [zz, Nat.reduceEqDiff]
 refine (c23 hc _).callB fun b => ?_
 cases b with
 | false =>
  simp only [zz, Nat.reduceEqDiff]
  refine c12.callB ?_
  exact weakW_keep hR
 | true =>
  simp only [zz, Nat.reduceEqDiff]
  refine c26 hc hn pc hpc _ fun lk e he => ?_
  simp only [zz, Nat.reduceEqDiff]
  refine c27 hc hn pc _ fun lk' e' he' => ?_
  obtain rfl : e' = e := he'.trans he.symm
  have heq : vBin none .eql (.int .i64 e') (.int .i64 e') = some (.bool true) := by simp [vBin, vArith]
  simp only [heq, zz, Nat.reduceEqDiff]
  refine (c28 (l := if e' = 0 then nextS c pc else []) (by split; exact nextS_len hc pc; simp) _).callB ?_
  exact weakW_keep hR
end Go.Proofs.YtgghfcchanilpaaGreatDoor
