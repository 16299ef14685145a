/- The leaves of a tree; the law HyperLeaves. -/
import Derived.Test.YtiniifbmeobmgaaGreatDoorLvA
import Derived.Test.YtiniifbmeobmgaaGreatDoorTrB
import Derived.Test.YtiniifbmeobmgaaGreatDoorTrF
import Derived.Test.YtiniifbmeobmgaaGreatDoorFnP
set_option linter.unusedVariables false
set_option linter.unusedSimpArgs false
namespace Go.Proofs.YtiniifbmeobmgaaGreatDoor
open Go Go.Abs

mutual
def leavesT : PTree → List Str
  | .node r nm _ _ ks => if r = -1 then [nm] else leavesTs ks
def leavesTs : List PTree → List Str
  | [] => []
  | t :: ts => leavesT t ++ leavesTs ts
end

theorem leavesTs_len : ∀ ks : List PTree, (∀ t ∈ ks, (leavesT t).length ≤ sizeT t) → (leavesTs ks).length ≤ sizeTs ks
  | [], _ => by simp [leavesTs]
  | t :: ks, h => by
    have h1 := leavesTs_len ks fun t ht => h t (by simp [ht])
    have h2 := h t (by simp)
    simp only [leavesTs, sizeTs, List.length_append]
    omega

theorem leavesT_len : ∀ t, (leavesT t).length ≤ sizeT t := PTree.ind fun r nm b k ks ih => by
  simp only [leavesT, sizeT]
  split
  · simp
  · have := leavesTs_len ks ih
    omega

theorem leavesTs_app : ∀ a b : List PTree, leavesTs (a ++ b) = leavesTs a ++ leavesTs b
  | [], b => by simp [leavesTs]
  | t :: a, b => by simp [leavesTs, leavesTs_app a b]

theorem leavesTs_take {ks : List PTree} {i : Nat} {t : PTree} (h : ks[i]? = some t) : leavesTs (ks.take (i + 1)) = leavesTs (ks.take i) ++ leavesT t := by
  rw [List.take_add_one, h, leavesTs_app]
  simp [leavesTs]

theorem c47 : ∀ t : PTree, sizeT t ≤ 1048576 → ∀ σ : St, ∃ k, Ret W 47 [pvT t] σ (.list k ((leavesT t).map .str)) := PTree.ind fun r nm b k ks ih hs σ => by
  have hlen := len_size ks
  simp only [sizeT] at hs
  have hv : pvT (.node r nm b k ks) = .agg [.int .i64 r, .str nm, pvSl pvBind b, .list k (ks.map pvT)] := by simp [pvT, pvTs_map]
  have hp0 : ∀ a b c d : PV, vPart false 1 (.agg [a, b, c, d]) 0 = some a := fun _ _ _ _ => rfl
  have hp1 : ∀ a b c d : PV, vPart false 1 (.agg [a, b, c, d]) 1 = some b := fun _ _ _ _ => rfl
  have hp3 : ∀ a b c d : PV, vPart false 1 (.agg [a, b, c, d]) 3 = some d := fun _ _ _ _ => rfl
  by_cases hr : r = -1
  · subst hr
    refine ⟨.full, ret_of fun R hR => ?_⟩
    rw [fn47_eq]
    unfold fn47
    simp only [leavesT, if_true, List.map_cons, List.map_nil] at hR
    have h1 : ((-1 : Int) == -1) = true := rfl
    simp only [boxT, zz, Nat.reduceEqDiff]
    rw [hv]
    simp only [hp0, hp1, h1, vBuildSl_one (sizedStr nm), zz, Nat.reduceEqDiff]
    exact weakW_keep hR
  · have hl : leavesT (.node r nm b k ks) = leavesTs ks := by simp [leavesT, hr]
    rw [hl]
    obtain ⟨kk, hkk⟩ := growV_list ((leavesTs ks).map PV.str)
    refine ⟨kk, ret_of fun R hR => ?_⟩
    rw [fn47_eq]
    unfold fn47
    have h1 : (r == -1) = false := by simpa using hr
    simp only [boxT, zz, Nat.reduceEqDiff]
    rw [hv]
    simp only [hp0, h1, zz, Nat.reduceEqDiff]
    refine CutW_of ?_
    simp only [hp3, List.length_map, zz, Nat.reduceEqDiff]
    refine Lfp_up ks.length (fun i x σ' => ∃ u, x = lookP [(3, u), (13, .list k (ks.map pvT)), (14, .int .i64 ks.length), (15, .int .i64 i)] ∧ Grow σ.length 1 σ' u ((leavesTs (ks.take i)).map .str) ∧ σ <+: σ') ?_ ⟨_, rfl, .nil _ _ _, List.prefix_rfl⟩
    rintro Φ i x σ' hi ⟨u, rfl, hG, hp⟩ next
    simp only [zz, Nat.reduceEqDiff]
    by_cases hlt : i < ks.length
    · have hgi : ks[i]? = some ks[i] := by simp [hlt]
      have hmem : ks[i] ∈ ks := by simp
      generalize ks[i] = t at hgi hmem
      have hst := sizeT_mem hmem
      have htk := leavesTs_take hgi
      have hl1 := leavesTs_len (ks.take i) fun t _ => leavesT_len t
      have hl2 := sizeTs_le ks i
      have hl3 := leavesT_len t
      obtain ⟨k2, hc⟩ := ih t hmem (by omega) σ'
      simp only [hlt, encT.index hgi, encT.part, putT, zz, Nat.reduceEqDiff]
      refine hc.callB ?_
      obtain ⟨u', σ'', e1, e2, e3, _⟩ := hG.app (by_ := 16) (y := .list k2 ((leavesT t).map .str)) hp rfl (fun z hz => by obtain ⟨s, _, rfl⟩ := List.mem_map.1 hz; exact sizedStr s) (by simp; omega)
      simp only [e1, zz, Nat.reduceEqDiff]
      rw [vBin_add _ (by omega) (by omega)]
      exact next _ _ hlt ⟨u', by simp, by rw [htk, List.map_append]; exact e2, e3⟩
    · obtain rfl : i = ks.length := by omega
      rw [List.take_length] at hG
      simp only [hlt, zz, Nat.reduceEqDiff]
      refine weakW_clean hp (hG.frz fun y hy => ?_) ?_
      · obtain ⟨s, _, rfl⟩ := List.mem_map.1 hy
        exact .base _ (.str s)
      · rw [hkk]
        exact hR

/-! ### What Verify's text is -/

theorem verTs_leaves {g : Gram} : ∀ (ks : List PTree) (ss acc : List Str), (∀ t ∈ ks, ∀ s acc, (verT g t s acc).1 = 0 → (verT g t s acc).2 = acc ++ leavesT t) → ks.length = ss.length → (verTs g ks ss acc).1 = 0 → (verTs g ks ss acc).2 = acc ++ leavesTs ks
  | [], ss, acc, _, _, _ => by simp [verTs, leavesTs]
  | t :: ts, [], acc, _, hl, _ => by simp at hl
  | t :: ts, s :: ss, acc, h, hl, h0 => by
    simp only [verTs] at h0 ⊢
    by_cases he : (verT g t s acc).1 ≠ 0
    · rw [if_pos he] at h0
      exact absurd h0 he
    · rw [if_neg he] at h0 ⊢
      rw [verTs_leaves ts ss _ (fun t ht => h t (by simp [ht])) (by simpa using hl) h0, h t (by simp) s acc (Decidable.not_not.1 he)]
      simp [leavesTs]

theorem verT_leaves {g : Gram} : ∀ (t : PTree) (s : Str) (acc : List Str), (verT g t s acc).1 = 0 → (verT g t s acc).2 = acc ++ leavesT t := PTree.ind fun r nm b k ks ih s acc h => by
  simp only [verT] at h ⊢
  by_cases h1 : (nm == s) = false
  · rw [if_pos h1] at h; cases h
  rw [if_neg h1] at h ⊢
  have hns : nm = s := by simpa using h1
  by_cases h2 : (symB s || r == -1) = true
  · rw [if_pos h2] at h ⊢
    by_cases h3 : (!symB s || (r != -1 || (decide (0 < b.2.length) || decide (0 < ks.length)))) = true
    · rw [if_pos h3] at h; cases h
    · rw [if_neg h3]
      have hr : r = -1 := by
        by_cases hr : r = -1
        · exact hr
        · exact absurd (by simp [hr]) h3
      simp [leavesT, hr, hns]
  · rw [if_neg h2] at h ⊢
    have hr : ¬ r = -1 := fun hr => h2 (by simp [hr])
    by_cases h3 : r < 0
    · rw [if_pos h3] at h; cases h
    rw [if_neg h3] at h ⊢
    have hl : leavesT (.node r nm b k ks) = leavesTs ks := by simp [leavesT, hr]
    rw [hl]
    cases hgr : g.2.2[r.toNat]? with
    | none => rw [hgr] at h; cases h
    | some rl =>
      rw [hgr] at h
      simp only at h ⊢
      by_cases h4 : bindErr g rl b.2 ≠ 0
      · rw [if_pos h4] at h; exact absurd h h4
      rw [if_neg h4] at h ⊢
      by_cases h5 : ((means rl.1.2 b.2).1 == s) = false
      · rw [if_pos h5] at h; cases h
      rw [if_neg h5] at h ⊢
      by_cases h6 : ks.length ≠ rl.2.2.length
      · rw [if_pos h6] at h; cases h
      rw [if_neg h6] at h ⊢
      exact verTs_leaves ks _ _ ih (by simpa using Decidable.not_not.1 h6) h

theorem verG_ok {g : Gram} {n : Str} {t : PTree} (h : (verG g n t).2 = 0) : checkG g = 0 ∧ ¬ 100000 < sizeT t ∧ (verT g t n []).1 = 0 ∧ (verG g n t).1 = (verT g t n []).2 := by
  unfold verG at h ⊢
  by_cases h1 : checkG g ≠ 0
  · rw [if_pos h1] at h; exact absurd h h1
  rw [if_neg h1] at h ⊢
  by_cases h2 : 100000 < sizeT t
  · rw [if_pos h2] at h; cases h
  rw [if_neg h2] at h ⊢
  by_cases h3 : wordsOk n = false
  · rw [if_pos h3] at h; cases h
  rw [if_neg h3] at h ⊢
  by_cases h4 : (verT g t n []).1 ≠ 0
  · rw [if_pos h4] at h; exact absurd h h4
  rw [if_neg h4]
  exact ⟨Decidable.not_not.1 h1, h2, Decidable.not_not.1 h4, rfl⟩

theorem verG_leaves {g : Gram} {n : Str} {t : PTree} (h : (verG g n t).2 = 0) : (verG g n t).1 = leavesT t := by
  obtain ⟨_, _, h3, h4⟩ := verG_ok h
  rw [h4, verT_leaves t n [] h3, List.nil_append]

theorem verG_other {g : Gram} {n o : Str} {t : PTree} (h : (verG g n t).2 = 0) (ho : o ≠ n) : (verG g o t).2 = 14 := by
  obtain ⟨h1, h2, h3, _⟩ := verG_ok h
  have hT : verT g t o [] = (14, []) := by
    obtain ⟨r, nm, b, k, ks⟩ := t
    simp only [verT] at h3 ⊢
    by_cases hn : (nm == n) = false
    · rw [if_pos hn] at h3; cases h3
    · have hnn : nm = n := by simpa using hn
      have : (nm == o) = false := by
        rw [beq_eq_false_iff_ne, hnn]
        exact Ne.symm ho
      rw [if_pos this]
  unfold verG
  rw [if_neg (by simp [h1]), if_neg h2, hT]
  split
  · rfl
  · rfl

/-! ### Bindings, frozen -/

theorem Lfp_weak {n : St} {F : ((Nat → PV) → St → Prop) → (Nat → PV) → St → Prop} {x x' : Nat → PV} {σ σ' : St} (hw : WeakX n x σ x' σ') (h : Lfp n F x' σ') : Lfp n F x σ := fun Φ h1 h2 => h2 x σ x' σ' hw (h Φ h1 h2)

theorem kill_all (σ : St) : Kill [] (fun _ => True) σ [] := ⟨fun _ _ => Nat.zero_le _, Nat.zero_le _, fun _ _ _ => trivial, fun b k' h => by simp at h⟩

theorem bat_frz {σ : St} {e : PV} {B : Binds} (h : BAt σ e B) : ∃ k, FrzD σ (fun _ => True) e (.list k (B.map pvBind)) := by
  have hfl : ∀ y ∈ B.map pvBind, Flat y := fun y hy => by
    obtain ⟨q, _, rfl⟩ := List.mem_map.1 hy
    exact flatBind q
  rcases h with ⟨k, rfl⟩ | ⟨b, g, rfl, hb⟩
  · exact ⟨k, (Flat.list k _ hfl).frz _ _⟩
  · refine ⟨.part, .sref b g 2 0 _ g 2 _ _ hb rfl trivial (by simp) (by simp) fun i x y hi hx hy => ?_⟩
    rw [Nat.zero_add, hy] at hx
    cases hx
    exact (hfl _ (List.mem_of_getElem? hy)).frz _ _

theorem bats_frz {σ : St} : ∀ {es : List PV} {out : List Binds}, es.length = out.length → (∀ (i : Nat) e B, es[i]? = some e → out[i]? = some B → BAt σ e B) →
    ∃ es' : List PV, es'.length = es.length ∧ (∀ (i : Nat) (x y : PV), es[i]? = some x → es'[i]? = some y → FrzD σ (fun _ => True) x y) ∧ ∀ (i : Nat) B, out[i]? = some B → ∃ k, es'[i]? = some (.list k (B.map pvBind))
  | [], [], _, _ => ⟨[], rfl, fun i x y h => by simp at h, fun i B h => by simp at h⟩
  | e :: es, B :: out, hl, h => by
    obtain ⟨es', h1, h2, h3⟩ := bats_frz (σ := σ) (es := es) (out := out) (by simpa using hl) fun i e B he hB => h (i + 1) e B (by simpa using he) (by simpa using hB)
    obtain ⟨k, hk⟩ := bat_frz (h 0 e B rfl rfl)
    refine ⟨.list k (B.map pvBind) :: es', by simp [h1], fun i x y hx hy => ?_, fun i B' hB' => ?_⟩
    · cases i with
      | zero => simp at hx hy; subst hx hy; exact hk
      | succ i => exact h2 i x y (by simpa using hx) (by simpa using hy)
    · cases i with
      | zero => simp at hB'; subst hB'; exact ⟨k, rfl⟩
      | succ i => simpa using h3 i B' (by simpa using hB')
  | [], _ :: _, hl, _ => by simp at hl
  | _ :: _, [], hl, _ => by simp at hl

theorem out_frz {n0 : Nat} {σ : St} {ov : PV} {out : List Binds} {es : List PV} (h : OutAt n0 σ ov out es) :
    ∃ k es', FrzD σ (fun _ => True) ov (.list k es') ∧ es'.length = out.length ∧ ∀ (i : Nat) B, out[i]? = some B → ∃ k, es'[i]? = some (.list k (B.map pvBind)) := by
  obtain ⟨es', h1, h2, h3⟩ := bats_frz h.len h.mem
  rcases h.grow with ⟨rfl, rfl⟩ | ⟨b, g, hb0, rfl, hb, hne⟩
  · have : es' = [] := List.length_eq_zero_iff.1 (by simpa using h1)
    subst this
    exact ⟨.nil, [], .list _ _ _ rfl (by simp), by simpa using h.len, h3⟩
  · exact ⟨.part, es', .sref b g 1 0 _ g 1 _ _ hb rfl trivial h1 (by simp) (fun i x y hi hx hy => by
      rw [Nat.zero_add] at hx
      exact h2 i x y hx hy), by rw [h1, h.len], h3⟩

theorem flatGram (g : Gram) : Flat (pvGram g) := .agg _ fun x h => by
  simp only [List.mem_cons, List.not_mem_nil, or_false] at h
  rcases h with rfl | rfl
  · exact flatSl flatMeta _
  · exact flatSl flatRule _

set_option maxHeartbeats 1000000 in
theorem c12 (hawake : ∀ σ : St, σ = [] → Ret W 13 [] σ (.bool true)) {g : Gram} (hg : OkGram g) {n : Str} (hn : n.length ≤ 1048576) {t : PTree} (hs : sizeT t ≤ 1048576) (hok : okT t) {o : Str} (ho : o.length ≤ 1048576) : Ret W 12 [pvGram g, pvGiven (n, t), .str o] [] (.bool true) := by
  refine ret_of fun R hR => ?_
  rw [fn12_eq]
  unfold fn12
  have hbox : opC.vBoxAny (pvGram g) = some (2, pvGram g) := rfl
  have hboxG : opC.vBoxAny (pvGiven (n, t)) = some (5, pvGiven (n, t)) := by cases t; rfl
  have hpt : vPart true 2 (pvGram g) 0 = some (pvGram g) := rfl
  have hpg1 : vPart false 1 (pvGram g) 1 = some (.list g.2.1 (g.2.2.map pvRule)) := rfl
  have hpT : vPart true 4 (pvGiven (n, t)) 1 = some (pvT t) := by cases t; rfl
  have hpN : vPart false 1 (pvGiven (n, t)) 0 = some (.str n) := by cases t; rfl
  have fin : ∀ σ' : St, weakW [] (.bool true) σ' fun v σ => R (.ret v) σ := fun σ' => weakW_clean List.nil_prefix (.base _ (.bool _)) hR
  have hrl := hg.rl
  simp only [hbox, hboxG, zz, Nat.reduceEqDiff]
  refine (hawake [] rfl).callB ?_
  simp only [hpt, zz, Nat.reduceEqDiff]
  refine (c14 hg []).callB ?_
  cases hsm : smallG g with
  | false =>
    simp only [zz, Nat.reduceEqDiff]
    exact fin _
  | true =>
  simp only [hpT, zz, Nat.reduceEqDiff]
  refine (c40 hs hok []).callB ?_
  cases hfew : ((cntT t 40 0).1 && decide ((cntT t 40 0).2 ≤ 60)) with
  | false =>
    simp only [zz, Nat.reduceEqDiff]
    exact fin _
  | true =>
  simp only [zz, Nat.reduceEqDiff]
  cases h24 : decide ((o.length : Int) > 24) with
  | true =>
    simp only [zz, Nat.reduceEqDiff]
    exact fin _
  | false =>
  rw [decide_eq_false_iff_not] at h24
  have hsr := smallR_of hsm
  simp only [zz, Nat.reduceEqDiff]
  refine CutW_by (fun x σ' => x = lookP [(2, .str o), (3, pvGram g)]) ?_ ?_
  · -- the rules
    rintro x σ' rfl
    refine CutW_of ?_
    simp only [hpg1, List.length_map, zz, Nat.reduceEqDiff]
    refine Lfp_up g.2.2.length (fun i x _ => x = lookP [(2, .str o), (69, .list g.2.1 (g.2.2.map pvRule)), (70, .int .i64 g.2.2.length), (71, .int .i64 i), (3, pvGram g)]) ?_ rfl
    rintro Φ i x σ1 hi rfl next
    simp only [zz, Nat.reduceEqDiff]
    by_cases hlt : i < g.2.2.length
    rotate_left
    · simp only [hlt, zz, Nat.reduceEqDiff]
      exact fin _
    have hgi : g.2.2[i]? = some g.2.2[i] := by simp [hlt]
    have hmr : g.2.2[i] ∈ g.2.2 := by simp
    generalize g.2.2[i] = r at hgi hmr
    obtain ⟨s1, _, _⟩ := hsr r hmr
    have hro := hg.rules r hmr
    have hput : vPut 2 (.agg [.list .nil [], .list .nil []]) 0 (pvRule r) = some (pvRule r) := rfl
    have hq0 : vPart false 1 (pvRule r) 0 = some (.list r.1.1 (r.1.2.map pvPart)) := rfl
    simp only [hlt, zz, Nat.reduceEqDiff]
    refine CutW_by (fun x σ' => x = lookP [(2, .str o), (69, .list g.2.1 (g.2.2.map pvRule)), (70, .int .i64 g.2.2.length), (71, .int .i64 i), (3, pvGram g)]) ?_ ?_
    · rintro x σ2 rfl
      simp only [zz, Nat.reduceEqDiff]
      rw [vBin_add _ (by omega) (by omega)]
      exact next _ _ hlt rfl
    simp only [encRule.index hgi, encRule.part, hput, hpt, hq0, zz, Nat.reduceEqDiff]
    refine c23 hg s1 hro.left.okS (by omega) (by decide) (by decide) fun σ2 ov es n0 hO hp2 => ?_
    simp only [zz, Nat.reduceEqDiff]
    by_cases he : (matG g r.1.2 o 50).2 = 0
    rotate_left
    · have : ((matG g r.1.2 o 50).2 != 0) = true := by simpa using he
      simp only [this, zz, Nat.reduceEqDiff]
    have he' : ((matG g r.1.2 o 50).2 != 0) = false := by simpa using he
    have hlv := hO.grow.elems.len σ2
    rw [hO.len] at hlv
    simp only [he', hlv, zz, Nat.reduceEqDiff]
    obtain ⟨kf, es', hf, hfl, hfm⟩ := out_frz hO
    have hml := matG_len (g := g) (l := r.1.2) (s := o) (most := 50) (by decide)
    refine Lfp_weak (x' := lookP [(2, .str o), (69, .list g.2.1 (g.2.2.map pvRule)), (70, .int .i64 g.2.2.length), (71, .int .i64 i), (85, .list kf es'), (86, .int .i64 (matG g r.1.2 o 50).1.length), (87, .int .i64 0), (3, pvGram g), (12, pvRule r)]) (σ' := []) ⟨_, kill_all σ2, lookP_frz ?_⟩ ?_
    · refine ⟨rfl, (Flat.str _).frz _ _, rfl, ?_, rfl, (Flat.int _ _).frz _ _, rfl, (Flat.int _ _).frz _ _, rfl, hf, rfl, (Flat.int _ _).frz _ _, rfl, (Flat.int _ _).frz _ _, rfl, (flatGram g).frz _ _, rfl, (flatRule r).frz _ _, trivial⟩
      exact (flatSl flatRule g.2).frz _ _
    refine Lfp_up (matG g r.1.2 o 50).1.length (fun j x _ => x = lookP [(2, .str o), (69, .list g.2.1 (g.2.2.map pvRule)), (70, .int .i64 g.2.2.length), (71, .int .i64 i), (85, .list kf es'), (86, .int .i64 (matG g r.1.2 o 50).1.length), (87, .int .i64 j), (3, pvGram g), (12, pvRule r)]) ?_ rfl
    rintro Φ2 j x σ3 hj rfl next2
    simp only [zz, Nat.reduceEqDiff]
    by_cases hjl : j < (matG g r.1.2 o 50).1.length
    · have hgj : (matG g r.1.2 o 50).1[j]? = some (matG g r.1.2 o 50).1[j] := by simp [hjl]
      have hmj : (matG g r.1.2 o 50).1[j] ∈ (matG g r.1.2 o 50).1 := by simp
      generalize (matG g r.1.2 o 50).1[j] = B at hgj hmj
      obtain ⟨kb, hkb⟩ := hfm j B hgj
      obtain ⟨m1, m2⟩ := matG_means he hmj
      have hBl := matG_mem hmj
      have hix : vIndex 1 (.list kf es') (.int .i64 j) = some (.eptr (.list kb (B.map pvBind)) 0) := vIndex_list _ hkb (show (PV.list kb (B.map pvBind)).cells? = some [.list kb (B.map pvBind)] from rfl) rfl
      simp only [hjl, hix, hq0, zz, Nat.reduceEqDiff]
      refine (c30 (by omega) (by omega) hro.left.txt (fun b hb => by have := m2 b hb; omega) σ3).callB ?_
      rw [m1]
      have h00 : ((0 : Int) != 0) = false := rfl
      simp only [BEq.rfl, h00, zz, Nat.reduceEqDiff]
      rw [vBin_add _ (by omega) (by omega)]
      exact next2 _ _ hjl (by simp)
    · obtain rfl : j = (matG g r.1.2 o 50).1.length := by omega
      simp only [hjl, zz, Nat.reduceEqDiff]
  · -- the tree
    simp only [hpt, hpN, hpT, zz, Nat.reduceEqDiff]
    refine (c41 hg hsr hs hok (by omega) []).callB ?_
    simp only [zz, Nat.reduceEqDiff]
    by_cases he : (verG g n t).2 = 0
    rotate_left
    · have : ((verG g n t).2 == 0) = false := by simpa using he
      simp only [this, zz, Nat.reduceEqDiff]
    have he' : ((verG g n t).2 == 0) = true := by simpa using he
    have hlv := verG_leaves he
    have hll := leavesT_len t
    obtain ⟨k, hk⟩ := growV_list ((verG g n t).1.map PV.str)
    obtain ⟨k2, hc47⟩ := c47 t hs []
    simp only [he', hpT, zz, Nat.reduceEqDiff]
    refine hc47.callB ?_
    rw [hk, hlv]
    refine (c44 (l := leavesT t) (by omega) (.list _ _) (.list _ _)).callB ?_
    simp only [hpt, hpT, zz, Nat.reduceEqDiff]
    refine (c41 hg hsr hs hok (by omega) []).callB ?_
    simp only [hpN, zz, Nat.reduceEqDiff]
    cases hon : (o == n) with
    | true =>
      simp only [zz, Nat.reduceEqDiff]
    | false =>
      have hne : o ≠ n := by simpa using hon
      have h14 : ((14 : Int) != 14) = false := rfl
      rw [verG_other he hne]
      simp only [h14, zz, Nat.reduceEqDiff]

end Go.Proofs.YtiniifbmeobmgaaGreatDoor
