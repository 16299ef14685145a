/- The package's verify, Verify. -/
import Derived.Test.YtiniifbmeobmgaaGreatDoorTrC
set_option linter.unusedVariables false
set_option linter.unusedSimpArgs false
namespace Go.Proofs.YtiniifbmeobmgaaGreatDoor
open Go Go.Abs

theorem word_space {w : Str} (h : isWord w = true) : (32 : UInt8) ∉ w := by
  intro hm
  simp only [isWord, within, Bool.and_eq_true, inR, List.all_eq_true] at h
  have := h.1 32 hm
  simp at this

theorem split_joinF : ∀ {ws : List Str}, ws ≠ [] → (∀ w ∈ ws, isWord w = true) → splitB 32 (joinB [32] ws) = ws
  | [], h, _ => absurd rfl h
  | [w], _, h => by
    show splitB 32 w = [w]
    exact splitB_end 32 w (word_space (h w (by simp)))
  | w :: v :: r, _, h => by
    have ih := split_joinF (ws := v :: r) (by simp) fun x hx => h x (by simp [hx])
    have : joinB [32] (w :: v :: r) = w ++ 32 :: joinB [32] (v :: r) := by simp [joinB]
    rw [this, splitB_sep 32 w _ (word_space (h w (by simp))), ih]

theorem words_join {ws : List Str} (h : ∀ w ∈ ws, isWord w = true) : wordsOk (joinB [32] ws) = true := by
  unfold wordsOk wordsL
  split
  · rfl
  · rename_i hne
    cases ws with
    | nil => exact absurd rfl hne
    | cons w r =>
      rw [split_joinF (by simp) h, List.all_eq_true]
      exact h

theorem meansGo_facts {binds : List Bind} (hb : ∀ b ∈ binds, b.2.length ≤ 1048576) : ∀ (l : List Part) (acc ws : List Str), (∀ p ∈ l, badPart true p = false ∧ p.2.length ≤ 1048576) → (∀ w ∈ acc, isWord w = true) → meansGo binds l acc = .inl ws →
    (∀ w ∈ ws, isWord w = true) ∧ tot ws ≤ tot acc + l.length * 1048577
  | [], acc, ws, _, ha, h => by
    simp only [meansGo, Sum.inl.injEq] at h
    subst h
    exact ⟨ha, by simp⟩
  | p :: l, acc, ws, hl, ha, h => by
    obtain ⟨hp1, hp2⟩ := hl p (by simp)
    simp only [meansGo] at h
    split at h
    · split at h
      · cases h
      · rename_i v hv
        split at h
        · rename_i hok
          have hvl : v.length ≤ 1048576 := by
            unfold valueOf at hv
            rw [Option.map_eq_some_iff] at hv
            obtain ⟨b, hb1, rfl⟩ := hv
            exact hb b (List.mem_of_find?_eq_some hb1)
          have hwl := wordsL_tot v
          obtain ⟨h1, h2⟩ := meansGo_facts hb l (acc ++ wordsL v) ws (fun q hq => hl q (by simp [hq])) (fun w hw => by
            rcases List.mem_append.1 hw with hw | hw
            · exact ha w hw
            · exact List.all_eq_true.1 hok w hw) h
          refine ⟨h1, ?_⟩
          rw [tot_app] at h2
          simp only [List.length_cons]
          omega
        · cases h
    · rename_i hpm
      have hw : isWord p.2 = true := by
        have hpf : p.1 = false := by simpa using hpm
        simpa [badPart, hpf] using hp1
      obtain ⟨h1, h2⟩ := meansGo_facts hb l (acc ++ [p.2]) ws (fun q hq => hl q (by simp [hq])) (fun w hw' => by
        rcases List.mem_append.1 hw' with hw' | hw'
        · exact ha w hw'
        · simp at hw'; subst hw'; exact hw) h
      refine ⟨h1, ?_⟩
      rw [tot_app, tot_one] at h2
      simp only [List.length_cons]
      omega

theorem means_facts {l : List Part} {binds : List Bind} (hl : l.length ≤ 10) (hs : ∀ p ∈ l, p.2.length ≤ 1048576) (hb : ∀ b ∈ binds, b.2.length ≤ 1048576) : wordsOk (means l binds).1 = true ∧ (means l binds).1.length ≤ 10485770 := by
  unfold means
  cases hbad : l.any (badPart true) with
  | true => exact ⟨rfl, by simp⟩
  | false =>
    simp only [Bool.false_eq_true, if_false]
    cases hgo : meansGo binds l [] with
    | inr e => exact ⟨rfl, by simp [meansEnd]⟩
    | inl ws =>
      obtain ⟨h1, h2⟩ := meansGo_facts hb l [] ws (fun p hp => ⟨Bool.eq_false_iff.2 (List.any_eq_false.1 hbad p hp), hs p hp⟩) (by simp) hgo
      refine ⟨words_join h1, ?_⟩
      have h3 := joinB_len ws
      have h4 : tot ([] : List Str) = 0 := rfl
      have h5 : l.length * 1048577 ≤ 10 * 1048577 := Nat.mul_le_mul_right _ hl
      show (joinB [32] ws).length ≤ _
      omega

mutual
/-- What is wrong with a tree, the text so far. -/
noncomputable def verT (g : Gram) : PTree → Str → List Str → Int × List Str
  | .node r nm b _ ks, notion, acc =>
    if (nm == notion) = false then (14, acc)
    else if (symB notion || r == -1) = true then (if (!symB notion || (r != -1 || (decide (0 < b.2.length) || decide (0 < ks.length)))) = true then (13, acc) else (0, acc ++ [notion]))
    else if r < 0 then (11, acc)
    else match g.2.2[r.toNat]? with
      | none => (11, acc)
      | some rl => if bindErr g rl b.2 ≠ 0 then (bindErr g rl b.2, acc)
        else if ((means rl.1.2 b.2).1 == notion) = false then (2, acc)
        else if ks.length ≠ rl.2.2.length then (12, acc)
        else verTs g ks (rl.2.2.map fun l => (means l.2 b.2).1) acc
noncomputable def verTs (g : Gram) : List PTree → List Str → List Str → Int × List Str
  | [], _, acc => (0, acc)
  | t :: ts, ss, acc => match ss with
    | [] => (0, acc)
    | s :: ss => if (verT g t s acc).1 ≠ 0 then verT g t s acc else verTs g ts ss (verT g t s acc).2
end

theorem verTs_len {g : Gram} : ∀ (ks : List PTree) (ss acc : List Str), (∀ t ∈ ks, ∀ s acc, (verT g t s acc).2.length ≤ acc.length + sizeT t) → (verTs g ks ss acc).2.length ≤ acc.length + sizeTs ks
  | [], ss, acc, _ => by simp [verTs, sizeTs]
  | t :: ts, [], acc, _ => by simp [verTs]
  | t :: ts, s :: ss, acc, h => by
    have h1 := h t (by simp) s acc
    simp only [verTs, sizeTs]
    split
    · omega
    · have := verTs_len ts ss (verT g t s acc).2 fun t ht => h t (by simp [ht])
      omega

theorem verT_len {g : Gram} : ∀ (t : PTree) (s : Str) (acc : List Str), (verT g t s acc).2.length ≤ acc.length + sizeT t := PTree.ind fun r nm b k ks ih s acc => by
  simp only [verT, sizeT]
  split
  · simp only; omega
  · split
    · split
      · simp only; omega
      · simp
    · split
      · simp only; omega
      · split
        · simp only; omega
        · split
          · simp only; omega
          · split
            · simp only; omega
            · split
              · simp only; omega
              · rename_i rl _ _ _ _
                have := verTs_len (g := g) ks (rl.2.2.map fun l => (means l.2 b.2).1) acc ih
                omega

/-! The package's verify, Verify: the walk. -/

/-- The kernel's variable lies after σ0; the text so far. -/
def KSt (σ0 : St) (g : Gram) (acc : List Str) (σ : St) : Prop := ∃ tv, Ker σ σ0.length g tv ∧ Grow (σ0.length + 1) 1 σ tv (acc.map .str) ∧ σ0 <+: σ

/-- A value is a slice that lies in a block. -/
def AtR (v : PV) (c : Nat) : Prop := ∃ g q o l, v = .sref c g q o l

theorem atR_app {n0 sz by_ : Nat} {σ σ' : St} {x y x' : PV} {ys zs : List PV} (h : Grow n0 sz σ x ys) (hy : vElems y σ = some zs) (ha : vAppend sz by_ x y σ = some (x', σ')) {c : Nat} (hc : AtR x' c) : AtR x c ∨ σ.length ≤ c := by
  simp only [vAppend, hy] at ha
  rcases h with ⟨rfl, rfl⟩ | ⟨b, g, hb0, rfl, hb, hne⟩
  · right
    simp only at ha
    split at ha
    · cases ha
      obtain ⟨_, _, _, _, hc⟩ := hc
      cases hc
    · split at ha
      · cases ha
        obtain ⟨_, _, _, _, hc⟩ := hc
        cases hc
        exact Nat.le_refl _
      · cases ha
  · simp only [hb] at ha
    split at ha
    · cases ha
      exact .inl hc
    · split at ha
      · cases ha
        obtain ⟨_, _, _, _, hc⟩ := hc
        cases hc
        exact .inl ⟨_, _, _, _, rfl⟩
      · cases ha

/-- A row in a block of its own grows; one variable keeps it. -/
theorem row_app {σ0 σ : St} {v : PV} {xs : List PV} {sb by_ : Nat} {y : PV} {k0 : Blk} (hk0 : σ[σ0.length]? = some k0) (hG : Grow (σ0.length + 1) sb σ v xs) (hp : σ0 <+: σ) (hy : Sized sb y) (hr : (xs.length + 1) * by_ ≤ 140737488355328) (mk : PV → Blk) :
    ∃ v' σ', vAppend sb by_ v (.list .full [y]) σ = some (v', σ') ∧ σ'[σ0.length]? = some k0 ∧ v'.cells? = some [v'] ∧ (σ'.set σ0.length (mk v'))[σ0.length]? = some (mk v') ∧ Grow (σ0.length + 1) sb (σ'.set σ0.length (mk v')) v' (xs ++ [y]) ∧ σ0 <+: σ'.set σ0.length (mk v') ∧
      (∀ c, c < σ.length → c ≠ σ0.length → ¬ AtR v c → (σ'.set σ0.length (mk v'))[c]? = σ[c]?) ∧ ∀ c, AtR v' c → AtR v c ∨ σ.length ≤ c := by
  have hlt : σ0.length < σ.length := (List.getElem?_eq_some_iff.1 hk0).1
  have hτ : (σ.take (σ0.length + 1)).length = σ0.length + 1 := by rw [List.length_take]; omega
  rw [← hτ] at hG
  obtain ⟨v', σ', e1, e2, e3, e4⟩ := hG.app (by_ := by_) (y := .list .full [y]) (List.take_prefix _ _) rfl (by simpa using hy) (by simpa using hr)
  have hl2 := e3.length_le
  rw [hτ] at hl2
  have hK' : σ'[σ0.length]? = some k0 := by
    obtain ⟨t, rfl⟩ := e3
    rw [List.getElem?_append_left (by omega), List.getElem?_take, if_pos (by omega)]
    exact hk0
  have hc := grow_cell e2
  rw [hτ] at e2
  refine ⟨v', σ', e1, hK', hc, by simp [show σ0.length < σ'.length by omega], ?_, ?_, fun c hcl hcn hca => ?_, fun c hc => atR_app hG rfl e1 hc⟩
  · rcases e2 with h | ⟨b, g2, h1, h2, h3, h4⟩
    · exact .inl h
    · exact .inr ⟨b, g2, h1, h2, by rw [List.getElem?_set, if_neg (by omega)]; exact h3, h4⟩
  · refine pre_set ?_ (Nat.le_refl _) _
    exact ((List.prefix_take_iff).2 ⟨hp, by omega⟩).trans e3
  · rw [List.getElem?_set, if_neg (Ne.symm hcn)]
    exact e4 c (fun b g z o l hv hcb => hca ⟨g, z, o, l, hcb ▸ hv⟩) hcl

theorem KSt.app {σ0 : St} {g : Gram} {acc : List Str} {σ : St} (h : KSt σ0 g acc σ) (s : Str) (hr : (acc.length + 1) * 16 ≤ 140737488355328) :
    ∃ tv tv' σ' σ'', vLoad false 1 (.ptr σ0.length 0 0 2) σ = some tv ∧ vAppend 1 16 tv (.list .full [.str s]) σ = some (tv', σ') ∧ vStore 1 (.ptr σ0.length 0 0 2) tv' σ' = some σ'' ∧ KSt σ0 g (acc ++ [s]) σ'' := by
  obtain ⟨tv, hK, hG, hp⟩ := h
  obtain ⟨v', σ', e1, e2, e3, e4, e5, e6, _⟩ := row_app (y := .str s) hK hG hp (sizedStr s) (by simpa using hr) (by_ := 16) fun v => .arr 0 3 [.agg [pvSl pvMeta g.1, pvSl pvRule g.2, v]]
  refine ⟨tv, v', σ', _, hK.text, e1, ?_, v', e4, by simpa using e5, e6⟩
  simp only [vStore, e2]
  simp [vPut, e3, setRange]

theorem KSt.ker {σ0 : St} {g : Gram} {acc : List Str} {σ : St} (h : KSt σ0 g acc σ) : ∃ tv, Ker σ σ0.length g tv := ⟨h.choose, h.choose_spec.1⟩

/-- Rules are as small as the laws say. -/
def SmallR (g : Gram) : Prop := ∀ r ∈ g.2.2, r.1.2.length ≤ 8 ∧ r.2.2.length ≤ 6 ∧ ∀ l ∈ r.2.2, l.2.length ≤ 8

theorem smallR_of {g : Gram} (h : smallG g = true) : SmallR g := by
  simp only [smallG, many6, long8, Bool.and_eq_true, Bool.not_eq_true', List.any_eq_false, Bool.or_eq_true, decide_eq_true_eq, not_or] at h
  intro r hr
  obtain ⟨h1, h2, h3⟩ := h.2.2.2 r hr
  refine ⟨by omega, by omega, fun l hl => ?_⟩
  have : ¬ (r.2.2.any fun l => decide ((l.2.length : Int) > 8)) = true := h3
  rw [Bool.not_eq_true, List.any_eq_false] at this
  have := this l hl
  simp only [decide_eq_true_eq] at this
  omega

theorem sizeTs_drop {ks : List PTree} {i : Nat} {t : PTree} (h : ks[i]? = some t) : sizeTs (ks.drop i) = sizeT t + sizeTs (ks.drop (i + 1)) := by
  rw [List.drop_eq_getElem_cons (List.getElem?_eq_some_iff.1 h).1, (List.getElem?_eq_some_iff.1 h).2]
  rfl

theorem ge_len (r : Int) (n : Nat) (h : ¬ r < 0) : decide (r ≥ (n : Int)) = decide (n ≤ r.toNat) := by
  congr 1
  exact propext (by omega)

set_option maxHeartbeats 2000000 in
theorem c117 {g : Gram} (hg : OkGram g) (hsm : SmallR g) {σ0 : St} : ∀ t : PTree, sizeT t ≤ 1048576 → okT t → ∀ (notion : Str) (acc : List Str) (σ : St) (R : Res → St → Prop), notion.length ≤ 10485770 → acc.length + sizeT t ≤ 2097152 → KSt σ0 g acc σ →
    (∀ σ', KSt σ0 g (verT g t notion acc).2 σ' → R (.ret (.int .i64 (verT g t notion acc).1)) σ') → W 117 [.ptr σ0.length 0 0 0, .str notion, pvT t] σ R := PTree.ind fun r nm b k ks ih hs hok notion acc σ R hn hacc hK hR => by
  refine callW_fold ?_
  rw [fn117_eq]
  unfold fn117
  obtain ⟨bk, bs⟩ := b
  simp only [sizeT] at hs hacc
  simp only [okT] at hok
  obtain ⟨o1, o2, o3, o4⟩ := hok
  have hv : pvT (.node r nm (bk, bs) k ks) = .agg [.int .i64 r, .str nm, .list bk (bs.map pvBind), .list k (ks.map pvT)] := by simp [pvT, pvTs_map, pvSl]
  have hp0 : ∀ a b c d : PV, vPart false 1 (.agg [a, b, c, d]) 0 = some a := fun _ _ _ _ => rfl
  have hp1 : ∀ a b c d : PV, vPart false 1 (.agg [a, b, c, d]) 1 = some b := fun _ _ _ _ => rfl
  have hp2 : ∀ a b c d : PV, vPart false 1 (.agg [a, b, c, d]) 2 = some c := fun _ _ _ _ => rfl
  have hp3 : ∀ a b c d : PV, vPart false 1 (.agg [a, b, c, d]) 3 = some d := fun _ _ _ _ => rfl
  have hf0 : vField 0 (.ptr σ0.length 0 0 0) = some (.ptr σ0.length 0 0 0) := rfl
  have hf1 : vField 1 (.ptr σ0.length 0 0 0) = some (.ptr σ0.length 0 0 1) := rfl
  have hf2 : vField 2 (.ptr σ0.length 0 0 0) = some (.ptr σ0.length 0 0 2) := rfl
  have hln := len_size ks
  simp only [verT] at hR
  simp only [boxT, zz, Nat.reduceEqDiff]
  rw [hv]
  simp only [hp1, zz, Nat.reduceEqDiff]
  cases h1 : (nm == notion) with
  | false =>
    rw [h1] at hR
    have h1' : (nm != notion) = true := by simp only [bne, h1]; rfl
    simp only [h1', zz, Nat.reduceEqDiff]
    exact weakW_keep (hR _ hK)
  | true =>
  rw [h1] at hR
  have h1' : (nm != notion) = false := by simp only [bne, h1]; rfl
  simp only [Bool.true_eq_false, if_false] at hR
  simp only [h1', zz, Nat.reduceEqDiff]
  refine (c160 (by omega) σ).callB ?_
  by_cases hsy : (symB notion || r == -1) = true
  · -- a leaf, or what should be one
    rw [if_pos hsy] at hR
    have e1 : decide ((bs.length : Int) > 0) = decide (0 < bs.length) := by congr 1; exact propext (by omega)
    have e2 : decide ((ks.length : Int) > 0) = decide (0 < ks.length) := by congr 1; exact propext (by omega)
    have bad : (!symB notion || (r != -1 || (decide (0 < bs.length) || decide (0 < ks.length)))) = true → R (.ret (.int .i64 13)) σ := fun h => by
      rw [if_pos h] at hR
      exact hR _ hK
    cases hsn : symB notion with
    | false =>
      rw [hsn] at hsy
      have hr : (r == -1) = true := by simpa using hsy
      simp only [hp0, hr, zz, Nat.reduceEqDiff]
      refine (c160 (by omega) σ).callB ?_
      simp only [hsn, zz, Nat.reduceEqDiff]
      exact weakW_keep (bad (by rw [hsn]; rfl))
    | true =>
      simp only [zz, Nat.reduceEqDiff]
      refine (c160 (by omega) σ).callB ?_
      simp only [hsn, hp0, zz, Nat.reduceEqDiff]
      cases hr : (r != -1) with
      | true =>
        simp only [zz, Nat.reduceEqDiff]
        exact weakW_keep (bad (by rw [hr]; simp))
      | false =>
      simp only [hp2, List.length_map, e1, zz, Nat.reduceEqDiff]
      cases hb : decide (0 < bs.length) with
      | true =>
        simp only [zz, Nat.reduceEqDiff]
        exact weakW_keep (bad (by rw [hb]; simp))
      | false =>
      simp only [hp3, List.length_map, e2, zz, Nat.reduceEqDiff]
      cases hkk : decide (0 < ks.length) with
      | true =>
        simp only [zz, Nat.reduceEqDiff]
        exact weakW_keep (bad (by rw [hkk]; simp))
      | false =>
      have good : ¬ (!symB notion || (r != -1 || (decide (0 < bs.length) || decide (0 < ks.length)))) = true := by
        rw [hsn, hr, hb, hkk]; simp
      rw [if_neg good] at hR
      obtain ⟨tv, tv', σ', σ'', a1, a2, a3, a4⟩ := hK.app notion (by omega)
      simp only [nilP, hf2, a1, vBuildSl_one (sizedStr notion), a2, a3, zz, Nat.reduceEqDiff]
      exact weakW_keep (hR _ a4)
  rw [if_neg hsy] at hR
  have hsn : symB notion = false := by
    cases h : symB notion with
    | false => rfl
    | true => rw [h] at hsy; simp at hsy
  have hr : (r == -1) = false := by
    cases h : (r == -1) with
    | false => rfl
    | true => rw [h] at hsy; simp at hsy
  obtain ⟨tv, hKer⟩ := hK.ker
  have hrl := hg.rl
  simp only [hsn, hp0, hr, zz, Nat.reduceEqDiff]
  by_cases hneg : r < 0
  · rw [if_pos hneg] at hR
    have hd : decide (r < 0) = true := decide_eq_true hneg
    simp only [hd, zz, Nat.reduceEqDiff]
    exact weakW_keep (hR _ hK)
  rw [if_neg hneg] at hR
  have hd : decide (r < 0) = false := decide_eq_false hneg
  simp only [hd, nilP, hf0, hf1, hKer.rules, List.length_map, ge_len r _ hneg, zz, Nat.reduceEqDiff]
  cases hge : decide (g.2.2.length ≤ r.toNat) with
  | true =>
    rw [decide_eq_true_eq] at hge
    have hno : g.2.2[r.toNat]? = none := List.getElem?_eq_none hge
    rw [hno] at hR
    simp only [zz, Nat.reduceEqDiff]
    exact weakW_keep (hR _ hK)
  | false =>
  rw [decide_eq_false_iff_not, Nat.not_le] at hge
  have hgr : g.2.2[r.toNat]? = some g.2.2[r.toNat] := by simp [hge]
  have hmr : g.2.2[r.toNat] ∈ g.2.2 := by simp
  generalize g.2.2[r.toNat] = rl at hgr hmr
  rw [hgr] at hR
  simp only at hR
  obtain ⟨s1, s2, s3⟩ := hsm rl hmr
  have hrl' := hg.rules rl hmr
  have hri : (.int .i64 r : PV) = .int .i64 (r.toNat : Nat) := by congr 1; omega
  have hix : vIndex 2 (.list g.2.1 (g.2.2.map pvRule)) (.int .i64 r) = some (.eptr (pvRule rl) 0) := by rw [hri]; exact encRule.index hgr
  have hput : vPut 2 (.agg [.list .nil [], .list .nil []]) 0 (pvRule rl) = some (pvRule rl) := rfl
  have hq : vPart true 2 (pvRule rl) 0 = some (pvRule rl) := rfl
  have hq0 : vPart false 1 (pvRule rl) 0 = some (.list rl.1.1 (rl.1.2.map pvPart)) := rfl
  have hq1 : vPart false 1 (pvRule rl) 1 = some (.list rl.2.1 (rl.2.2.map pvParts)) := rfl
  simp only [hp0, hp2, nilP, hf0, hf1, hKer.rules, hix, encRule.part, hput, hq, zz, Nat.reduceEqDiff]
  refine (c161 hg hrl' (by omega) (by omega) (fun l hl => by have := s3 l hl; omega) o2 o3 hKer).callB ?_
  simp only [zz, Nat.reduceEqDiff]
  by_cases hbe : bindErr g rl bs ≠ 0
  · rw [if_pos hbe] at hR
    have : (bindErr g rl bs != 0) = true := by simpa using hbe
    simp only [this, zz, Nat.reduceEqDiff]
    exact weakW_keep (hR _ hK)
  rw [if_neg hbe] at hR
  have : (bindErr g rl bs != 0) = false := by simpa using hbe
  simp only [this, hq0, hp2, zz, Nat.reduceEqDiff]
  have hbs2 : ∀ x ∈ bs, x.2.length ≤ 1048576 := fun x hx => (o3 x hx).2
  refine (c30 (by omega) o2 hrl'.left.txt hbs2 σ).callB ?_
  simp only [zz, Nat.reduceEqDiff]
  cases hme : ((means rl.1.2 bs).1 == notion) with
  | false =>
    rw [hme] at hR
    have h' : ((means rl.1.2 bs).1 != notion) = true := by simp only [bne, hme]; rfl
    simp only [h', zz, Nat.reduceEqDiff]
    exact weakW_keep (hR _ hK)
  | true =>
  rw [hme] at hR
  have h' : ((means rl.1.2 bs).1 != notion) = false := by simp only [bne, hme]; rfl
  simp only [Bool.true_eq_false, if_false] at hR
  simp only [h', hp3, hq1, List.length_map, zz, Nat.reduceEqDiff]
  by_cases hkl : ks.length ≠ rl.2.2.length
  · rw [if_pos hkl] at hR
    have : ((ks.length : Int) != (rl.2.2.length : Int)) = true := by rw [bne_iff_ne]; omega
    simp only [this, zz, Nat.reduceEqDiff]
    exact weakW_keep (hR _ hK)
  rw [if_neg hkl] at hR
  have hkl : ks.length = rl.2.2.length := Decidable.not_not.1 hkl
  have : ((ks.length : Int) != (rl.2.2.length : Int)) = false := by rw [bne_eq_false_iff_eq]; omega
  simp only [this, hq1, List.length_map, zz, Nat.reduceEqDiff]
  refine Lfp_up rl.2.2.length (fun i x σ' => ∃ ac, x = lookP [(0, .ptr σ0.length 0 0 0), (107, .list rl.2.1 (rl.2.2.map pvParts)), (108, .int .i64 rl.2.2.length), (109, .int .i64 i), (5, .agg [.int .i64 r, .str nm, .list bk (bs.map pvBind), .list k (ks.map pvT)])] ∧ KSt σ0 g ac σ' ∧
    ac.length + sizeTs (ks.drop i) ≤ 2097152 ∧ verTs g ks (rl.2.2.map fun l => (means l.2 bs).1) acc = verTs g (ks.drop i) ((rl.2.2.drop i).map fun l => (means l.2 bs).1) ac) ?_ ⟨acc, rfl, hK, by simp; omega, by simp⟩
  rintro Φ i x σ' hi ⟨ac, rfl, hK', hacl, hve⟩ next
  simp only [zz, Nat.reduceEqDiff]
  by_cases hlt : i < rl.2.2.length
  · have hgi : rl.2.2[i]? = some rl.2.2[i] := by simp [hlt]
    have hmi : rl.2.2[i] ∈ rl.2.2 := by simp
    have hdr : rl.2.2.drop i = rl.2.2[i] :: rl.2.2.drop (i + 1) := List.drop_eq_getElem_cons hlt
    generalize rl.2.2[i] = l at hgi hmi hdr
    have hlk : i < ks.length := by omega
    have hgk : ks[i]? = some ks[i] := by simp [hlk]
    have hmk : ks[i] ∈ ks := by simp
    have hdk : ks.drop i = ks[i] :: ks.drop (i + 1) := List.drop_eq_getElem_cons hlk
    generalize ks[i] = t at hgk hmk hdk
    have hsd := sizeTs_drop hgk
    have hst := sizeT_mem hmk
    have hl8 := s3 l hmi
    have hlp := hrl'.right.mem l hmi
    have hmf := means_facts (l := l.2) (binds := bs) (by omega) hlp.txt hbs2
    have hpl : pvParts l = .list l.1 (l.2.map pvPart) := rfl
    rw [hdr, hdk, List.map_cons, verTs] at hve
    try simp only at hve
    simp only [hlt, encParts.index hgi, encParts.part, hpl, hp2, zz, Nat.reduceEqDiff]
    refine (c30 (by omega) o2 hlp.txt hbs2 σ').callB ?_
    simp only [hp3, encT.index hgk, encT.part, zz, Nat.reduceEqDiff]
    have hvl := verT_len (g := g) t (means l.2 bs).1 ac
    refine ih t hmk (by omega) (okTs_mem o4 t hmk) (means l.2 bs).1 ac σ' _ hmf.2 (by omega) hK' fun σ2 hK2 => ?_
    simp only [zz, Nat.reduceEqDiff]
    by_cases he : (verT g t (means l.2 bs).1 ac).1 ≠ 0
    · rw [if_pos he] at hve
      rw [hve] at hR
      have : ((verT g t (means l.2 bs).1 ac).1 != 0) = true := by simpa using he
      simp only [this, zz, Nat.reduceEqDiff]
      exact weakW_keep (hR _ hK2)
    · rw [if_neg he] at hve
      have : ((verT g t (means l.2 bs).1 ac).1 != 0) = false := by simpa using he
      simp only [this, zz, Nat.reduceEqDiff]
      rw [vBin_add _ (by omega) (by omega)]
      exact next _ _ hlt ⟨_, by simp, hK2, by omega, hve⟩
  · obtain rfl : i = rl.2.2.length := by omega
    rw [← hkl, List.drop_length] at hve
    simp only [verTs] at hve
    rw [hve] at hR
    simp only [hlt, zz, Nat.reduceEqDiff]
    exact weakW_keep (hR _ hK')

/-- What Verify answers. -/
noncomputable def verG (g : Gram) (notion : Str) (t : PTree) : List Str × Int :=
  if checkG g ≠ 0 then ([], checkG g)
  else if 100000 < sizeT t then ([], 3)
  else if wordsOk notion = false then ([], 14)
  else if (verT g t notion []).1 ≠ 0 then ([], (verT g t notion []).1) else ((verT g t notion []).2, 0)

theorem frz_txt {σ : St} {n : Nat} {v : PV} {l : List Str} {e : Int} (h : Grow n 1 σ v (l.map .str)) : Frz σ n (.tuple [v, .int .i64 e]) (.tuple [growV (l.map .str), .int .i64 e]) := by
  refine .tuple _ _ rfl fun i a c ha hc => ?_
  match i with
  | 0 =>
    simp at ha hc
    subst ha hc
    exact h.frz fun y hy => by
      obtain ⟨s, _, rfl⟩ := List.mem_map.1 hy
      exact .base _ (.str s)
  | 1 => simp at ha hc; subst ha hc; exact .base _ (.int _ _)
  | i + 2 => simp at ha

set_option maxHeartbeats 1000000 in
theorem c41 {g : Gram} (hg : OkGram g) (hsm : SmallR g) {t : PTree} (hs : sizeT t ≤ 1048576) (hok : okT t) {notion : Str} (hn : notion.length ≤ 10485770) (σ : St) :
    Ret W 41 [pvGram g, .str notion, pvT t] σ (.tuple [growV ((verG g notion t).1.map .str), .int .i64 (verG g notion t).2]) := by
  refine ret_of fun R hR => ?_
  rw [fn41_eq]
  unfold fn41
  have hbox : opC.vBoxAny (pvGram g) = some (2, pvGram g) := rfl
  have hpt : vPart true 2 (pvGram g) 0 = some (pvGram g) := rfl
  have hptT : vPart true 4 (pvT t) 0 = some (pvT t) := encT.part t
  have fin : ∀ (l : List Str) (e : Int) (v : PV) (σ' : St), σ <+: σ' → Grow σ.length 1 σ' v (l.map .str) → verG g notion t = (l, e) → weakW σ (.tuple [v, .int .i64 e]) σ' fun v σ => R (.ret v) σ := fun l e v σ' hp hG he =>
    weakW_clean hp (frz_txt hG) (by rw [he] at hR; exact hR)
  have fin0 : ∀ (e : Int) (σ' : St), σ <+: σ' → verG g notion t = ([], e) → weakW σ (.tuple [.list .nil [], .int .i64 e]) σ' fun v σ => R (.ret v) σ := fun e σ' hp he => fin [] e _ σ' hp (.nil _ _ _) he
  simp only [hbox, boxT, hpt, zz, Nat.reduceEqDiff]
  refine (c15 hg σ).callB ?_
  simp only [zz, Nat.reduceEqDiff]
  by_cases hck : checkG g ≠ 0
  · have : (checkG g != 0) = true := by simpa using hck
    simp only [this, zz, Nat.reduceEqDiff]
    exact fin0 _ _ List.prefix_rfl (by unfold verG; rw [if_pos hck])
  have hck' : (checkG g != 0) = false := by simpa using hck
  simp only [hck', hptT, zz, Nat.reduceEqDiff]
  refine (c45 t hs σ).callB ?_
  have e1 : decide ((sizeT t : Int) > 100000) = decide (100000 < sizeT t) := by congr 1; exact propext (by omega)
  simp only [e1, zz, Nat.reduceEqDiff]
  by_cases hsz : 100000 < sizeT t
  · have : decide (100000 < sizeT t) = true := decide_eq_true hsz
    simp only [this, zz, Nat.reduceEqDiff]
    exact fin0 _ _ List.prefix_rfl (by unfold verG; rw [if_neg hck, if_pos hsz])
  have hsz' : decide (100000 < sizeT t) = false := decide_eq_false hsz
  simp only [hsz', zz, Nat.reduceEqDiff]
  refine (c71 (by omega) σ).callB ?_
  simp only [zz, Nat.reduceEqDiff]
  cases hw : wordsOk notion with
  | false =>
    simp only [zz, Nat.reduceEqDiff]
    exact fin0 _ _ List.prefix_rfl (by unfold verG; rw [if_neg hck, if_neg hsz, if_pos hw])
  | true =>
  have hvb : vBuild [.list .nil [], .list .nil [], .list .nil []] [(0, 2, pvGram g)] = some [pvSl pvMeta g.1, pvSl pvRule g.2, .list .nil []] := rfl
  have hbx3 : ∀ a b c : PV, opC.vBoxAny (.agg [a, b, c]) = some (3, .agg [a, b, c]) := fun _ _ _ => rfl
  have h03 : (0 : Nat) < 3 := by decide
  have hf2 : ∀ b, vField 2 (.ptr b 0 0 0) = some (.ptr b 0 0 2) := fun _ => rfl
  have hK0 : KSt σ g [] (σ ++ [.arr 0 3 [.agg [pvSl pvMeta g.1, pvSl pvRule g.2, .list .nil []]]]) := ⟨.list .nil [], by unfold Ker; simp, .nil _ _ _, ⟨_, rfl⟩⟩
  simp only [hpt, hvb, hbx3, h03, newW_eq, hptT, zz, Nat.reduceEqDiff]
  refine c117 hg hsm t hs hok notion [] _ _ hn (by simp; omega) hK0 fun σ' hK' => ?_
  obtain ⟨tv, hKer, hG, hp⟩ := hK'
  simp only [zz, Nat.reduceEqDiff]
  by_cases he : (verT g t notion []).1 ≠ 0
  · have : ((verT g t notion []).1 != 0) = true := by simpa using he
    simp only [this, zz, Nat.reduceEqDiff]
    exact fin0 _ _ hp (by unfold verG; rw [if_neg hck, if_neg hsz, hw, if_neg (by simp), if_pos he])
  · have : ((verT g t notion []).1 != 0) = false := by simpa using he
    simp only [this, nilP, hf2, hKer.text, zz, Nat.reduceEqDiff]
    exact fin _ _ _ _ hp (grow_less hG (by omega)) (by unfold verG; rw [if_neg hck, if_neg hsz, hw, if_neg (by simp), if_neg he])

end Go.Proofs.YtiniifbmeobmgaaGreatDoor
