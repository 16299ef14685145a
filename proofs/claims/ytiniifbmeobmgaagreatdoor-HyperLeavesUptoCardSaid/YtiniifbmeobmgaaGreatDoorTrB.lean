/- Few: the walk over a tree with a counter. -/
import Derived.Test.YtiniifbmeobmgaaGreatDoorTrA
set_option linter.unusedVariables false
set_option linter.unusedSimpArgs false
namespace Go.Proofs.YtiniifbmeobmgaaGreatDoor
open Go Go.Abs

/-- A return after which one block alone is another. -/
theorem weakW_one {σ σ2 : St} {c g z : Nat} {xs : List PV} {v : PV} {K : PV → St → Prop} (hc : c < σ.length) (h2 : σ.set c (.arr g z xs) <+: σ2) (hf : ∀ x ∈ xs, Flat x) (hv : Flat v) (h : K v (σ.set c (.arr g z xs))) : weakW σ v σ2 K := by
  have hlen : σ.length ≤ σ2.length := by have := h2.length_le; simpa using this
  refine weakW_kill (fun b => σ.length ≤ b) ⟨fun b hb => hb, by simpa using hlen, fun b hb _ => by simpa using hb, fun b k' hb => ?_⟩ (.base _ (hv.free _)) h
  have hbl : b < σ.length := by have := (List.getElem?_eq_some_iff.1 hb).1; simpa using this
  refine .inr ⟨by omega, k', ?_, ?_⟩
  · obtain ⟨t, rfl⟩ := h2
    rw [List.getElem?_append_left (by simpa using hbl)]
    exact hb
  · rw [List.getElem?_set] at hb
    split at hb
    · rename_i hcb
      subst hcb
      first
        | cases hb
        | (rw [if_pos hc] at hb; cases hb)
      refine .inl (.inr ⟨xs, rfl, rfl, fun i x y hx hy => ?_⟩)
      rw [hx] at hy
      cases hy
      exact (hf x (List.mem_of_getElem? hx)).frz _ _
    · exact .inr ⟨rfl, hb⟩

mutual
/-- The counter's walk. -/
def cntT : PTree → Nat → Nat → Bool × Nat
  | .node _ nm b _ ks, deep, n => if decide (60 < n + 1) || (decide (deep = 0) || (decide (100 < nm.length) || (decide (8 < b.2.length) || b.2.any fun x => decide (60 < x.2.length)))) then (false, n + 1) else cntTs ks (deep - 1) (n + 1)
def cntTs : List PTree → Nat → Nat → Bool × Nat
  | [], _, n => (true, n)
  | t :: ts, deep, n => if (cntT t deep n).1 then cntTs ts deep (cntT t deep n).2 else (false, (cntT t deep n).2)
end

theorem cntTs_le : ∀ (ks : List PTree) (deep n : Nat), (∀ t ∈ ks, ∀ deep n, (cntT t deep n).2 ≤ n + sizeT t) → (cntTs ks deep n).2 ≤ n + sizeTs ks
  | [], deep, n, _ => by simp [cntTs, sizeTs]
  | t :: ts, deep, n, h => by
    have h1 := h t (by simp) deep n
    simp only [cntTs, sizeTs]
    split
    · have := cntTs_le ts deep (cntT t deep n).2 fun t ht => h t (by simp [ht])
      omega
    · simp only
      omega

theorem cntT_le : ∀ (t : PTree) (deep n : Nat), (cntT t deep n).2 ≤ n + sizeT t := PTree.ind fun r nm b k ks ih deep n => by
  simp only [cntT, sizeT]
  split
  · simp only
    omega
  · have := cntTs_le ks (deep - 1) (n + 1) ih
    omega

abbrev stN (σ : St) (c n : Nat) : St := σ.set c (.arr 0 1 [.int .i64 n])

theorem stN_get {σ : St} {c n : Nat} (hc : c < σ.length) : (stN σ c n)[c]? = some (.arr 0 1 [.int .i64 n]) := by simp [stN, hc]
theorem stN_ne {σ : St} {c n d : Nat} (h : d ≠ c) : (stN σ c n)[d]? = σ[d]? := by simp [stN, List.getElem?_set, Ne.symm h]
theorem stN_two (σ : St) (c n m : Nat) : stN (stN σ c n) c m = stN σ c m := by simp [stN]
theorem stN_same {σ : St} {c n : Nat} (h : σ[c]? = some (.arr 0 1 [.int .i64 n])) : stN σ c n = σ := by
  obtain ⟨hc, h⟩ := List.getElem?_eq_some_iff.1 h
  simp [stN, ← h]

/-- The spec of count. -/
def Cnt (t : PTree) : Prop := ∀ (deep n c : Nat) (σ : St) (R : Res → St → Prop), σ[c]? = some (.arr 0 1 [.int .i64 n]) → n ≤ 2097152 → deep ≤ 1000 → R (.ret (.bool (cntT t deep n).1)) (stN σ c (cntT t deep n).2) → W 116 [pvT t, .int .i64 deep, .ptr c 0 0 0] σ R

theorem ld_int {σ : St} {b : Nat} {x : PV} (h : σ[b]? = some (.arr 0 1 [x])) (hx : x.cells? = some [x]) : vLoad false 1 (.ptr b 0 0 0) σ = some x := by
  simp only [vLoad, h]
  simp [vPart, hx]

theorem hb159 : hasBody 159 = true := by kernel_rfl
theorem hb157 : hasBody 157 = true := by kernel_rfl

theorem c159 {t : PTree} (ht : Cnt t) {deep n c d e : Nat} {σ : St} {R : Res → St → Prop} (hc : σ[c]? = some (.arr 0 1 [.int .i64 n])) (hd : σ[d]? = some (.arr 0 1 [.int .i64 ((deep + 1 : Nat) : Int)])) (he : σ[e]? = some (.arr 0 1 [.ptr c 0 0 0]))
    (hn : n ≤ 2097152) (hdeep : deep ≤ 1000) (hR : R (.ret (.bool (!(cntT t deep n).1))) (stN σ c (cntT t deep n).2)) : W 159 [pvT t, .ptr d 0 0 0, .ptr e 0 0 0] σ R := by
  refine callW_fold ?_
  rw [fn159_eq]
  unfold fn159
  have hsub : vBin none .sub (.int .i64 ((deep + 1 : Nat) : Int)) (.int .i64 1) = some (.int .i64 (deep : Nat)) := by
    simp only [vBin, if_true, vArith]
    rw [wrap64_small (by omega) (by omega)]
    congr 2
    omega
  have hpt : vPart true 4 (pvT t) 0 = some (pvT t) := encT.part t
  simp only [boxT, hpt, ld_int hd rfl, ld_int he rfl, hsub, zz, Nat.reduceEqDiff]
  refine ht deep n c σ _ hc hn hdeep ?_
  simp only [zz, Nat.reduceEqDiff]
  exact weakW_keep hR

theorem c182 {ks : List PTree} (hks : ∀ t ∈ ks, Cnt t) (hl : sizeTs ks ≤ 1048576) {k : LK} {deep n c d e : Nat} {σ : St} {R : Res → St → Prop} (hc : σ[c]? = some (.arr 0 1 [.int .i64 n])) (hd : σ[d]? = some (.arr 0 1 [.int .i64 ((deep + 1 : Nat) : Int)]))
    (he : σ[e]? = some (.arr 0 1 [.ptr c 0 0 0])) (hcd : d ≠ c) (hce : e ≠ c) (hn : n ≤ 1048576) (hdeep : deep ≤ 1000)
    (hR : ∀ v : Int, decide (v ≥ 0) = (!(cntTs ks deep n).1) → R (.ret (.int .i64 v)) (stN σ c (cntTs ks deep n).2)) : W 182 [.list k (ks.map pvT), .func 159 [.ptr d 0 0 0, .ptr e 0 0 0]] σ R := by
  refine callW_fold ?_
  rw [fn182_eq]
  unfold fn182
  have hlen := len_size ks
  have hcl := (List.getElem?_eq_some_iff.1 hc).1
  simp only [List.length_map, zz, Nat.reduceEqDiff]
  refine Lfp_up ks.length (fun i x σ' => ∃ m, x = lookP [(0, .list k (ks.map pvT)), (1, .func 159 [.ptr d 0 0 0, .ptr e 0 0 0]), (7, .int .i64 ks.length), (8, .int .i64 i)] ∧ σ' = stN σ c m ∧ m ≤ n + sizeTs (ks.take i) ∧ cntTs ks deep n = cntTs (ks.drop i) deep m) ?_ ⟨n, rfl, (stN_same hc).symm, by omega, by simp⟩
  rintro Φ i x σ' hi ⟨m, rfl, rfl, hm, hcn⟩ next
  simp only [zz, Nat.reduceEqDiff]
  have hle := sizeTs_le ks i
  by_cases hlt : i < ks.length
  · have hgi : ks[i]? = some ks[i] := by simp [hlt]
    have hmem : ks[i] ∈ ks := by simp
    have hdr : ks.drop i = ks[i] :: ks.drop (i + 1) := List.drop_eq_getElem_cons hlt
    generalize ks[i] = t at hgi hmem hdr
    have htk := sizeTs_take hgi
    have hct := cntT_le t deep m
    rw [hdr, cntTs] at hcn
    simp only [hlt, encT.index hgi, encT.part, callG_func hb159, List.cons_append, List.nil_append, zz, Nat.reduceEqDiff]
    refine c159 (hks t hmem) (n := m) (deep := deep) (c := c) (stN_get hcl) (by rw [stN_ne hcd]; exact hd) (by rw [stN_ne hce]; exact he) (by omega) hdeep ?_
    rw [stN_two]
    cases hb : (cntT t deep m).1 with
    | true =>
      rw [hb, if_pos rfl] at hcn
      simp only [zz, Nat.reduceEqDiff]
      rw [vBin_add _ (by omega) (by omega)]
      exact next _ _ hlt ⟨_, by simp, rfl, by rw [htk]; omega, hcn⟩
    | false =>
      rw [hb] at hcn
      simp only [Bool.false_eq_true, if_false] at hcn
      simp only [zz, Nat.reduceEqDiff]
      refine weakW_keep ?_
      have := hR i (by rw [hcn]; simp)
      rw [hcn] at this
      exact this
  · obtain rfl : i = ks.length := by omega
    rw [List.drop_length] at hcn
    simp only [cntTs] at hcn
    simp only [hlt, zz, Nat.reduceEqDiff]
    refine weakW_keep ?_
    have := hR (-1) (by rw [hcn]; rfl)
    rw [hcn] at this
    exact this

theorem c157 (b : Bind) (σ : St) : Ret W 157 [pvBind b] σ (.bool (decide (60 < b.2.length))) := by
  refine ret_of fun R hR => ?_
  rw [fn157_eq]
  unfold fn157
  have hbox : opC.vBoxAny (pvBind b) = some (2, pvBind b) := rfl
  have hp : vPart false 1 (pvBind b) 1 = some (.str b.2) := rfl
  have hd : decide ((b.2.length : Int) > 60) = decide (60 < b.2.length) := by
    congr 1
    exact propext (by omega)
  simp only [hbox, hp, hd, zz, Nat.reduceEqDiff]
  exact weakW_keep hR

theorem c156 {l : List Bind} (hl : l.length < 4611686018427387904) {k : LK} (σ : St) : Ret W 156 [.list k (l.map pvBind), .func 157 []] σ (.bool (l.any fun b => decide (60 < b.2.length))) := by
  refine ret_of fun R hR => ?_
  rw [fn156_eq]
  unfold fn156
  refine (c96 encBind (fun b : Bind => decide (60 < b.2.length)) hb157 hl fun b _ => c157 b σ).callB ?_
  simp only [idxOf_ge, zz, Nat.reduceEqDiff]
  exact weakW_keep hR

theorem c158 {ks : List PTree} (hks : ∀ t ∈ ks, Cnt t) (hl : sizeTs ks ≤ 1048576) {k : LK} {deep n c d e : Nat} {σ : St} {R : Res → St → Prop} (hc : σ[c]? = some (.arr 0 1 [.int .i64 n])) (hd : σ[d]? = some (.arr 0 1 [.int .i64 ((deep + 1 : Nat) : Int)]))
    (he : σ[e]? = some (.arr 0 1 [.ptr c 0 0 0])) (hcd : d ≠ c) (hce : e ≠ c) (hn : n ≤ 1048576) (hdeep : deep ≤ 1000)
    (hR : R (.ret (.bool (!(cntTs ks deep n).1))) (stN σ c (cntTs ks deep n).2)) : W 158 [.list k (ks.map pvT), .func 159 [.ptr d 0 0 0, .ptr e 0 0 0]] σ R := by
  refine callW_fold ?_
  rw [fn158_eq]
  unfold fn158
  refine c182 hks hl hc hd he hcd hce hn hdeep fun v hv => ?_
  simp only [hv, zz, Nat.reduceEqDiff]
  exact weakW_keep hR

set_option maxHeartbeats 1000000 in
theorem c116 : ∀ t : PTree, sizeT t ≤ 1048576 → okT t → Cnt t := PTree.ind fun r nm b k ks ih hs hok deep n c σ R hc hn hdeep hR => by
  refine callW_fold ?_
  rw [fn116_eq]
  unfold fn116
  have hcl := (List.getElem?_eq_some_iff.1 hc).1
  obtain ⟨bk, bs⟩ := b
  simp only [sizeT] at hs
  simp only [okT] at hok
  obtain ⟨o1, o2, o3, o4⟩ := hok
  have hv : pvT (.node r nm (bk, bs) k ks) = .agg [.int .i64 r, .str nm, .list bk (bs.map pvBind), .list k (ks.map pvT)] := by simp [pvT, pvTs_map, pvSl]
  have hp1 : ∀ a b c d : PV, vPart false 1 (.agg [a, b, c, d]) 1 = some b := fun _ _ _ _ => rfl
  have hp2 : ∀ a b c d : PV, vPart false 1 (.agg [a, b, c, d]) 2 = some c := fun _ _ _ _ => rfl
  have hp3 : ∀ a b c d : PV, vPart false 1 (.agg [a, b, c, d]) 3 = some d := fun _ _ _ _ => rfl
  have hb1 : ∀ i : Int, opC.vBoxAny (.int .i64 i) = some (1, .int .i64 i) := fun _ => rfl
  have hb2 : ∀ c : Nat, opC.vBoxAny (.ptr c 0 0 0) = some (1, .ptr c 0 0 0) := fun _ => rfl
  have hnil : ∀ (b g i o : Nat), vNil (.ptr b g i o) = some (.ptr b g i o) := fun _ _ _ _ => rfl
  have h01 : (0 : Nat) < 1 := by decide
  generalize hσ6 : σ ++ [Blk.arr 0 1 [PV.int .i64 deep]] ++ [Blk.arr 0 1 [PV.ptr c 0 0 0]] = σ6
  have hc6 : σ6[c]? = some (.arr 0 1 [.int .i64 n]) := by rw [← hσ6, List.append_assoc, List.getElem?_append_left hcl]; exact hc
  have hd6 : σ6[σ.length]? = some (.arr 0 1 [.int .i64 deep]) := by rw [← hσ6]; simp
  have he6 : σ6[(σ ++ [Blk.arr 0 1 [PV.int .i64 deep]]).length]? = some (.arr 0 1 [.ptr c 0 0 0]) := by rw [← hσ6]; simp
  have hne1 : σ.length ≠ c := by omega
  have hne2 : (σ ++ [Blk.arr 0 1 [PV.int .i64 deep]]).length ≠ c := by simp; omega
  have hc6l : c < σ6.length := (List.getElem?_eq_some_iff.1 hc6).1
  have hst : ∀ m : Nat, vStore 1 (.ptr c 0 0 0) (.int .i64 m) σ6 = some (stN σ6 c m) := fun m => by
    simp only [vStore, hc6]
    rfl
  have hadd : vBin none .add (.int .i64 (n : Int)) (.int .i64 1) = some (.int .i64 ((n + 1 : Nat) : Int)) := by
    rw [vBin_add _ (by omega) (by omega)]
    rfl
  have hpre : ∀ m : Nat, stN σ c m <+: stN σ6 c m := fun m => by
    rw [← hσ6]
    simp only [stN]
    rw [List.append_assoc, List.set_append_left _ _ hcl]
    exact ⟨_, rfl⟩
  have fin : ∀ (v : Bool) (m : Nat) (K : PV → St → Prop), K (.bool v) (stN σ c m) → weakW σ (.bool v) (stN σ6 c m) K := fun v m K h =>
    weakW_one hcl (hpre m) (fun x hx => by simp at hx; subst hx; exact .int _ _) (.bool _) h
  simp only [boxT, hb1, hb2, h01, newW_eq, hσ6, zz, Nat.reduceEqDiff]
  simp only [if_true, ld_int he6 rfl, hnil, ld_int hc6 rfl, hadd, hst, zz, Nat.reduceEqDiff]
  have hget : (stN σ6 c (n + 1))[c]? = some (.arr 0 1 [.int .i64 ((n + 1 : Nat) : Int)]) := stN_get hc6l
  have hgd : (stN σ6 c (n + 1))[σ.length]? = some (.arr 0 1 [.int .i64 deep]) := by rw [stN_ne hne1]; exact hd6
  have hge : (stN σ6 c (n + 1))[(σ ++ [Blk.arr 0 1 [PV.int .i64 deep]]).length]? = some (.arr 0 1 [.ptr c 0 0 0]) := by rw [stN_ne hne2]; exact he6
  simp only [ld_int hge rfl, ld_int hget rfl, hnil, zz, Nat.reduceEqDiff]
  rw [hv]
  have e1 : decide (((n + 1 : Nat) : Int) > 60) = decide (60 < n + 1) := by congr 1; exact propext (by omega)
  have e2 : ((deep : Int) == 0) = decide (deep = 0) := by
    rw [Bool.eq_iff_iff]
    simp
  have e3 : decide ((nm.length : Int) > 100) = decide (100 < nm.length) := by congr 1; exact propext (by omega)
  have e4 : decide ((bs.length : Int) > 8) = decide (8 < bs.length) := by congr 1; exact propext (by omega)
  simp only [cntT] at hR
  rw [e1]
  cases b1 : decide (60 < n + 1) with
  | true =>
    rw [b1] at hR
    simp only [Bool.true_or, if_true] at hR
    simp only [zz, Nat.reduceEqDiff]
    exact fin _ _ _ hR
  | false =>
  simp only [ld_int hgd rfl, e2, zz, Nat.reduceEqDiff]
  cases b2 : decide (deep = 0) with
  | true =>
    rw [b1, b2] at hR
    simp only [Bool.false_or, Bool.true_or, if_true] at hR
    simp only [zz, Nat.reduceEqDiff]
    exact fin _ _ _ hR
  | false =>
  simp only [hp1, e3, zz, Nat.reduceEqDiff]
  cases b3 : decide (100 < nm.length) with
  | true =>
    rw [b1, b2, b3] at hR
    simp only [Bool.false_or, Bool.true_or, if_true] at hR
    simp only [zz, Nat.reduceEqDiff]
    exact fin _ _ _ hR
  | false =>
  simp only [hp2, List.length_map, e4, zz, Nat.reduceEqDiff]
  cases b4 : decide (8 < bs.length) with
  | true =>
    rw [b1, b2, b3, b4] at hR
    simp only [Bool.false_or, Bool.true_or, if_true] at hR
    simp only [zz, Nat.reduceEqDiff]
    exact fin _ _ _ hR
  | false =>
  simp only [hp2, zz, Nat.reduceEqDiff]
  refine (c156 (by omega) _).callB ?_
  cases b5 : (bs.any fun x => decide (60 < x.2.length)) with
  | true =>
    rw [b1, b2, b3, b4, b5] at hR
    simp only [Bool.or_true, if_true] at hR
    simp only [zz, Nat.reduceEqDiff]
    exact fin _ _ _ hR
  | false =>
  rw [b1, b2, b3, b4, b5] at hR
  simp only [Bool.or_false, Bool.false_eq_true, if_false] at hR
  simp only [hp3, zz, Nat.reduceEqDiff]
  have hdp : deep = (deep - 1) + 1 := by
    rw [decide_eq_false_iff_not] at b2
    omega
  rw [decide_eq_false_iff_not] at b1
  refine c158 (fun t ht => ih t ht (by have := sizeT_mem ht; omega) (okTs_mem o4 t ht)) (by omega) (deep := deep - 1) hget (by rw [← hdp]; exact hgd) hge hne1 hne2 (by omega) (by omega) ?_
  rw [stN_two]
  simp only [Bool.not_not, zz, Nat.reduceEqDiff]
  exact fin _ _ _ hR

theorem c40 {t : PTree} (hs : sizeT t ≤ 1048576) (hok : okT t) (σ : St) : Ret W 40 [pvT t] σ (.bool ((cntT t 40 0).1 && decide ((cntT t 40 0).2 ≤ 60))) := by
  refine ret_of fun R hR => ?_
  rw [fn40_eq]
  unfold fn40
  have hst : vStore 1 (.ptr σ.length 0 0 0) (.int .i64 0) (σ ++ [.arr 0 1 [.int .i64 0]]) = some (σ ++ [.arr 0 1 [.int .i64 0]]) := by
    simp [vStore]
    rfl
  have hpt : vPart true 4 (pvT t) 0 = some (pvT t) := encT.part t
  have hget : (σ ++ [Blk.arr 0 1 [PV.int .i64 0]])[σ.length]? = some (.arr 0 1 [.int .i64 ((0 : Nat) : Int)]) := by simp
  have hcl : σ.length < (σ ++ [Blk.arr 0 1 [PV.int .i64 0]]).length := by simp
  simp only [boxT, newW_eq, hst, hpt, zz, Nat.reduceEqDiff]
  refine c116 t hs hok 40 0 σ.length _ _ hget (by omega) (by omega) ?_
  have hp : σ <+: stN (σ ++ [Blk.arr 0 1 [PV.int .i64 0]]) σ.length (cntT t 40 0).2 := pre_set ⟨_, rfl⟩ (Nat.le_refl _) _
  have e : decide (((cntT t 40 0).2 : Int) ≤ 60) = decide ((cntT t 40 0).2 ≤ 60) := by congr 1; exact propext (by omega)
  cases hb : (cntT t 40 0).1 with
  | true =>
    rw [hb] at hR
    simp only [ld_int (stN_get hcl) rfl, e, zz, Nat.reduceEqDiff]
    exact weakW_clean hp (.base _ (.bool _)) (by simpa using hR)
  | false =>
    rw [hb] at hR
    simp only [zz, Nat.reduceEqDiff]
    exact weakW_clean hp (.base _ (.bool _)) (by simpa using hR)

end Go.Proofs.YtiniifbmeobmgaaGreatDoor
