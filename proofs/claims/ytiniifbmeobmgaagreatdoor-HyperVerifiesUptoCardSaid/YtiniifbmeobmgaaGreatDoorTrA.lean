/- Trees: as values, their sizes, the reference's. -/
import Derived.Test.YtiniifbmeobmgaaGreatDoorSpcD
import Derived.Test.YtiniifbmeobmgaaGreatDoorFlt
import Derived.Test.YtiniifbmeobmgaaGreatDoorFnM
set_option linter.unusedVariables false
set_option linter.unusedSimpArgs false
namespace Go.Proofs.YtiniifbmeobmgaaGreatDoor
open Go Go.Abs

inductive PTree where
  | node (r : Int) (n : Str) (b : Sl Bind) (k : LK) (ks : List PTree)

mutual
def pvT : PTree → PV
  | .node r n b k ks => .agg [.int .i64 r, .str n, pvSl pvBind b, .list k (pvTs ks)]
def pvTs : List PTree → List PV
  | [] => []
  | t :: ts => pvT t :: pvTs ts
end

mutual
def sizeT : PTree → Nat
  | .node _ _ _ _ ks => 1 + sizeTs ks
def sizeTs : List PTree → Nat
  | [] => 0
  | t :: ts => sizeT t + sizeTs ts
end

def kindK {α : Type} (l : List α) : LK := match l with
  | [] => .nil
  | _ => .part

mutual
def refT : PTree → PTree
  | .node r n b _ ks => .node r n (reK b.2) (kindK ks) (refTs ks)
def refTs : List PTree → List PTree
  | [] => []
  | t :: ts => refT t :: refTs ts
end

mutual
/-- No text is too long, no slice. -/
def okT : PTree → Prop
  | .node _ n b _ ks => n.length ≤ 1048576 ∧ b.2.length ≤ 1048576 ∧ (∀ x ∈ b.2, x.1.length ≤ 1048576 ∧ x.2.length ≤ 1048576) ∧ okTs ks
def okTs : List PTree → Prop
  | [] => True
  | t :: ts => okT t ∧ okTs ts
end

mutual
theorem PTree.ind {Pr : PTree → Prop} (h : ∀ r n b k ks, (∀ t ∈ ks, Pr t) → Pr (.node r n b k ks)) : ∀ t, Pr t
  | .node r n b k ks => h r n b k ks (PTree.indL h ks)
theorem PTree.indL {Pr : PTree → Prop} (h : ∀ r n b k ks, (∀ t ∈ ks, Pr t) → Pr (.node r n b k ks)) : ∀ (ks : List PTree), ∀ t ∈ ks, Pr t
  | [], t, ht => by simp at ht
  | a :: ks, t, ht => by
    rcases List.mem_cons.1 ht with he | ht
    · exact he ▸ PTree.ind h a
    · exact PTree.indL h ks t ht
end

theorem pvTs_map : ∀ ks : List PTree, pvTs ks = ks.map pvT
  | [] => rfl
  | t :: ts => by simp [pvTs, pvTs_map ts]

theorem refTs_map : ∀ ks : List PTree, refTs ks = ks.map refT
  | [] => rfl
  | t :: ts => by simp [refTs, refTs_map ts]

theorem okTs_mem : ∀ {ks : List PTree}, okTs ks → ∀ t ∈ ks, okT t
  | a :: ks, h, t, ht => by
    rcases List.mem_cons.1 ht with rfl | ht
    · exact h.1
    · exact okTs_mem h.2 t ht

theorem sizeTs_app (a b : List PTree) : sizeTs (a ++ b) = sizeTs a + sizeTs b := by
  induction a with
  | nil => simp [sizeTs]
  | cons x a ih => simp [sizeTs, ih]; omega

theorem sizeTs_take {ks : List PTree} {i : Nat} {t : PTree} (h : ks[i]? = some t) : sizeTs (ks.take (i + 1)) = sizeTs (ks.take i) + sizeT t := by
  rw [List.take_add_one, h, sizeTs_app]
  simp [sizeTs]

theorem sizeTs_le (ks : List PTree) (i : Nat) : sizeTs (ks.take i) ≤ sizeTs ks := by
  have := sizeTs_app (ks.take i) (ks.drop i)
  rw [List.take_append_drop] at this
  omega

theorem sizeT_mem : ∀ {ks : List PTree} {t : PTree}, t ∈ ks → sizeT t ≤ sizeTs ks
  | a :: ks, t, h => by
    rcases List.mem_cons.1 h with rfl | h
    · simp [sizeTs]
    · have := sizeT_mem h
      simp [sizeTs]
      omega

theorem sizeT_pos (t : PTree) : 1 ≤ sizeT t := by
  cases t
  simp [sizeT]

theorem len_size : ∀ ks : List PTree, ks.length ≤ sizeTs ks
  | [] => by simp [sizeTs]
  | t :: ks => by
    have h1 := sizeT_pos t
    have h2 := len_size ks
    simp [sizeTs]
    omega

theorem sizeT_ref : ∀ t, sizeT (refT t) = sizeT t := PTree.ind fun r n b k ks ih => by
  simp only [refT, sizeT]
  congr 1
  rw [refTs_map]
  induction ks with
  | nil => rfl
  | cons a ks ih2 =>
    simp only [List.map_cons, sizeTs]
    rw [ih a (by simp), ih2 fun t ht => ih t (by simp [ht])]

theorem encT : EncOk pvT true 4 := ⟨fun t => by cases t; exact ⟨_, rfl, rfl⟩, fun t => by cases t; rfl⟩
theorem sizedT (t : PTree) : Sized 4 (pvT t) := by cases t; exact ⟨_, rfl, rfl⟩
theorem boxT (t : PTree) : opC.vBoxAny (pvT t) = some (4, pvT t) := by cases t; rfl
theorem putT (t : PTree) : vPut 4 (.agg [.int .i64 0, .str [], .list .nil [], .list .nil []]) 0 (pvT t) = some (pvT t) := by cases t; rfl

theorem flatBind (b : Bind) : Flat (pvBind b) := .agg _ fun x h => by
  simp only [List.mem_cons, List.not_mem_nil, or_false] at h
  rcases h with rfl | rfl
  · exact .str _
  · exact .str _

theorem flatT : ∀ t, Flat (pvT t) := PTree.ind fun r n b k ks ih => by
  unfold pvT
  refine .agg _ fun x h => ?_
  simp only [List.mem_cons, List.not_mem_nil, or_false] at h
  rcases h with rfl | rfl | rfl | rfl
  · exact .int _ _
  · exact .str _
  · exact flatSl flatBind b
  · refine .list _ _ fun x hx => ?_
    rw [pvTs_map] at hx
    obtain ⟨t, ht, rfl⟩ := List.mem_map.1 hx
    exact ih t ht

theorem Flat.under {x : PV} (h : Flat x) (n : Nat) : Under n x := by
  induction h with
  | bool b => exact .bool b
  | int k i => exact .int k i
  | str l => exact .str l
  | list k xs _ ih => exact .list k xs fun i x hx => ih x (List.mem_of_getElem? hx)
  | agg xs _ ih => exact .agg xs fun i x hx => ih x (List.mem_of_getElem? hx)
  | tuple xs _ ih => exact .tuple xs fun i x hx => ih x (List.mem_of_getElem? hx)

/-! ### Size -/

theorem c45 : ∀ t : PTree, sizeT t ≤ 1048576 → ∀ σ : St, Ret W 45 [pvT t] σ (.int .i64 (sizeT t)) := PTree.ind fun r n b k ks ih hs σ => by
  refine ret_of fun R hR => ?_
  rw [fn45_eq]
  unfold fn45
  have hlen := len_size ks
  simp only [sizeT] at hs hR
  have hv : pvT (.node r n b k ks) = .agg [.int .i64 r, .str n, pvSl pvBind b, .list k (ks.map pvT)] := by simp [pvT, pvTs_map]
  have hp : vPart false 1 (.agg [.int .i64 r, .str n, pvSl pvBind b, .list k (ks.map pvT)]) 3 = some (.list k (ks.map pvT)) := rfl
  simp only [boxT, zz, Nat.reduceEqDiff]
  rw [hv]
  simp only [hp, List.length_map, zz, Nat.reduceEqDiff]
  refine Lfp_up ks.length (fun i x σ' => x = lookP [(3, .int .i64 ((1 + sizeTs (ks.take i) : Nat) : Int)), (7, .list k (ks.map pvT)), (8, .int .i64 ks.length), (9, .int .i64 i)] ∧ σ' = σ) ?_ ⟨rfl, rfl⟩
  rintro Φ i x σ' hi ⟨rfl, rfl⟩ next
  simp only [zz, Nat.reduceEqDiff]
  have hle := sizeTs_le ks (i + 1)
  by_cases hlt : i < ks.length
  · have hgi : ks[i]? = some ks[i] := by simp [hlt]
    have hmem : ks[i] ∈ ks := by simp
    generalize ks[i] = t at hgi hmem
    have hst := sizeT_mem hmem
    have htk := sizeTs_take hgi
    simp only [hlt, encT.index hgi, encT.part, putT, zz, Nat.reduceEqDiff]
    refine (ih t hmem (by omega) σ').callB ?_
    rw [vBin_add _ (by omega) (by omega)]
    simp only [zz, Nat.reduceEqDiff]
    rw [vBin_add _ (by omega) (by omega)]
    have e : ((1 + sizeTs (ks.take i) : Nat) : Int) + (sizeT t : Int) = ((1 + sizeTs (ks.take (i + 1)) : Nat) : Int) := by omega
    rw [e]
    exact next _ _ hlt ⟨by simp, rfl⟩
  · obtain rfl : i = ks.length := by omega
    simp only [hlt, List.take_length, zz, Nat.reduceEqDiff]
    exact weakW_keep hR

theorem c46 : ∀ t : PTree, sizeT t ≤ 1048576 → ∀ σ : St, Ret W 46 [pvT t] σ (.int .i64 (sizeT t)) := PTree.ind fun r n b k ks ih hs σ => by
  refine ret_of fun R hR => ?_
  rw [fn46_eq]
  unfold fn46
  have hlen := len_size ks
  simp only [sizeT] at hs hR
  have hv : pvT (.node r n b k ks) = .agg [.int .i64 r, .str n, pvSl pvBind b, .list k (ks.map pvT)] := by simp [pvT, pvTs_map]
  have hp : vPart false 1 (.agg [.int .i64 r, .str n, pvSl pvBind b, .list k (ks.map pvT)]) 3 = some (.list k (ks.map pvT)) := rfl
  simp only [boxT, zz, Nat.reduceEqDiff]
  rw [hv]
  refine CutW_of ?_
  refine Lfp_up ks.length (fun i x σ' => x = lookP [(3, .int .i64 ((1 + sizeTs (ks.take i) : Nat) : Int)), (4, .int .i64 i), (1, .agg [.int .i64 r, .str n, pvSl pvBind b, .list k (ks.map pvT)])] ∧ σ' = σ) ?_ ⟨rfl, rfl⟩
  rintro Φ i x σ' hi ⟨rfl, rfl⟩ next
  simp only [hp, List.length_map, zz, Nat.reduceEqDiff]
  have hle := sizeTs_le ks (i + 1)
  by_cases hlt : i < ks.length
  · have hgi : ks[i]? = some ks[i] := by simp [hlt]
    have hmem : ks[i] ∈ ks := by simp
    generalize ks[i] = t at hgi hmem
    have hst := sizeT_mem hmem
    have htk := sizeTs_take hgi
    simp only [hlt, hp, encT.index hgi, encT.part, zz, Nat.reduceEqDiff]
    refine (ih t hmem (by omega) σ').callB ?_
    rw [vBin_add _ (by omega) (by omega)]
    simp only [zz, Nat.reduceEqDiff]
    rw [vBin_add _ (by omega) (by omega)]
    have e : ((1 + sizeTs (ks.take i) : Nat) : Int) + (sizeT t : Int) = ((1 + sizeTs (ks.take (i + 1)) : Nat) : Int) := by omega
    rw [e]
    exact next _ _ hlt ⟨by simp, rfl⟩
  · obtain rfl : i = ks.length := by omega
    simp only [hlt, List.take_length, zz, Nat.reduceEqDiff]
    exact weakW_keep hR

/-! ### The reference's tree -/

theorem growV_kind {α : Type} (enc : α → PV) (xs : List α) : growV (xs.map enc) = .list (kindK xs) (xs.map enc) := by
  cases xs <;> rfl

theorem kind_map {α β : Type} (f : α → β) (xs : List α) : kindK (xs.map f) = kindK xs := by cases xs <;> rfl

theorem c43 : ∀ t : PTree, sizeT t ≤ 1048576 → okT t → ∀ σ : St, Ret W 43 [pvT t] σ (pvT (refT t)) := PTree.ind fun r n b k ks ih hs hok σ => by
  refine ret_of fun R hR => ?_
  rw [fn43_eq]
  unfold fn43
  have hlen := len_size ks
  simp only [sizeT] at hs
  obtain ⟨bk, bs⟩ := b
  simp only [okT] at hok
  obtain ⟨o1, o2, o3, o4⟩ := hok
  have hv : pvT (.node r n (bk, bs) k ks) = .agg [.int .i64 r, .str n, .list bk (bs.map pvBind), .list k (ks.map pvT)] := by simp [pvT, pvTs_map, pvSl]
  have hp0 : ∀ a b c d : PV, vPart false 1 (.agg [a, b, c, d]) 0 = some a := fun _ _ _ _ => rfl
  have hp1 : ∀ a b c d : PV, vPart false 1 (.agg [a, b, c, d]) 1 = some b := fun _ _ _ _ => rfl
  have hp2 : ∀ a b c d : PV, vPart false 1 (.agg [a, b, c, d]) 2 = some c := fun _ _ _ _ => rfl
  have hp3 : ∀ a b c d : PV, vPart false 1 (.agg [a, b, c, d]) 3 = some d := fun _ _ _ _ => rfl
  have hbd : vBuild [.int .i64 0, .str [], .list .nil [], .list .nil []] [(0, 1, .int .i64 r), (1, 1, .str n)] = some [.int .i64 r, .str n, .list .nil [], .list .nil []] := rfl
  have hput : vPut 4 (.agg [.int .i64 0, .str [], .list .nil [], .list .nil []]) 0 (.agg [.int .i64 r, .str n, .list .nil [], .list .nil []]) = some (.agg [.int .i64 r, .str n, .list .nil [], .list .nil []]) := rfl
  have hput2 : ∀ {a b c d x : PV}, x.cells? = some [x] → vPut 1 (.agg [a, b, c, d]) 2 x = some (.agg [a, b, x, d]) := fun {a b c d x} hx => by
    unfold vPut
    rw [hx]
    rfl
  have hput3 : ∀ {a b c d x : PV}, x.cells? = some [x] → vPut 1 (.agg [a, b, c, d]) 3 x = some (.agg [a, b, c, x]) := fun {a b c d x} hx => by
    unfold vPut
    rw [hx]
    rfl
  simp only [boxT, zz, Nat.reduceEqDiff]
  rw [hv]
  simp only [hp0, hp1, hbd, hput, zz, Nat.reduceEqDiff]
  refine CutW_of ?_
  simp only [hp2, List.length_map, zz, Nat.reduceEqDiff]
  refine Lfp_up bs.length (fun i x σ' => ∃ v, x = lookP [(14, .list bk (bs.map pvBind)), (15, .int .i64 bs.length), (16, .int .i64 i), (1, .agg [.int .i64 r, .str n, .list bk (bs.map pvBind), .list k (ks.map pvT)]), (2, .agg [.int .i64 0, .str [], .list .nil [], .list .nil []]), (3, .agg [.int .i64 r, .str n, v, .list .nil []])] ∧ Grow σ.length 2 σ' v ((bs.take i).map pvBind) ∧ σ <+: σ') ?_ ⟨_, rfl, .nil _ _ _, List.prefix_rfl⟩
  rintro Φ i x σ' hi ⟨v, rfl, hg, hp⟩ next
  simp only [zz, Nat.reduceEqDiff]
  by_cases hlt : i < bs.length
  · have hgi : bs[i]? = some bs[i] := by simp [hlt]
    generalize bs[i] = q at hgi
    have hputB : vPut 2 (.agg [.str [], .str []]) 0 (pvBind q) = some (pvBind q) := rfl
    have hpB : vPart true 2 (pvBind q) 0 = some (pvBind q) := rfl
    have htk : (bs.take (i + 1)).map pvBind = (bs.take i).map pvBind ++ [pvBind q] := by rw [List.take_add_one, hgi]; simp
    have hsB : Sized 2 (pvBind q) := ⟨_, rfl, rfl⟩
    obtain ⟨v', σ'', e1, e2, e3, _⟩ := hg.app (by_ := 32) (y := .list .full [pvBind q]) hp rfl (by simpa using hsB) (by simp; omega)
    simp only [hlt, encBind.index hgi, encBind.part, hputB, hpB, hp2, vBuildSl_one hsB, e1, hput2 (grow_cell e2), zz, Nat.reduceEqDiff]
    rw [vBin_add _ (by omega) (by omega)]
    exact next _ _ hlt ⟨v', by simp, by rw [htk]; exact e2, e3⟩
  obtain rfl : i = bs.length := by omega
  rw [List.take_length] at hg
  simp only [hlt, zz, Nat.reduceEqDiff]
  clear next hlt hi
  refine CutW_of ?_
  simp only [hp3, List.length_map, zz, Nat.reduceEqDiff]
  refine Lfp_up ks.length (fun i x σ'' => ∃ u, x = lookP [(28, .list k (ks.map pvT)), (29, .int .i64 ks.length), (30, .int .i64 i), (2, .agg [.int .i64 0, .str [], .list .nil [], .list .nil []]), (3, .agg [.int .i64 r, .str n, v, u])] ∧ Grow σ'.length 4 σ'' u (((ks.take i).map refT).map pvT) ∧ σ' <+: σ'') ?_ ⟨_, rfl, .nil _ _ _, List.prefix_rfl⟩
  rintro Φ2 i x σ2 hi ⟨u, rfl, hgu, hp5⟩ next
  simp only [zz, Nat.reduceEqDiff]
  by_cases hlt : i < ks.length
  · have hgi : ks[i]? = some ks[i] := by simp [hlt]
    have hmem : ks[i] ∈ ks := by simp
    generalize ks[i] = t at hgi hmem
    have hst := sizeT_mem hmem
    have htk : ((ks.take (i + 1)).map refT).map pvT = ((ks.take i).map refT).map pvT ++ [pvT (refT t)] := by rw [List.take_add_one, hgi]; simp
    simp only [hlt, encT.index hgi, encT.part, putT, hp3, zz, Nat.reduceEqDiff]
    refine (ih t hmem (by omega) (okTs_mem o4 t hmem) σ2).callB ?_
    obtain ⟨u', σ'', e1, e2, e3, _⟩ := hgu.app (by_ := 72) (y := .list .full [pvT (refT t)]) hp5 rfl (by simpa using sizedT _) (by simp; omega)
    simp only [vBuildSl_one (sizedT (refT t)), e1, hput3 (grow_cell e2), zz, Nat.reduceEqDiff]
    rw [vBin_add _ (by omega) (by omega)]
    exact next _ _ hlt ⟨u', by simp, by rw [htk]; exact e2, e3⟩
  · obtain rfl : i = ks.length := by omega
    rw [List.take_length] at hgu
    have hpt : vPart true 4 (.agg [.int .i64 r, .str n, v, u]) 0 = some (.agg [.int .i64 r, .str n, v, u]) := rfl
    have hputE : vPut 4 (.agg [.int .i64 0, .str [], .list .nil [], .list .nil []]) 0 (.agg [.int .i64 r, .str n, v, u]) = some (.agg [.int .i64 r, .str n, v, u]) := rfl
    have hrc : resCons (some (PV.agg [.int .i64 r, .str n, v, u])) (some []) = some [PV.agg [.int .i64 r, .str n, v, u]] := rfl
    simp only [hlt, hpt, hputE, hrc, zz, Nat.reduceEqDiff]
    show weakW σ (.agg [.int .i64 r, .str n, v, u]) σ2 _
    refine weakW_clean (hp.trans hp5) (v' := pvT (refT (.node r n (bk, bs) k ks))) ?_ hR
    have f1 : Frz σ2 σ.length v (growV (bs.map pvBind)) := (grow_pre hg hp5).frz fun y hy => by
      obtain ⟨q, _, rfl⟩ := List.mem_map.1 hy
      exact .base _ ((flatBind q).under _)
    have f2 : Frz σ2 σ.length u (growV ((ks.map refT).map pvT)) := (grow_less hgu hp.length_le).frz fun y hy => by
      obtain ⟨q, _, rfl⟩ := List.mem_map.1 hy
      exact .base _ ((flatT q).under _)
    rw [growV_sl] at f1
    rw [growV_kind, kind_map] at f2
    have hv2 : pvT (refT (.node r n (bk, bs) k ks)) = .agg [.int .i64 r, .str n, pvSl pvBind (reK bs), .list (kindK ks) ((ks.map refT).map pvT)] := by simp [refT, pvT, pvTs_map, refTs_map]
    rw [hv2]
    refine .agg _ _ rfl fun i a c ha hc => ?_
    match i with
    | 0 => simp at ha hc; subst ha hc; exact .base _ (.int _ _)
    | 1 => simp at ha hc; subst ha hc; exact .base _ (.str _)
    | 2 => simp at ha hc; subst ha hc; exact f1
    | 3 => simp at ha hc; subst ha; rw [← hc]; simpa using f2
    | i + 4 => simp at ha

/-! ### Lists of strings are equal -/

theorem c44 {l : List Str} (hl : l.length < 4611686018427387904) {x y : PV} {σ : St} (hx : Elems σ 1 x (l.map .str)) (hy : Elems σ 1 y (l.map .str)) : Ret W 44 [x, y] σ (.bool true) := by
  refine ret_of fun R hR => ?_
  rw [fn44_eq]
  unfold fn44
  have h0 : ((l.length : Int) != (l.length : Int)) = false := by simp
  simp only [hx.len, hy.len, List.length_map, h0, zz, Nat.reduceEqDiff]
  refine Lfp_up l.length (fun i z σ' => z = lookP [(0, x), (1, y), (12, .int .i64 l.length), (13, .int .i64 i)] ∧ σ' = σ) ?_ ⟨rfl, rfl⟩
  rintro Φ i z σ' hi ⟨rfl, rfl⟩ next
  simp only [zz, Nat.reduceEqDiff]
  by_cases hlt : i < l.length
  · have hgi : l[i]? = some l[i] := by simp [hlt]
    generalize l[i] = s at hgi
    obtain ⟨q, q1, q2, _⟩ := hx.at_ (i := i) (k := .i64) (by rw [List.getElem?_map, hgi]; rfl) (show (PV.str s).cells? = some _ from rfl) rfl
    obtain ⟨p, p1, p2, _⟩ := hy.at_ (i := i) (k := .i64) (by rw [List.getElem?_map, hgi]; rfl) (show (PV.str s).cells? = some _ from rfl) rfl
    simp only [hlt, q1, q2, p1, p2, BEq.rfl, zz, Nat.reduceEqDiff]
    rw [vBin_add _ (by omega) (by omega)]
    exact next _ _ hlt ⟨rfl, rfl⟩
  · obtain rfl : i = l.length := by omega
    simp only [hlt, zz, Nat.reduceEqDiff]
    exact weakW_keep hR

end Go.Proofs.YtiniifbmeobmgaaGreatDoor
