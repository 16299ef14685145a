/- Trees: as values, their sizes, the reference's. -/
import Derived.Test.YtiniifbmeobmgaaGreatDoorSpcD
import Derived.Test.YtiniifbmeobmgaaGreatDoorFlt
import Derived.Test.YtiniifbmeobmgaaGreatDoorFnM
set_option linter.unusedVariables false
set_option linter.unusedSimpArgs false
namespace Go.Proofs.YtiniifbmeobmgaaGreatDoor
open Go Go.Abs

inductive PTree where
  | node (r : Int) (n : Str) (b : Sl Bind) (k : LK) (ks : List PTree)

mutual
def pvT : PTree → PV
  | .node r n b k ks => .agg [.int .i64 r, .str n, pvSl pvBind b, .list k (pvTs ks)]
def pvTs : List PTree → List PV
  | [] => []
  | t :: ts => pvT t :: pvTs ts
end

mutual
def sizeT : PTree → Nat
  | .node _ _ _ _ ks => 1 + sizeTs ks
def sizeTs : List PTree → Nat
  | [] => 0
  | t :: ts => sizeT t + sizeTs ts
end

mutual
/-- No text is too long, no slice. -/
def okT : PTree → Prop
  | .node _ n b _ ks => n.length ≤ 1048576 ∧ b.2.length ≤ 1048576 ∧ (∀ x ∈ b.2, x.1.length ≤ 1048576 ∧ x.2.length ≤ 1048576) ∧ okTs ks
def okTs : List PTree → Prop
  | [] => True
  | t :: ts => okT t ∧ okTs ts
end

mutual
theorem PTree.ind {Pr : PTree → Prop} (h : ∀ r n b k ks, (∀ t ∈ ks, Pr t) → Pr (.node r n b k ks)) : ∀ t, Pr t
  | .node r n b k ks => h r n b k ks (PTree.indL h ks)
theorem PTree.indL {Pr : PTree → Prop} (h : ∀ r n b k ks, (∀ t ∈ ks, Pr t) → Pr (.node r n b k ks)) : ∀ (ks : List PTree), ∀ t ∈ ks, Pr t
  | [], t, ht => by simp at ht
  | a :: ks, t, ht => by
    rcases List.mem_cons.1 ht with he | ht
    · exact he ▸ PTree.ind h a
    · exact PTree.indL h ks t ht
end

theorem pvTs_map : ∀ ks : List PTree, pvTs ks = ks.map pvT
  | [] => rfl
  | t :: ts => by simp [pvTs, pvTs_map ts]

theorem okTs_mem : ∀ {ks : List PTree}, okTs ks → ∀ t ∈ ks, okT t
  | a :: ks, h, t, ht => by
    rcases List.mem_cons.1 ht with rfl | ht
    · exact h.1
    · exact okTs_mem h.2 t ht

theorem sizeTs_app (a b : List PTree) : sizeTs (a ++ b) = sizeTs a + sizeTs b := by
  induction a with
  | nil => simp [sizeTs]
  | cons x a ih => simp [sizeTs, ih]; omega

theorem sizeTs_take {ks : List PTree} {i : Nat} {t : PTree} (h : ks[i]? = some t) : sizeTs (ks.take (i + 1)) = sizeTs (ks.take i) + sizeT t := by
  rw [List.take_add_one, h, sizeTs_app]
  simp [sizeTs]

theorem sizeTs_le (ks : List PTree) (i : Nat) : sizeTs (ks.take i) ≤ sizeTs ks := by
  have := sizeTs_app (ks.take i) (ks.drop i)
  rw [List.take_append_drop] at this
  omega

theorem sizeT_mem : ∀ {ks : List PTree} {t : PTree}, t ∈ ks → sizeT t ≤ sizeTs ks
  | a :: ks, t, h => by
    rcases List.mem_cons.1 h with rfl | h
    · simp [sizeTs]
    · have := sizeT_mem h
      simp [sizeTs]
      omega

theorem sizeT_pos (t : PTree) : 1 ≤ sizeT t := by
  cases t
  simp [sizeT]

theorem len_size : ∀ ks : List PTree, ks.length ≤ sizeTs ks
  | [] => by simp [sizeTs]
  | t :: ks => by
    have h1 := sizeT_pos t
    have h2 := len_size ks
    simp [sizeTs]
    omega

theorem encT : EncOk pvT true 4 := ⟨fun t => by cases t; exact ⟨_, rfl, rfl⟩, fun t => by cases t; rfl⟩
theorem boxT (t : PTree) : opC.vBoxAny (pvT t) = some (4, pvT t) := by cases t; rfl
theorem putT (t : PTree) : vPut 4 (.agg [.int .i64 0, .str [], .list .nil [], .list .nil []]) 0 (pvT t) = some (pvT t) := by cases t; rfl

theorem flatBind (b : Bind) : Flat (pvBind b) := .agg _ fun x h => by
  simp only [List.mem_cons, List.not_mem_nil, or_false] at h
  rcases h with rfl | rfl
  · exact .str _
  · exact .str _

theorem Flat.under {x : PV} (h : Flat x) (n : Nat) : Under n x := by
  induction h with
  | bool b => exact .bool b
  | int k i => exact .int k i
  | str l => exact .str l
  | list k xs _ ih => exact .list k xs fun i x hx => ih x (List.mem_of_getElem? hx)
  | agg xs _ ih => exact .agg xs fun i x hx => ih x (List.mem_of_getElem? hx)
  | tuple xs _ ih => exact .tuple xs fun i x hx => ih x (List.mem_of_getElem? hx)

/-! ### Size -/

theorem c45 : ∀ t : PTree, sizeT t ≤ 1048576 → ∀ σ : St, Ret W 45 [pvT t] σ (.int .i64 (sizeT t)) := PTree.ind fun r n b k ks ih hs σ => by
  refine ret_of fun R hR => ?_
  rw [fn45_eq]
  unfold fn45
  have hlen := len_size ks
  simp only [sizeT] at hs hR
  have hv : pvT (.node r n b k ks) = .agg [.int .i64 r, .str n, pvSl pvBind b, .list k (ks.map pvT)] := by simp [pvT, pvTs_map]
  have hp : vPart false 1 (.agg [.int .i64 r, .str n, pvSl pvBind b, .list k (ks.map pvT)]) 3 = some (.list k (ks.map pvT)) := rfl
  simp only [boxT, zz, Nat.reduceEqDiff]
  rw [hv]
  simp only [hp, List.length_map, zz, Nat.reduceEqDiff]
  refine Lfp_up ks.length (fun i x σ' => x = lookP [(3, .int .i64 ((1 + sizeTs (ks.take i) : Nat) : Int)), (7, .list k (ks.map pvT)), (8, .int .i64 ks.length), (9, .int .i64 i)] ∧ σ' = σ) ?_ ⟨rfl, rfl⟩
  rintro Φ i x σ' hi ⟨rfl, rfl⟩ next
  simp only [zz, Nat.reduceEqDiff]
  have hle := sizeTs_le ks (i + 1)
  by_cases hlt : i < ks.length
  · have hgi : ks[i]? = some ks[i] := by simp [hlt]
    have hmem : ks[i] ∈ ks := by simp
    generalize ks[i] = t at hgi hmem
    have hst := sizeT_mem hmem
    have htk := sizeTs_take hgi
    simp only [hlt, encT.index hgi, encT.part, putT, zz, Nat.reduceEqDiff]
    refine (ih t hmem (by omega) σ').callB ?_
    rw [vBin_add _ (by omega) (by omega)]
    simp only [zz, Nat.reduceEqDiff]
    rw [vBin_add _ (by omega) (by omega)]
    have e : ((1 + sizeTs (ks.take i) : Nat) : Int) + (sizeT t : Int) = ((1 + sizeTs (ks.take (i + 1)) : Nat) : Int) := by omega
    rw [e]
    exact next _ _ hlt ⟨by simp, rfl⟩
  · obtain rfl : i = ks.length := by omega
    simp only [hlt, List.take_length, zz, Nat.reduceEqDiff]
    exact weakW_keep hR

/-! ### The reference's tree -/

/-! ### Lists of strings are equal -/

theorem c44 {l : List Str} (hl : l.length < 4611686018427387904) {x y : PV} {σ : St} (hx : Elems σ 1 x (l.map .str)) (hy : Elems σ 1 y (l.map .str)) : Ret W 44 [x, y] σ (.bool true) := by
  refine ret_of fun R hR => ?_
  rw [fn44_eq]
  unfold fn44
  have h0 : ((l.length : Int) != (l.length : Int)) = false := by simp
  simp only [hx.len, hy.len, List.length_map, h0, zz, Nat.reduceEqDiff]
  refine Lfp_up l.length (fun i z σ' => z = lookP [(0, x), (1, y), (12, .int .i64 l.length), (13, .int .i64 i)] ∧ σ' = σ) ?_ ⟨rfl, rfl⟩
  rintro Φ i z σ' hi ⟨rfl, rfl⟩ next
  simp only [zz, Nat.reduceEqDiff]
  by_cases hlt : i < l.length
  · have hgi : l[i]? = some l[i] := by simp [hlt]
    generalize l[i] = s at hgi
    obtain ⟨q, q1, q2, _⟩ := hx.at_ (i := i) (k := .i64) (by rw [List.getElem?_map, hgi]; rfl) (show (PV.str s).cells? = some _ from rfl) rfl
    obtain ⟨p, p1, p2, _⟩ := hy.at_ (i := i) (k := .i64) (by rw [List.getElem?_map, hgi]; rfl) (show (PV.str s).cells? = some _ from rfl) rfl
    simp only [hlt, q1, q2, p1, p2, BEq.rfl, zz, Nat.reduceEqDiff]
    rw [vBin_add _ (by omega) (by omega)]
    exact next _ _ hlt ⟨rfl, rfl⟩
  · obtain rfl : i = l.length := by omega
    simp only [hlt, zz, Nat.reduceEqDiff]
    exact weakW_keep hR

def pvGiven (x : Str × PTree) : PV := match x.2 with
  | .node r n b k ks => .agg [.str x.1, .int .i64 r, .str n, pvSl pvBind b, .list k (pvTs ks)]

end Go.Proofs.YtiniifbmeobmgaaGreatDoor
