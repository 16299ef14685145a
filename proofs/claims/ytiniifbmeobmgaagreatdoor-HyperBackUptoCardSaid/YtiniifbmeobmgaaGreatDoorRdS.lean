/- The same grammars are the same (Same of the package). -/
import Derived.Test.YtiniifbmeobmgaaGreatDoorRdA
import Derived.Test.YtiniifbmeobmgaaGreatDoorFnH
set_option linter.unusedVariables false
set_option linter.unusedSimpArgs false
namespace Go.Proofs.YtiniifbmeobmgaaGreatDoor
open Go Go.Abs

theorem hb83 : hasBody 83 = true := by kernel_rfl
theorem hb84 : hasBody 84 = true := by kernel_rfl
theorem hb87 : hasBody 87 = true := by kernel_rfl
theorem hb90 : hasBody 90 = true := by kernel_rfl

theorem c83 (p : Part) (σ : St) : Ret W 83 [pvPart p, pvPart p] σ (.bool true) := by
  refine ret_of fun R hR => ?_
  rw [fn83_eq]
  unfold fn83
  have hbox : opC.vBoxAny (pvPart p) = some (2, pvPart p) := rfl
  have hpt : vPart true 2 (pvPart p) 0 = some (pvPart p) := rfl
  have heq : vBin (some (.st [.bool, .str])) .eql (pvPart p) (pvPart p) = some (.bool true) := by
    simp [vBin, vEq, vEqL, vEqS, pvPart]
  simp only [hbox, hpt, heq, zz, Nat.reduceEqDiff, if_true, if_false, decide_true, decide_false, eq_self]
  exact weakW_keep hR

theorem nne (n : Int) : (n != n) = false := by simp

theorem c85 {l : List Part} (hl : l.length < 4611686018427387904) {k k' : LK} {σ : St} : Ret W 85 [.list k (l.map pvPart), .list k' (l.map pvPart), .func 83 []] σ (.bool true) := by
  refine ret_of fun R hR => ?_
  rw [fn85_eq]
  unfold fn85
  simp only [List.length_map, nne, zz, Nat.reduceEqDiff, if_true, if_false, decide_true, decide_false, eq_self]
  refine CutW_of ?_
  refine Lfp_up l.length (fun i z σ' => z = lookP [(1, .list k' (l.map pvPart)), (2, .func 83 []), (15, .list k (l.map pvPart)), (16, .int .i64 l.length), (17, .int .i64 i)] ∧ σ' = σ) ?_ ⟨rfl, rfl⟩
  rintro Φ i z σ' hi ⟨rfl, rfl⟩ next
  simp only [zz, Nat.reduceEqDiff, if_true, if_false, decide_true, decide_false, eq_self]
  by_cases hlt : i < l.length
  · have hgi : l[i]? = some l[i] := by simp [hlt]
    generalize l[i] = b at hgi
    have hput : vPut 2 (.agg [.bool false, .str []]) 0 (pvPart b) = some (pvPart b) := rfl
    simp only [hlt, encPart.index hgi, encPart.part, hput, callG_func hb83, List.cons_append, List.nil_append, List.append_nil, zz, Nat.reduceEqDiff, if_true, if_false, decide_true, decide_false, eq_self]
    refine (c83 b _).callB ?_
    simp only [zz, Nat.reduceEqDiff, if_true, if_false, decide_true, decide_false, eq_self]
    rw [vBin_add _ (by omega) (by omega)]
    exact next _ _ hlt ⟨by simp, rfl⟩
  · simp only [hlt, zz, Nat.reduceEqDiff, if_true, if_false, decide_true, decide_false, eq_self]
    exact weakW_keep hR

theorem c84 {l : List Part} (hl : l.length < 4611686018427387904) {k k' : LK} {σ : St} {c : Nat} (hc : σ[c]? = some (.arr 0 1 [.func 83 []])) : Ret W 84 [.list k (l.map pvPart), .list k' (l.map pvPart), .ptr c 0 0 0] σ (.bool true) := by
  refine ret_of fun R hR => ?_
  rw [fn84_eq]
  unfold fn84
  have hld : vLoad false 1 (.ptr c 0 0 0) σ = some (.func 83 []) := by simp [vLoad, hc, vPart, PV.cells?]
  simp only [hld, zz, Nat.reduceEqDiff, if_true, if_false, decide_true, decide_false, eq_self]
  refine (c85 hl).callB ?_
  exact weakW_keep hR

/-- Slices of parts that are the same but for where they lie. -/
def EqL (ls ls' : List (Sl Part)) : Prop := ls.length = ls'.length ∧ ∀ (i : Nat) x y, ls[i]? = some x → ls'[i]? = some y → x.2 = y.2

theorem c88 {ls ls' : List (Sl Part)} (h : EqL ls ls') (hl : ls.length < 4611686018427387904) (hp : ∀ l ∈ ls, l.2.length < 4611686018427387904) {k k' : LK} {σ : St} {c : Nat} (hc : σ[c]? = some (.arr 0 1 [.func 83 []])) :
    Ret W 88 [.list k (ls.map pvParts), .list k' (ls'.map pvParts), .func 84 [.ptr c 0 0 0]] σ (.bool true) := by
  refine ret_of fun R hR => ?_
  rw [fn88_eq]
  unfold fn88
  simp only [List.length_map, ← h.1, nne, zz, Nat.reduceEqDiff, if_true, if_false, decide_true, decide_false, eq_self]
  refine CutW_of ?_
  refine Lfp_up ls.length (fun i z σ' => z = lookP [(1, .list k' (ls'.map pvParts)), (2, .func 84 [.ptr c 0 0 0]), (15, .list k (ls.map pvParts)), (16, .int .i64 ls.length), (17, .int .i64 i)] ∧ σ' = σ) ?_ ⟨rfl, rfl⟩
  rintro Φ i z σ' hi ⟨rfl, rfl⟩ next
  simp only [zz, Nat.reduceEqDiff, if_true, if_false, decide_true, decide_false, eq_self]
  by_cases hlt : i < ls.length
  · have hgi : ls[i]? = some ls[i] := by simp [hlt]
    have hgj : ls'[i]? = some (ls'[i]'(by rw [← h.1]; exact hlt)) := by simp
    have hm : ls[i] ∈ ls := by simp
    generalize ls[i] = a at hgi hm
    generalize ls'[i]'(by rw [← h.1]; exact hlt) = b at hgj
    have hab := h.2 i a b hgi hgj
    have hb : pvParts b = .list b.1 (a.2.map pvPart) := by rw [hab]; rfl
    have ha : pvParts a = .list a.1 (a.2.map pvPart) := rfl
    simp only [hlt, encParts.index hgi, encParts.index hgj, encParts.part, callG_func hb84, List.cons_append, List.nil_append, List.append_nil, zz, Nat.reduceEqDiff, if_true, if_false, decide_true, decide_false, eq_self]
    rw [ha, hb]
    refine (c84 (hp a hm) hc).callB ?_
    simp only [zz, Nat.reduceEqDiff, if_true, if_false, decide_true, decide_false, eq_self]
    rw [vBin_add _ (by omega) (by omega)]
    exact next _ _ hlt ⟨by simp, rfl⟩
  · simp only [hlt, zz, Nat.reduceEqDiff, if_true, if_false, decide_true, decide_false, eq_self]
    exact weakW_keep hR

structure EqM (m m' : Meta19) : Prop where
  name : m.1 = m'.1
  alts : EqL m.2.2 m'.2.2
  len : m.2.2.length < 4611686018427387904
  mem : ∀ l ∈ m.2.2, l.2.length < 4611686018427387904

structure EqR (r r' : Rule19) : Prop where
  left : r.1.2 = r'.1.2
  llen : r.1.2.length < 4611686018427387904
  right : EqL r.2.2 r'.2.2
  len : r.2.2.length < 4611686018427387904
  mem : ∀ l ∈ r.2.2, l.2.length < 4611686018427387904

theorem c87 {m m' : Meta19} (h : EqM m m') {σ : St} {c d : Nat} (hc : σ[c]? = some (.arr 0 1 [.func 83 []])) (hd : σ[d]? = some (.arr 0 1 [.func 84 [.ptr c 0 0 0]])) : Ret W 87 [pvMeta m, pvMeta m', .ptr d 0 0 0] σ (.bool true) := by
  refine ret_of fun R hR => ?_
  rw [fn87_eq]
  unfold fn87
  have hbox : ∀ m, opC.vBoxAny (pvMeta m) = some (2, pvMeta m) := fun m => rfl
  have p0 : ∀ m, vPart false 1 (pvMeta m) 0 = some (.str m.1) := fun m => rfl
  have p1 : ∀ m, vPart false 1 (pvMeta m) 1 = some (.list m.2.1 (m.2.2.map pvParts)) := fun m => rfl
  have hld : vLoad false 1 (.ptr d 0 0 0) σ = some (.func 84 [.ptr c 0 0 0]) := by simp [vLoad, hd, vPart, PV.cells?]
  have heq : (m.1 == m'.1) = true := by rw [h.name]; simp
  simp only [hbox, p0, p1, hld, heq, zz, Nat.reduceEqDiff, if_true, if_false, decide_true, decide_false, eq_self]
  refine (c88 h.alts h.len h.mem hc).callB ?_
  exact weakW_keep hR

theorem c90 {r r' : Rule19} (h : EqR r r') {σ : St} {c d : Nat} (hc : σ[c]? = some (.arr 0 1 [.func 83 []])) (hd : σ[d]? = some (.arr 0 1 [.func 84 [.ptr c 0 0 0]])) : Ret W 90 [pvRule r, pvRule r', .ptr d 0 0 0] σ (.bool true) := by
  refine ret_of fun R hR => ?_
  rw [fn90_eq]
  unfold fn90
  have hbox : ∀ m, opC.vBoxAny (pvRule m) = some (2, pvRule m) := fun m => rfl
  have p0 : ∀ m, vPart false 1 (pvRule m) 0 = some (.list m.1.1 (m.1.2.map pvPart)) := fun m => rfl
  have p1 : ∀ m, vPart false 1 (pvRule m) 1 = some (.list m.2.1 (m.2.2.map pvParts)) := fun m => rfl
  have hld : vLoad false 1 (.ptr d 0 0 0) σ = some (.func 84 [.ptr c 0 0 0]) := by simp [vLoad, hd, vPart, PV.cells?]
  simp only [hbox, p0, p1, hld, callG_func hb84, List.cons_append, List.nil_append, List.append_nil, zz, Nat.reduceEqDiff, if_true, if_false, decide_true, decide_false, eq_self]
  rw [← h.left]
  refine (c84 h.llen hc).callB ?_
  simp only [hld, zz, Nat.reduceEqDiff, if_true, if_false, decide_true, decide_false, eq_self]
  refine (c88 h.right h.len h.mem hc).callB ?_
  exact weakW_keep hR

theorem c86 {ms ms' : List Meta19} (hlen : ms.length = ms'.length) (h : ∀ (i : Nat) x y, ms[i]? = some x → ms'[i]? = some y → EqM x y) (hl : ms.length < 4611686018427387904) {k k' : LK} {σ : St} {c d : Nat} (hc : σ[c]? = some (.arr 0 1 [.func 83 []])) (hd : σ[d]? = some (.arr 0 1 [.func 84 [.ptr c 0 0 0]])) :
    Ret W 86 [.list k (ms.map pvMeta), .list k' (ms'.map pvMeta), .func 87 [.ptr d 0 0 0]] σ (.bool true) := by
  refine ret_of fun R hR => ?_
  rw [fn86_eq]
  unfold fn86
  simp only [List.length_map, ← hlen, nne, zz, Nat.reduceEqDiff, if_true, if_false, decide_true, decide_false, eq_self]
  refine CutW_of ?_
  refine Lfp_up ms.length (fun i z σ' => z = lookP [(1, .list k' (ms'.map pvMeta)), (2, .func 87 [.ptr d 0 0 0]), (15, .list k (ms.map pvMeta)), (16, .int .i64 ms.length), (17, .int .i64 i)] ∧ σ' = σ) ?_ ⟨rfl, rfl⟩
  rintro Φ i z σ' hi ⟨rfl, rfl⟩ next
  simp only [zz, Nat.reduceEqDiff, if_true, if_false, decide_true, decide_false, eq_self]
  by_cases hlt : i < ms.length
  · have hgi : ms[i]? = some ms[i] := by simp [hlt]
    have hgj : ms'[i]? = some (ms'[i]'(by rw [← hlen]; exact hlt)) := by simp
    generalize ms[i] = a at hgi
    generalize ms'[i]'(by rw [← hlen]; exact hlt) = b at hgj
    have hput : ∀ m, vPut 2 (.agg [.str [], .list .nil []]) 0 (pvMeta m) = some (pvMeta m) := fun m => rfl
    simp only [hlt, encMeta.index hgi, encMeta.index hgj, encMeta.part, hput, callG_func hb87, List.cons_append, List.nil_append, List.append_nil, zz, Nat.reduceEqDiff, if_true, if_false, decide_true, decide_false, eq_self]
    refine (c87 (h i a b hgi hgj) hc hd).callB ?_
    simp only [zz, Nat.reduceEqDiff, if_true, if_false, decide_true, decide_false, eq_self]
    rw [vBin_add _ (by omega) (by omega)]
    exact next _ _ hlt ⟨by simp, rfl⟩
  · simp only [hlt, zz, Nat.reduceEqDiff, if_true, if_false, decide_true, decide_false, eq_self]
    exact weakW_keep hR

theorem c89 {ms ms' : List Rule19} (hlen : ms.length = ms'.length) (h : ∀ (i : Nat) x y, ms[i]? = some x → ms'[i]? = some y → EqR x y) (hl : ms.length < 4611686018427387904) {k k' : LK} {σ : St} {c d : Nat} (hc : σ[c]? = some (.arr 0 1 [.func 83 []])) (hd : σ[d]? = some (.arr 0 1 [.func 84 [.ptr c 0 0 0]])) :
    Ret W 89 [.list k (ms.map pvRule), .list k' (ms'.map pvRule), .func 90 [.ptr d 0 0 0]] σ (.bool true) := by
  refine ret_of fun R hR => ?_
  rw [fn89_eq]
  unfold fn89
  simp only [List.length_map, ← hlen, nne, zz, Nat.reduceEqDiff, if_true, if_false, decide_true, decide_false, eq_self]
  refine CutW_of ?_
  refine Lfp_up ms.length (fun i z σ' => z = lookP [(1, .list k' (ms'.map pvRule)), (2, .func 90 [.ptr d 0 0 0]), (15, .list k (ms.map pvRule)), (16, .int .i64 ms.length), (17, .int .i64 i)] ∧ σ' = σ) ?_ ⟨rfl, rfl⟩
  rintro Φ i z σ' hi ⟨rfl, rfl⟩ next
  simp only [zz, Nat.reduceEqDiff, if_true, if_false, decide_true, decide_false, eq_self]
  by_cases hlt : i < ms.length
  · have hgi : ms[i]? = some ms[i] := by simp [hlt]
    have hgj : ms'[i]? = some (ms'[i]'(by rw [← hlen]; exact hlt)) := by simp
    generalize ms[i] = a at hgi
    generalize ms'[i]'(by rw [← hlen]; exact hlt) = b at hgj
    have hput : ∀ m, vPut 2 (.agg [.list .nil [], .list .nil []]) 0 (pvRule m) = some (pvRule m) := fun m => rfl
    simp only [hlt, encRule.index hgi, encRule.index hgj, encRule.part, hput, callG_func hb90, List.cons_append, List.nil_append, List.append_nil, zz, Nat.reduceEqDiff, if_true, if_false, decide_true, decide_false, eq_self]
    refine (c90 (h i a b hgi hgj) hc hd).callB ?_
    simp only [zz, Nat.reduceEqDiff, if_true, if_false, decide_true, decide_false, eq_self]
    rw [vBin_add _ (by omega) (by omega)]
    exact next _ _ hlt ⟨by simp, rfl⟩
  · simp only [hlt, zz, Nat.reduceEqDiff, if_true, if_false, decide_true, decide_false, eq_self]
    exact weakW_keep hR

/-- Grammars that are the same but for where their slices lie. -/
structure EqG (g g' : Gram) : Prop where
  ml : g.1.2.length = g'.1.2.length
  ms : ∀ (i : Nat) x y, g.1.2[i]? = some x → g'.1.2[i]? = some y → EqM x y
  mb : g.1.2.length < 4611686018427387904
  rl : g.2.2.length = g'.2.2.length
  rs : ∀ (i : Nat) x y, g.2.2[i]? = some x → g'.2.2[i]? = some y → EqR x y
  rb : g.2.2.length < 4611686018427387904

theorem c22 {g g' : Gram} (h : EqG g g') (σ : St) : Ret W 22 [pvGram g, pvGram g'] σ (.bool true) := by
  refine ret_of fun R hR => ?_
  rw [fn22_eq]
  unfold fn22
  have hbox : ∀ g, opC.vBoxAny (pvGram g) = some (2, pvGram g) := fun g => rfl
  have p0 : ∀ g : Gram, vPart false 1 (pvGram g) 0 = some (.list g.1.1 (g.1.2.map pvMeta)) := fun g => rfl
  have p1 : ∀ g : Gram, vPart false 1 (pvGram g) 1 = some (.list g.2.1 (g.2.2.map pvRule)) := fun g => rfl
  simp only [hbox, newW_eq, zz, Nat.reduceEqDiff, if_true, if_false, decide_true, decide_false, eq_self]
  rw [new_store1 rfl (.inr rfl)]
  simp only [newW_eq, zz, Nat.reduceEqDiff, if_true, if_false, decide_true, decide_false, eq_self]
  rw [new_store1 rfl (.inr rfl)]
  simp only [p0, p1, zz, Nat.reduceEqDiff, if_true, if_false, decide_true, decide_false, eq_self]
  have hc : (σ ++ [Blk.arr 0 1 [.func 83 []]] ++ [Blk.arr 0 1 [.func 84 [.ptr σ.length 0 0 0]]])[σ.length]? = some (.arr 0 1 [.func 83 []]) := by
    rw [List.getElem?_append_left (by simp)]
    simp
  have hd : (σ ++ [Blk.arr 0 1 [.func 83 []]] ++ [Blk.arr 0 1 [.func 84 [.ptr σ.length 0 0 0]]])[(σ ++ [Blk.arr 0 1 [PV.func 83 []]]).length]? = some (.arr 0 1 [.func 84 [.ptr σ.length 0 0 0]]) := by simp
  have hp : σ <+: σ ++ [Blk.arr 0 1 [.func 83 []]] ++ [Blk.arr 0 1 [.func 84 [.ptr σ.length 0 0 0]]] := by
    rw [List.append_assoc]
    exact List.prefix_append _ _
  refine (c86 h.ml h.ms h.mb hc hd).callB ?_
  simp only [zz, Nat.reduceEqDiff, if_true, if_false, decide_true, decide_false, eq_self]
  refine (c89 h.rl h.rs h.rb hc hd).callB ?_
  exact weakW_clean hp (.base _ (.bool _)) hR

end Go.Proofs.YtiniifbmeobmgaaGreatDoor
