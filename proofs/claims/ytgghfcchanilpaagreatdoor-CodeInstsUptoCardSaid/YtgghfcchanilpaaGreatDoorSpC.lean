/- Names, forms and the finding of operations: both sides; the examples' run. -/
import Derived.Test.YtgghfcchanilpaaGreatDoorSpB
import Derived.Test.YtgghfcchanilpaaGreatDoorAbsAwake
set_option linter.unusedVariables false
set_option linter.unusedSimpArgs false
namespace Go.Proofs.YtgghfcchanilpaaGreatDoor
open Go Go.Abs

theorem c12 : Ret W 12 [] [] (.bool true) := fun R hR => by
  refine callW_of_reckoned (R' := R) (fun r σ hr => ?_) awakeB
  split at hr
  · rw [beqS_sound _ _ hr]
    exact hR
  · cases hr

theorem known_iff {n : Int} : knownS n = true ↔ 0 ≤ n ∧ n < 40 := by simp [knownS]

theorem arrOff {n : Int} (h : knownS n = true) : vArrOff 2 40 (.int .i64 n) = some (n.toNat * 2) := by
  have := known_iff.1 h
  simp only [vArrOff]
  rw [if_pos (by omega)]

theorem ops_name {n : Int} (h : knownS n = true) : opsPV[n.toNat * 2]? = some (.str (entryS n).1) ∧ opsPV[n.toNat * 2 + 1]? = some (.str (entryS n).2) := by
  have h' := known_iff.1 h
  have := ops_at ⟨n.toNat, by omega⟩
  simp only [Int.toNat_of_nonneg h'.1] at this
  rw [Nat.mul_comm]
  exact this

theorem c15 (n : Int) (σ : St) : Ret W 15 [.int .i64 n] σ (.str (nameS n)) := by
  refine ret_of fun R hR => ?_
  rw [fn15_eq]
  unfold fn15
  refine (c39 n _).callB ?_
  unfold nameS at hR
  cases h : knownS n with
  | true =>
    rw [h] at hR
    simp only [arrOff h, globPV0, (ops_name h).1, zz, Nat.reduceEqDiff]
    exact weakW_keep hR
  | false =>
    rw [h] at hR
    simp only [zz, Nat.reduceEqDiff]
    exact weakW_keep hR

theorem c17 (n : Int) (σ : St) : Ret W 17 [.int .i64 n] σ (.str (formS n)) := by
  refine ret_of fun R hR => ?_
  rw [fn17_eq]
  unfold fn17
  refine (c39 n _).callB ?_
  unfold formS at hR
  cases h : knownS n with
  | true =>
    rw [h] at hR
    simp only [arrOff h, globPV0, (ops_name h).2, zz, Nat.reduceEqDiff]
    exact weakW_keep hR
  | false =>
    rw [h] at hR
    simp only [zz, Nat.reduceEqDiff]
    exact weakW_keep hR

theorem ent_at {n : Int} (h : knownS n = true) {k : LK} {q : IntKind} : vIndex 2 (.list k (opTab.map entPV)) (.int q n) = some (.eptr (entPV (entryS n)) 0) := by
  have h' := known_iff.1 h
  have e1 : opTab[n.toNat]? = some (entryS n) := by
    unfold entryS
    rw [List.getD_eq_getElem?_getD, List.getElem?_eq_getElem (by rw [opTab_length]; omega), Option.getD_some]
  have := vIndex_list (lk := k) q (xs := opTab.map entPV) (sz := 2) (i := n.toNat) (e := entPV (entryS n)) (by rw [List.getElem?_map, e1]; rfl) (cs := _) rfl rfl
  rw [Int.toNat_of_nonneg h'.1] at this
  exact this

theorem not_known {n : Int} : (decide (n < 0) || decide (n ≥ 40)) = !knownS n := by
  unfold knownS
  by_cases h0 : n < 0
  · have : ¬ 0 ≤ n := by omega
    simp [h0, this]
  · have h1 : 0 ≤ n := by omega
    by_cases h2 : n ≥ 40
    · have : ¬ n < 40 := by omega
      simp [h0, h1, h2, this]
    · have : n < 40 := by omega
      simp [h0, h1, h2, this]

theorem c16 (n : Int) (σ : St) : Ret W 16 [.int .i64 n] σ (.str (nameS n)) := by
  refine ret_of fun R hR => ?_
  rw [fn16_eq]
  unfold fn16
  unfold nameS at hR
  have hk := not_known (n := n)
  simp only [zz, Nat.reduceEqDiff]
  cases h0 : decide (n < 0) with
  | true =>
    rw [h0] at hk
    have hk' : knownS n = false := by simpa using hk
    rw [hk'] at hR
    simp only [zz, Nat.reduceEqDiff]
    exact weakW_keep hR
  | false =>
    rw [h0] at hk
    simp only [zz, Nat.reduceEqDiff]
    cases h1 : decide (n ≥ 40) with
    | true =>
      rw [h1] at hk
      have hk' : knownS n = false := by simpa using hk
      rw [hk'] at hR
      simp only [zz, Nat.reduceEqDiff]
      exact weakW_keep hR
    | false =>
      rw [h1] at hk
      have hk' : knownS n = true := by simpa using hk
      rw [hk'] at hR
      simp only [zz, Nat.reduceEqDiff]
      refine (c38 _).callB ?_
      simp only [ent_at hk', entPV, zz, Nat.reduceEqDiff]
      exact weakW_keep hR

theorem c18 (n : Int) (σ : St) : Ret W 18 [.int .i64 n] σ (.str (formS n)) := by
  refine ret_of fun R hR => ?_
  rw [fn18_eq]
  unfold fn18
  unfold formS at hR
  have hk := not_known (n := n)
  simp only [zz, Nat.reduceEqDiff]
  cases h0 : decide (n < 0) with
  | true =>
    rw [h0] at hk
    have hk' : knownS n = false := by simpa using hk
    rw [hk'] at hR
    simp only [zz, Nat.reduceEqDiff]
    exact weakW_keep hR
  | false =>
    rw [h0] at hk
    simp only [zz, Nat.reduceEqDiff]
    cases h1 : decide (n ≥ 40) with
    | true =>
      rw [h1] at hk
      have hk' : knownS n = false := by simpa using hk
      rw [hk'] at hR
      simp only [zz, Nat.reduceEqDiff]
      exact weakW_keep hR
    | false =>
      rw [h1] at hk
      have hk' : knownS n = true := by simpa using hk
      rw [hk'] at hR
      simp only [zz, Nat.reduceEqDiff]
      refine (c38 _).callB ?_
      simp only [ent_at hk', entPV, zz, Nat.reduceEqDiff]
      exact weakW_keep hR

theorem encEnt : EncOk entPV true 2 := ⟨fun _ => ⟨_, rfl, rfl⟩, fun _ => rfl⟩

/-- What finding gives: the operation, and whether there is one. -/
def findV (s : Str) : PV := .tuple [.int .i64 ((findS s).getD 0 : Nat), .bool (findS s).isSome]

theorem c37 {p : Str × Str} {s : Str} {a : PV} {σ : St} (ha : vLoad false 1 a σ = some (.str s)) : Ret W 37 [entPV p, a] σ (.bool (p.1 == s)) := by
  refine ret_of fun R hR => ?_
  rw [fn37_eq]
  unfold fn37
  have hbox : opC.vBoxAny (entPV p) = some (2, entPV p) := rfl
  have e0 : vPart false 1 (entPV p) 0 = some (.str p.1) := rfl
  simp only [hbox, e0, ha, zz, Nat.reduceEqDiff]
  exact weakW_keep hR

theorem load_new (σ : St) (g : Nat) (x : PV) (z : List UInt8) (h : x = .str z) : vLoad false 1 (.ptr σ.length g 0 0) (σ ++ [.arr g 1 [x]]) = some (.str z) := by
  subst h
  simp [vLoad, vPart, PV.cells?]

theorem frz_same {σ : St} {n : Nat} {v : PV} (h : Under n v) : Frz σ n v v := .base v h

theorem c13 (s : Str) (σ : St) : Ret W 13 [.str s] σ (findV s) := by
  refine ret_of fun R hR => ?_
  rw [fn13_eq]
  unfold fn13
  have hbox : opC.vBoxAny (.str s) = some (1, .str s) := rfl
  simp only [hbox, globPV0, ops_sub, newW_eq, Nat.lt_irrefl, zz, Nat.reduceEqDiff]
  rw [if_pos (by omega)]
  refine (c36 encEnt (fun p => p.1 == s) (by kernel_rfl) (by rw [opTab_length]; omega) (fun p _ => c37 (load_new _ _ _ _ rfl))).callB ?_
  have hf := idxOf_find (p := fun p : Str × Str => p.1 == s) opTab 0
  have hm : vMax (.int .i64 (idxOf (fun p : Str × Str => p.1 == s) opTab 0)) (.int .i64 0) = some (.int .i64 ((findS s).getD 0 : Nat)) := by
    rw [hf]
    unfold findS
    cases opTab.findIdx? (fun p : Str × Str => p.1 == s) with
    | none => rfl
    | some i =>
      simp only [vMax, if_true]
      by_cases h : ((0 + i : Nat) : Int) < 0
      · omega
      · rw [if_neg h]
        simp
  have hd : decide (idxOf (fun p : Str × Str => p.1 == s) opTab 0 ≥ 0) = (findS s).isSome := by
    rw [hf]
    unfold findS
    cases opTab.findIdx? (fun p : Str × Str => p.1 == s) with
    | none => rfl
    | some i => simp
  simp only [hm, hd, zz, Nat.reduceEqDiff]
  refine weakW_clean (List.prefix_append _ _) (frz_same ?_) hR
  refine .tuple _ fun i x hx => ?_
  match i with
  | 0 => simp at hx; subst hx; exact .int _ _
  | 1 => simp at hx; subst hx; exact .bool _
  | i + 2 => simp at hx

theorem find_none_take {s : Str} {i : Nat} {p : Str × Str} (h : (opTab.take i).all (fun p => !(p.1 == s)) = true) (hi : opTab[i]? = some p) (hp : (p.1 == s) = true) : findS s = some i := by
  have hil := (List.getElem?_eq_some_iff.1 hi).1
  refine List.findIdx?_eq_some_iff_getElem.2 ⟨hil, ?_, fun j hj => ?_⟩
  · rw [(List.getElem?_eq_some_iff.1 hi).2]
    exact hp
  · have := List.all_eq_true.1 h opTab[j] (by
      refine List.mem_of_getElem? (i := j) ?_
      rw [List.getElem?_take, if_pos hj, List.getElem?_eq_getElem (by omega)])
    simpa using this

theorem c14 (s : Str) (σ : St) : Ret W 14 [.str s] σ (findV s) := by
  refine ret_of fun R hR => ?_
  rw [fn14_eq]
  unfold fn14
  refine (c38 _).callB ?_
  refine CutW_of ?_
  simp only [zz, Nat.reduceEqDiff]
  have hL := opTab_length
  generalize hE : opTab = E at hL
  refine Lfp_up E.length (fun i x σ' => x = lookP [(0, .str s), (4, .list .full (E.map entPV)), (5, .int .i64 i)] ∧ σ' = σ ∧ (E.take i).all (fun p => !(p.1 == s)) = true) ?_ ⟨rfl, rfl, rfl⟩
  rintro Φ i x σ' hi ⟨rfl, rfl, hp⟩ next
  simp only [List.length_map, zz, Nat.reduceEqDiff]
  by_cases hlt : i < E.length
  · have hc : E[i]? = some E[i] := by simp [hlt]
    generalize E[i] = p at hc
    simp only [hlt, encEnt.index hc, zz, Nat.reduceEqDiff]
    simp only [entPV, zz, Nat.reduceEqDiff]
    cases h : (p.1 == s) with
    | true =>
      simp only [zz, Nat.reduceEqDiff]
      refine weakW_keep ?_
      subst hE
      have := find_none_take hp hc h
      unfold findV at hR
      rw [this] at hR
      exact hR
    | false =>
      simp only [zz, Nat.reduceEqDiff]
      rw [vBin_add _ (by omega) (by omega)]
      simp only [zz, Nat.reduceEqDiff]
      exact next _ _ hlt ⟨by simp, rfl, all_take_succ hp hc (by simp [h])⟩
  · obtain rfl : i = E.length := by omega
    rw [List.take_length] at hp
    simp only [hlt, zz, Nat.reduceEqDiff]
    refine weakW_keep ?_
    subst hE
    have : findS s = none := by
      refine List.findIdx?_eq_none_iff.2 fun p hp' => ?_
      simpa using List.all_eq_true.1 hp p hp'
    unfold findV at hR
    rw [this] at hR
    exact hR

theorem c3 {s : Str} (n : Int) : Ret W 3 [.int .i64 n, .str s] [] (.bool true) := by
  refine ret_of fun R hR => ?_
  rw [fn3_eq]
  unfold fn3
  refine c12.callB ?_
  simp only [zz, Nat.reduceEqDiff]
  cases h : decide ((s.length : Int) > 100) with
  | true =>
    simp only [zz, Nat.reduceEqDiff]
    refine c12.callB ?_
    exact weakW_keep hR
  | false =>
    simp only [zz, Nat.reduceEqDiff]
    refine (c13 s _).callB ?_
    simp only [findV, zz, Nat.reduceEqDiff]
    refine (c14 s _).callB ?_
    simp only [findV, zz, Nat.reduceEqDiff]
    refine (c15 n _).callB ?_
    refine (c16 n _).callB ?_
    simp only [BEq.rfl, zz, Nat.reduceEqDiff]
    refine (c17 n _).callB ?_
    refine (c18 n _).callB ?_
    simp only [BEq.rfl, vBin_eql_bool, zz, Nat.reduceEqDiff]
    exact weakW_keep hR

end Go.Proofs.YtgghfcchanilpaaGreatDoor
