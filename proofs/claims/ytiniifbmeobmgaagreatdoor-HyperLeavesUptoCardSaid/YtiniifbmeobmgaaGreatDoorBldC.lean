/- slices.Sort and slices.Compact of strings in the machine. -/
import Derived.Test.YtiniifbmeobmgaaGreatDoorBldB
import Derived.Test.YtiniifbmeobmgaaGreatDoorShelfC
set_option linter.unusedVariables false
set_option linter.unusedSimpArgs false
namespace Go.Proofs.YtiniifbmeobmgaaGreatDoor
open Go Go.Abs Go.RowKit Go.Shelf Go.Sort

theorem strs_of : ∀ {l : List PV} {ss : List (List UInt8)}, strs? l = some ss → l = ss.map .str
  | [], ss, h => by simp [strs?] at h; subst h; rfl
  | x :: l, ss, h => by
    unfold strs? at h
    split at h
    · rename_i heq; cases heq
    · rename_i s l' heq
      simp only [List.cons.injEq] at heq
      obtain ⟨rfl, rfl⟩ := heq
      split at h
      · rename_i r hr
        simp only [Option.some.injEq] at h
        subst h
        rw [strs_of hr]
        rfl
      · cases h
    · cases h

/-- What lies in the world for a row of strings. -/
theorem row_world {G : Gh} {N : Base} {σ : St} {w : World} {x : PV} {v : Value} {b g : Nat} {ss : List (List UInt8)} (hI : Inv G N σ w) (r : RelV G x v) (hx : strRow x σ = some (b, g, ss)) :
    ∃ B O n cap cs el, x = .sref b g 1 0 ss.length ∧ σ[b]? = some (.arr g 1 (ss.map .str)) ∧ v = .slice (some ⟨B, O, none⟩) ss.length cap ∧ G.μ b g = some (B, O, 1, n) ∧ N.n ≤ B ∧ w.heap[B]? = some (.cells cs el (0, 0)) ∧ cs.size = n ∧
      ss.length ≤ cap ∧ O + cap ≤ n ∧ TyOk g 1 O n el ∧ ss.length < 4611686018427387904 ∧ ∀ (i : Nat) s, ss[i]? = some s → cs[O + i]? = some (encStr s) := by
  unfold strRow at hx
  split at hx
  · rename_i b' g' z off len
    split at hx
    · rename_i g2 z' xs hb
      split at hx
      · rename_i hh
        obtain ⟨rfl, rfl, rfl, rfl, rfl, hlt⟩ := hh
        cases hs : strs? xs with
        | none => rw [hs] at hx; cases hx
        | some ss' =>
          rw [hs] at hx
          simp only [Option.map_some, Option.some.injEq, Prod.mk.injEq] at hx
          obtain ⟨rfl, rfl, rfl⟩ := hx
          have hxs := strs_of hs
          subst hxs
          obtain ⟨B, O, n, cs, el, hm, hN, hh, hn, hle, ⟨hz, hty⟩, vs, hrel, hcell⟩ := hI.blk _ _ hb
          cases r with
          | sref _ _ _ _ _ B' O' n' cap hm' hcap hfit =>
            rw [hm] at hm'
            simp only [Option.some.injEq, Prod.mk.injEq] at hm'
            obtain ⟨rfl, rfl, _, rfl⟩ := hm'
            simp only [List.length_map] at hcap hlt
            refine ⟨B, O, n, cap, cs, el, by simp, hb, by simp, hm, hN, hh, hn, hcap, by omega, hty, hlt, fun i s hi => ?_⟩
            have hil : i < ss'.length := (List.getElem?_eq_some_iff.1 hi).1
            have hv := hrel i (.str s) (by rw [List.getElem?_map, hi]; rfl)
            obtain ⟨q1, q2⟩ := hcell i (by simpa using hil)
            have hvs : vs i = .string ⟨⟨s⟩⟩ := by
              generalize vs i = u at hv
              cases hv
              rfl
            have := (q2 0 (.string ⟨⟨s⟩⟩) (by rw [hvs]; rfl)).2
            simpa using this
      · cases hx
    · cases hx
  · cases hx

/-- Other strings in the row. -/
theorem put_sound {G : Gh} {N : Base} {σ : St} {w w' : World} {b g B O n : Nat} {cs : Array Value} {el : TypeId} {xs : List PV} {ds : List (List UInt8)} (hI : Inv G N σ w) (hb : σ[b]? = some (.arr g 1 xs)) (hm : G.μ b g = some (B, O, 1, n)) (hN : N.n ≤ B)
    (hh : w.heap[B]? = some (.cells cs el (0, 0))) (hn : cs.size = n) (hO : O + ds.length ≤ n) (hty : TyOk g 1 O n el) {q : Nat} {os : Array Obj} (hw : w' = grow (putRow encStr (Sort.ahead w q) B O ds.toArray) os) :
    Inv G N (σ.set b (.arr g 1 (ds.map .str))) w' ∧ Ext G σ w G (σ.set b (.arr g 1 (ds.map .str))) w' := by
  subst hw
  have hsz : (grow (putRow encStr (Sort.ahead w q) B O ds.toArray) os).heap.size = w.heap.size + os.size := by
    show ((putRow encStr (Sort.ahead w q) B O ds.toArray).heap ++ os).size = _
    rw [Array.size_append, size_putRow]
    rfl
  have hBl : B < w.heap.size := (Array.getElem?_eq_some_iff.1 hh).1
  have hget : ∀ k, k < w.heap.size → (grow (putRow encStr (Sort.ahead w q) B O ds.toArray) os).heap[k]? = if B = k then w.heap[k]?.map (onCells (putCells encStr O ds.toArray)) else w.heap[k]? := by
    intro k hk
    show ((putRow encStr (Sort.ahead w q) B O ds.toArray).heap ++ os)[k]? = _
    rw [Array.getElem?_append_left (by rw [size_putRow]; exact hk)]
    show (w.heap.modify B (onCells (putCells encStr O ds.toArray)))[k]? = _
    rw [Array.getElem?_modify]
  have hnew : (grow (putRow encStr (Sort.ahead w q) B O ds.toArray) os).heap[B]? = some (.cells (putCells encStr O ds.toArray cs) el (0, 0)) := by
    rw [hget B hBl, if_pos rfl, hh]
    rfl
  refine repl_sound (G' := G) (g' := g) (z' := 1) (B' := B) (O' := O) (n' := n) hI hb (by simp [baseOf, hm]) (.refl G) rfl rfl (fun _ _ _ => rfl) hm (fun h hlt => hI.gen b g 1 _ hb h hlt) (.inl rfl)
    (fun k hk hne => by rw [hget k hk, if_neg (Ne.symm hne)]) rfl rfl rfl (by rw [hsz]; omega) ?_
  refine ⟨B, O, n, _, el, hm, hN, hnew, by simp [putCells, hn], by simpa using hO, ⟨by decide, hty⟩, fun i => encStr (ds.getD i []), fun i x hx => ?_, fun i hi => ?_⟩
  · rw [List.getElem?_map, Option.map_eq_some_iff] at hx
    obtain ⟨s, hs, rfl⟩ := hx
    have : ds.getD i [] = s := by simp [List.getD_eq_getElem?_getD, hs]
    show RelV G (.str s) (encStr (ds.getD i []))
    rw [this]
    exact .str ⟨⟨s⟩⟩
  · have hil : i < ds.length := by simpa using hi
    refine ⟨rfl, fun j v hj => ?_⟩
    cases j with
    | succ j => simp [Value.cells] at hj
    | zero =>
      simp [Value.cells] at hj
      subst hj
      refine ⟨rfl, ?_⟩
      have hlt : O + i < cs.size := by omega
      simp only [putCells, Nat.mul_one, Nat.add_zero, Array.getElem?_mapIdx]
      have hc : cs[O + i]? = some cs[O + i] := by simp [hlt]
      rw [hc]
      simp only [Option.map_some, Option.some.injEq]
      rw [if_pos ⟨by omega, by simp; omega⟩]
      have : O + i - O = i := by omega
      rw [this]
      have hd : ds[i]? = some ds[i] := by simp [hil]
      simp [List.getD_eq_getElem?_getD, hil]

theorem holds_of {w : World} {B O : Nat} {cs : Array Value} {el : TypeId} {ss : List (List UInt8)} (hh : w.heap[B]? = some (.cells cs el (0, 0))) (h : ∀ (i : Nat) s, ss[i]? = some s → cs[O + i]? = some (encStr s)) : Holds encStr w B O ss.toArray := by
  intro j hj
  have hj' : j < ss.length := by simpa using hj
  refine ⟨?_, by simp [World.frozen?, hh]⟩
  rw [Lib.cell_of_heap hh, h j ss[j] (by simp [hj'])]
  simp [hj']

theorem ext_sort {N : Base} {args : List PV} {σ : St} {r : PV × St} (hr : extSort args σ = some r) {G : Gh} {w : World} {vs : Array Value} (hI : Inv G N σ w) (hl : args.length = vs.size)
    (ha : ∀ (i : Nat) (x : PV) (v : Value), args[i]? = some x → vs[i]? = some v → RelV G x v) :
    Calls Tryz.prog 207 vs w fun e w' => ∃ G' v, Inv G' N r.2 w' ∧ Ext G σ w G' r.2 w' ∧ RelV G' r.1 v ∧ e = .returned v := by
  have htup : RelV G (.tuple []) (.tuple #[]) := .tuple [] #[] rfl (fun i x v hx => by simp at hx)
  unfold extSort at hr
  split at hr
  · simp only [Option.some.injEq] at hr
    subst hr
    obtain ⟨v, rfl, rv⟩ := one_arg hl ha
    have hv : v = .slice none 0 0 := by
      cases rv with
      | nillist => rfl
      | list k xs B O z cap vs h1 => exact absurd rfl h1
    subst hv
    refine (Any.slices_Sort_string_none Tryz.lays190 none 0 w).mono ?_
    rintro e w' ⟨rfl, rfl⟩
    exact ⟨G, _, hI, .refl _ _ _, htup, rfl⟩
  · rename_i x hx
    obtain ⟨v, rfl, rv⟩ := one_arg hl ha
    split at hr
    · rename_i b g ss hrow
      simp only [Option.some.injEq] at hr
      subst hr
      obtain ⟨B, O, n, cap, cs, el, rfl, hb, rfl, hm, hN, hh, hn, hcap, hO, hty, hlt, hcell⟩ := row_world hI rv hrow
      refine (Any.slices_Sort_string Tryz.lays190 B O cap ss w (holds_of hh hcell) (Array.getElem?_eq_some_iff.1 hh).1 hlt).mono ?_
      rintro e w' ⟨rfl, q, os, hw⟩
      obtain ⟨i1, i2⟩ := put_sound (ds := sortS ss) hI hb hm hN hh hn (by simp [sortS]; omega) hty hw
      exact ⟨G, _, i1, i2, htup, rfl⟩
    · cases hr
  · cases hr

theorem compact_le (ss : List (List UInt8)) : (Lib.compact ss).length ≤ ss.length := by
  unfold Lib.compact Lib.compactUpTo
  rw [List.length_map]
  have := List.length_filter_le (Lib.keeps ss.toArray) (List.range ss.length)
  simpa using this

theorem ext_compact {N : Base} {args : List PV} {σ : St} {r : PV × St} (hr : extCompact args σ = some r) {G : Gh} {w : World} {vs : Array Value} (hI : Inv G N σ w) (hl : args.length = vs.size)
    (ha : ∀ (i : Nat) (x : PV) (v : Value), args[i]? = some x → vs[i]? = some v → RelV G x v) :
    Calls Tryz.prog 208 vs w fun e w' => ∃ G' v, Inv G' N r.2 w' ∧ Ext G σ w G' r.2 w' ∧ RelV G' r.1 v ∧ e = .returned v := by
  unfold extCompact at hr
  split at hr
  · simp only [Option.some.injEq] at hr
    subst hr
    obtain ⟨v, rfl, rv⟩ := one_arg hl ha
    have hv : v = .slice none 0 0 := by
      cases rv with
      | nillist => rfl
      | list k xs B O z cap vs h1 => exact absurd rfl h1
    subst hv
    refine (Any.slices_Compact_string_empty Tryz.lays194 none 0 w).mono ?_
    rintro e w' ⟨rfl, rfl⟩
    exact ⟨G, _, hI, .refl _ _ _, .nillist, rfl⟩
  · rename_i x hx
    obtain ⟨v, rfl, rv⟩ := one_arg hl ha
    split at hr
    · rename_i b g ss hrow
      simp only [Option.some.injEq] at hr
      subst hr
      obtain ⟨B, O, n, cap, cs, el, rfl, hb, rfl, hm, hN, hh, hn, hcap, hO, hty, hlt, hcell⟩ := row_world hI rv hrow
      have hcl := compact_le ss
      refine (Any.slices_Compact_string Tryz.lays194 B O cap ss w (holds_of hh hcell) (by omega) hcap).mono ?_
      rintro e w' ⟨rfl, q, hw⟩
      obtain ⟨i1, i2⟩ := put_sound (w' := w') (q := q) (os := #[]) (ds := Lib.compact ss ++ List.replicate (ss.length - (Lib.compact ss).length) []) hI hb hm hN hh hn (by rw [List.length_append, List.length_replicate]; omega) hty (by rw [grow_empty]; exact hw)
      refine ⟨G, _, i1, i2, ?_, rfl⟩
      have := RelV.sref (G := G) b g 1 0 (Lib.compact ss).length B O n cap hm (by omega) (by omega)
      simpa using this
    · cases hr
  · cases hr

end Go.Proofs.YtiniifbmeobmgaaGreatDoor
