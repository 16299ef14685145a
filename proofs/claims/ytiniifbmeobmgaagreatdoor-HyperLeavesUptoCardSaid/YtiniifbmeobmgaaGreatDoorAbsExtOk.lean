/- The functions of the library that are taken as known do what is said of them: by the kit's contracts. -/
import Derived.Below
import Derived.Test.YtiniifbmeobmgaaGreatDoorAnn
import Derived.Test.YtiniifbmeobmgaaGreatDoorAbsE
import Derived.Test.YtiniifbmeobmgaaGreatDoorShelf
import Derived.Test.YtiniifbmeobmgaaGreatDoorBldB
import Derived.Test.YtiniifbmeobmgaaGreatDoorBldC
import Derived.Test.YtiniifbmeobmgaaGreatDoorShelfB
set_option linter.unusedVariables false
set_option linter.unusedSimpArgs false
namespace Go.Proofs.YtiniifbmeobmgaaGreatDoor
open Go Go.Abs

theorem two_args {G : Gh} {x y : PV} {vs : Array Value} (hl : [x, y].length = vs.size) (hr : ∀ (i : Nat) (z : PV) (v : Value), [x, y][i]? = some z → vs[i]? = some v → RelV G z v) :
    ∃ v0 v1, vs = #[v0, v1] ∧ RelV G x v0 ∧ RelV G y v1 := by
  obtain ⟨l⟩ := vs
  match l, hl with
  | [v0, v1], _ => exact ⟨v0, v1, rfl, hr 0 x v0 rfl rfl, hr 1 y v1 rfl rfl⟩

theorem str_eq {G : Gh} {l : List UInt8} {v : Value} (r : RelV G (.str l) v) : v = .string ⟨⟨l⟩⟩ := by
  cases r
  rfl

/-- What a list of strings stands for. -/
theorem strs_some : ∀ {l : List PV} {ss : List (List UInt8)}, strs? l = some ss → l = ss.map .str
  | [], ss, h => by simp [strs?] at h; subst h; rfl
  | .str s :: l, ss, h => by
    simp only [strs?] at h
    cases hr : strs? l with
    | none => simp [hr] at h
    | some r =>
      simp [hr] at h
      subst h
      rw [strs_some hr]
      rfl
  | .any :: l, ss, h => by simp [strs?] at h
  | .bool _ :: l, ss, h => by simp [strs?] at h
  | .int _ _ :: l, ss, h => by simp [strs?] at h
  | .nilptr :: l, ss, h => by simp [strs?] at h
  | .ptr .. :: l, ss, h => by simp [strs?] at h
  | .eptr .. :: l, ss, h => by simp [strs?] at h
  | .list .. :: l, ss, h => by simp [strs?] at h
  | .sref .. :: l, ss, h => by simp [strs?] at h
  | .nilmap :: l, ss, h => by simp [strs?] at h
  | .mref _ :: l, ss, h => by simp [strs?] at h
  | .func .. :: l, ss, h => by simp [strs?] at h
  | .nilfunc :: l, ss, h => by simp [strs?] at h
  | .iface .. :: l, ss, h => by simp [strs?] at h
  | .nilIface :: l, ss, h => by simp [strs?] at h
  | .agg _ :: l, ss, h => by simp [strs?] at h
  | .tuple _ :: l, ss, h => by simp [strs?] at h

/-- Strings that lie side by side: from both kinds of slices. -/
theorem strs_cells {G : Gh} {N : Base} {σ : St} {w : World} {x : PV} {l : List PV} {ss : List (List UInt8)} {v : Value} (hI : Inv G N σ w) (r : RelV G x v) (hl : listOf x σ = some l) (hs : strs? l = some ss) :
    (ss = [] ∧ ∃ a c, v = .slice a 0 c) ∨ ∃ B O c, v = .slice (some ⟨B, O, none⟩) ss.length c ∧ ss.length ≤ c ∧ B < w.heap.size ∧ ∀ (j : Nat) (s : List UInt8), ss[j]? = some s → w.cell? ⟨B, O + j, none⟩ = some (.string ⟨⟨s⟩⟩) := by
  have hls := strs_some hs
  have one : ∀ {B O : Nat} {s : List UInt8} {u : Value}, RelV G (.str s) u → (∀ j v', u.cells[j]? = some v' → w.cell? ⟨B, O + j, none⟩ = some v') → w.cell? ⟨B, O, none⟩ = some (.string ⟨⟨s⟩⟩) := by
    intro B O s u ru hu
    rw [(str_eq ru)] at hu
    exact hu 0 _ rfl
  cases x with
  | list k xs =>
    simp only [listOf, Option.some.injEq] at hl
    subst hl
    cases r with
    | nillist =>
      simp [strs?] at hs
      exact .inl ⟨by simpa using hs, _, _, rfl⟩
    | emptyl a c =>
      simp [strs?] at hs
      exact .inl ⟨by simpa using hs, _, _, rfl⟩
    | list _ _ B O z cap vs h1 h2 h3 h4 h5 =>
      cases ss with
      | nil =>
        simp at hls
        subst hls
        exact .inl ⟨rfl, _, _, rfl⟩
      | cons s0 sr =>
        subst hls
        have hlen : ((s0 :: sr).map PV.str).length = (s0 :: sr).length := by simp
        have hz : z = 1 := by
          obtain ⟨q1, q2⟩ := h5 0 (by simp)
          have := h4 0 (.str s0) rfl
          rw [(str_eq this)] at q1
          exact q1.symm
        subst hz
        refine .inr ⟨B, O, cap, by rw [hlen], by rw [← hlen]; exact h3, ?_, fun j s hj => ?_⟩
        · obtain ⟨q1, q2⟩ := h5 0 (by simp)
          have h40 := h4 0 (.str s0) rfl
          rw [(str_eq h40)] at q2
          have := hI.imm _ _ _ (q2 0 _ rfl).2
          rcases Nat.lt_or_ge B w.heap.size with h | h
          · exact h
          · simp [World.cell?, Array.getElem?_eq_none h] at this
        · have hjl : j < (s0 :: sr).length := (List.getElem?_eq_some_iff.1 hj).1
          obtain ⟨q1, q2⟩ := h5 j (by simpa using hjl)
          refine one (h4 j (.str s) (by rw [List.getElem?_map, hj]; rfl)) fun i v' hv => ?_
          have := hI.imm _ _ _ (q2 i v' hv).2
          rw [Nat.mul_one] at this
          exact this
  | sref b g z off len =>
    simp only [listOf] at hl
    split at hl
    · rename_i hz
      subst hz
      simp only [vElems] at hl
      split at hl
      · rename_i g' z' xs hb
        split at hl
        · rename_i hh
          obtain ⟨rfl, hfit⟩ := hh
          simp only [Option.some.injEq] at hl
          cases r with | sref _ _ _ _ _ B O n cap hμ hcap hsz =>
          obtain ⟨B', O', n', cs, el, hm', hN, hheap, hn, hxsz, hpos, vs, hrel, hcell⟩ := hI.blk b _ hb
          rw [hμ] at hm'
          simp only [Option.some.injEq, Prod.mk.injEq] at hm'
          obtain ⟨rfl, rfl, rfl, rfl⟩ := hm'
          have hlen : ss.length = len := by
            have := congrArg List.length hl
            rw [hls] at this
            simp at this
            omega
          cases ss with
          | nil =>
            simp at hlen
            subst hlen
            exact .inl ⟨rfl, _, _, rfl⟩
          | cons s0 sr =>
            rw [← hlen]
            refine .inr ⟨B, O + off * 1, cap, rfl, by omega, (Array.getElem?_eq_some_iff.1 hheap).1, fun j s hj => ?_⟩
            have hjl : j < (s0 :: sr).length := (List.getElem?_eq_some_iff.1 hj).1
            have hx : xs[off + j]? = some (.str s) := by
              have : ((xs.drop off).take len)[j]? = some (.str s) := by
                rw [hl, hls, List.getElem?_map, hj]
                rfl
              rw [List.getElem?_take] at this
              split at this
              · rw [List.getElem?_drop] at this; exact this
              · cases this
            obtain ⟨q1, q2⟩ := hcell (off + j) (by omega)
            rw [show O + off * 1 + j = O + (off + j) * 1 by omega]
            refine one (hrel _ _ hx) fun i v' hv => ?_
            simp only [World.cell?, hheap]
            exact (q2 i v' hv).2
        · cases hl
      · cases hl
    · cases hl
  | _ => simp [listOf] at hl

theorem extOk (N : Base) (hpos : 0 < N.n) (hN : ∃ (m : Int) (cs : Array Value) (el : TypeId) (fz : Nat × Nat), N.old 0 = some (.cells cs el fz) ∧ cs[0]? = some (.int .i64 m)) : ExtOk Tryz.prog N annF := by
  intro f g hg args σ r hr G w vs hI hl ha
  have hg : extF f = some g := hg
  unfold extF at hg
  by_cases h1 : f = 98
  · subst h1
    obtain rfl : extJoin = g := Option.some.inj hg
    unfold extJoin at hr
    split at hr
    · rename_i l sep
      obtain ⟨v0, v1, rfl, r0, r1⟩ := two_args hl ha
      rw [(str_eq r1)]
      split at hr
      · rename_i l' hl'
        split at hr
        · rename_i ss hss
          split at hr
          · rename_i hb
            simp only [Option.some.injEq] at hr
            subst hr
            rcases strs_cells hI r0 hl' hss with ⟨rfl, a, c, rfl⟩ | ⟨B, O, c, rfl, hc, hB, hcells⟩
            · refine (Tryz.strings_Join_none a c _ w).mono ?_
              rintro e w' ⟨rfl, rfl⟩
              exact ⟨G, _, hI, .refl _ _ _, RelV.str ⟨#[]⟩, rfl⟩
            · have hmap : (ss.map fun s => (⟨⟨s⟩⟩ : ByteArray)).map (·.data.toList) = ss := by
                rw [List.map_map]
                exact List.map_id _
              have hjoin : Go.Lib.join ((ss.map fun s => (⟨⟨s⟩⟩ : ByteArray)).map (·.data.toList)) (⟨⟨sep⟩⟩ : ByteArray).data.toList = joinB sep ss := by
                rw [hmap, joinB_eq]
              have := Tryz.strings_Join B O c (ss.map fun s => (⟨⟨s⟩⟩ : ByteArray)) ⟨⟨sep⟩⟩ w (fun j x hx => by
                rw [List.getElem?_map, Option.map_eq_some_iff] at hx
                obtain ⟨s, hs, rfl⟩ := hx
                exact hcells j s hs) hB (by simpa using hb.1) (by simpa using hc) (by rw [hjoin]; exact hb.2)
              rw [List.length_map] at this
              refine this.mono ?_
              rintro e w' ⟨rfl, hbel⟩
              obtain ⟨i1, i2⟩ := inv_below hI hbel
              refine ⟨G, _, i1, i2, ?_, rfl⟩
              rw [hjoin]
              exact RelV.str ⟨(joinB sep ss).toArray⟩
          · cases hr
        · cases hr
      · cases hr
    · cases hr
  · by_cases h2 : f = 131
    · subst h2
      obtain rfl : extSplit = g := Option.some.inj hg
      unfold extSplit at hr
      split at hr
      · rename_i s c
        split at hr
        · rename_i hlen
          simp only [Option.some.injEq] at hr
          subst hr
          obtain ⟨v0, v1, rfl, r0, r1⟩ := two_args hl ha
          rw [(str_eq r0), (str_eq r1)]
          obtain ⟨m, cs, el, fz, hm, hcs⟩ := hN
          have h0 := (hI.old 0 hpos).trans hm
          refine (Tryz.strings_Split ⟨⟨s⟩⟩ ⟨⟨[c]⟩⟩ m w hlen (by simp [World.cell?, h0, hcs]) (Nat.le_refl 1)).mono ?_
          rintro e w' ⟨rfl, rfl⟩
          have hdata := Go.Lib.splitB_data ⟨⟨[c]⟩⟩ 0 (Go.Lib.countB ⟨⟨s⟩⟩ ⟨⟨[c]⟩⟩) ⟨⟨s⟩⟩
          have hsp : (Go.Lib.splitB ⟨⟨[c]⟩⟩ 0 (Go.Lib.countB ⟨⟨s⟩⟩ ⟨⟨[c]⟩⟩) ⟨⟨s⟩⟩).map (·.data.toList) = splitB c s := hdata.trans (splitB_eq c s.length s (Nat.le_refl _))
          have hsl : (Go.Lib.splitB ⟨⟨[c]⟩⟩ 0 (Go.Lib.countB ⟨⟨s⟩⟩ ⟨⟨[c]⟩⟩) ⟨⟨s⟩⟩).length = Go.Lib.countB ⟨⟨s⟩⟩ ⟨⟨[c]⟩⟩ + 1 := Go.Lib.splitB_all ⟨⟨[c]⟩⟩ (Nat.le_refl 1) 0 _ _ rfl
          generalize Go.Lib.splitB ⟨⟨[c]⟩⟩ 0 (Go.Lib.countB ⟨⟨s⟩⟩ ⟨⟨[c]⟩⟩) ⟨⟨s⟩⟩ = ps at hsp hsl
          obtain ⟨p1, p2, p3⟩ := imm_sound hI ((ps.map Value.string).toArray) 9
          have hlen' : ((splitB c s).map PV.str).length = ps.length := by rw [← hsp]; simp
          rw [← hsl, ← hlen']
          refine ⟨_, _, p1, p2, ?_, rfl⟩
          refine RelV.list .full ((splitB c s).map PV.str) w.heap.size 0 1 _ (fun i => (ps.map Value.string).getD i .nilIface) (by simp) (fun _ => rfl) (Nat.le_refl _) (fun i x hx => ?_) (fun i hi => ?_)
          · rw [← hsp, List.map_map, List.getElem?_map, Option.map_eq_some_iff] at hx
            obtain ⟨p, hp, rfl⟩ := hx
            simp only [List.getD_eq_getElem?_getD, List.getElem?_map, hp, Option.map_some, Option.getD_some]
            exact .str p
          · rw [hlen'] at hi
            have hp : ps[i]? = some ps[i] := by simp [hi]
            simp only [List.getD_eq_getElem?_getD, List.getElem?_map, hp, Option.map_some, Option.getD_some]
            refine ⟨rfl, fun j v hj => ?_⟩
            cases j with
            | zero =>
              simp [Value.cells] at hj
              subst hj
              refine ⟨rfl, ?_⟩
              simp [Gh.newImm, hp]
            | succ j => simp [Value.cells] at hj
        · cases hr
      · cases hr
    · by_cases h3 : f = 169
      · subst h3
        obtain rfl : extIndexByte = g := Option.some.inj hg
        unfold extIndexByte at hr
        split at hr
        · rename_i s c
          simp only [Option.some.injEq] at hr
          subst hr
          obtain ⟨v0, v1, rfl, r0, r1⟩ := two_args hl ha
          rw [(str_eq r0), r1.int_inv]
          refine (Tryz.strings_IndexByte ⟨⟨s⟩⟩ c w).mono ?_
          rintro e w' ⟨rfl, rfl⟩
          refine ⟨G, _, hI, .refl _ _ _, ?_, rfl⟩
          have : idxB c.toNat.toUInt8 s 0 = Go.Lib.indexByte s c.toNat.toUInt8 := by
            rw [idxB_eq]
            split
            · rename_i h; exact h.symm
            · simp
          rw [this]
          exact .int _ _
        · cases hr
      · by_cases h4 : f = 146
        · subst h4
          obtain rfl : extCompare = g := Option.some.inj hg
          unfold extCompare at hr
          split at hr
          · rename_i s c
            simp only [Option.some.injEq] at hr
            subst hr
            obtain ⟨v0, v1, rfl, r0, r1⟩ := two_args hl ha
            rw [(str_eq r0), (str_eq r1)]
            refine (Tryz.strings_Compare ⟨⟨s⟩⟩ ⟨⟨c⟩⟩ w).mono ?_
            rintro e w' ⟨rfl, rfl⟩
            refine ⟨G, _, hI, .refl _ _ _, ?_, rfl⟩
            rw [cmpB_eq]
            exact .int _ _
          · cases hr
        · by_cases h5 : f = 148
          · subst h5
            obtain rfl : extCopy 179 = g := Option.some.inj hg
            exact ext_copy hr hI hl ha
          · by_cases h6 : f = 105
            · subst h6
              obtain rfl : extStr 179 5 = g := Option.some.inj hg
              exact ext_str hr hI hl ha
            · by_cases h7 : f = 34
              · subst h7
                obtain rfl : extRepeat = g := Option.some.inj hg
                unfold extRepeat at hr
                split at hr
                · rename_i s c
                  split at hr
                  · rename_i hh
                    obtain ⟨c0, c1, c2⟩ := hh
                    simp only [Option.some.injEq] at hr
                    subst hr
                    obtain ⟨v0, v1, rfl, r0, r1⟩ := two_args hl ha
                    obtain ⟨n, rfl⟩ : ∃ n : Nat, c = n := ⟨c.toNat, by omega⟩
                    rw [(str_eq r0), r1.int_inv]
                    refine (Tryz.strings_Repeat ⟨⟨s⟩⟩ n w (by omega) c2).mono ?_
                    rintro e w' ⟨rfl, hb⟩
                    obtain ⟨i1, i2⟩ := inv_below hI hb
                    exact ⟨G, _, i1, i2, RelV.str ⟨(Go.Lib.repeatL s n).toArray⟩, rfl⟩
                  · cases hr
                · cases hr
              · by_cases h8 : f = 39
                · subst h8
                  obtain rfl : extTrimRight = g := Option.some.inj hg
                  unfold extTrimRight at hr
                  split at hr
                  · rename_i s cs
                    split at hr
                    · rename_i hh
                      obtain ⟨c0, c1, c2⟩ := hh
                      simp only [Option.some.injEq] at hr
                      subst hr
                      obtain ⟨v0, v1, rfl, r0, r1⟩ := two_args hl ha
                      rw [(str_eq r0), (str_eq r1)]
                      refine (Tryz.strings_TrimRight ⟨⟨s⟩⟩ ⟨⟨cs⟩⟩ w c0 c1 fun j b hj => ?_).mono ?_
                      · rw [List.all_eq_true] at c2
                        simpa using c2 b (List.mem_of_getElem? hj)
                      · rintro e w' ⟨rfl, hb⟩
                        obtain ⟨i1, i2⟩ := inv_below hI hb
                        exact ⟨G, _, i1, i2, RelV.str ⟨(Go.Lib.trimRightS s cs).toArray⟩, rfl⟩
                    · cases hr
                  · cases hr
                · by_cases h9 : f = 207
                  · subst h9
                    obtain rfl : extSort = g := Option.some.inj hg
                    exact ext_sort hr hI hl ha
                  · by_cases h10 : f = 208
                    · subst h10
                      obtain rfl : extCompact = g := Option.some.inj hg
                      exact ext_compact hr hI hl ha
                    · have e : ∀ k, f ≠ k → Nat.beq f k = false := fun k hk => by
                        rw [Bool.eq_false_iff]
                        exact fun h => hk (Nat.eq_of_beq_eq_true h)
                      rw [e _ h1, e _ h2, e _ h3, e _ h4, e _ h5, e _ h6, e _ h7, e _ h8, e _ h9, e _ h10] at hg
                      cases hg

end Go.Proofs.YtiniifbmeobmgaaGreatDoor
