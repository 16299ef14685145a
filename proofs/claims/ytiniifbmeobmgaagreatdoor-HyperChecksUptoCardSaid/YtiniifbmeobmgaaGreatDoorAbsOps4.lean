/- Loads, make, index, slice, len, and the rest of the small operations. -/
import Derived.Test.YtiniifbmeobmgaaGreatDoorAbsOps3
import Derived.IntWalk
set_option linter.unusedVariables false
set_option linter.unusedSimpArgs false
namespace Go.Abs

section
variable {P : Program} {G : Gh} (w : World)

theorem load_sound {N : Base} {σ : St} {t : TypeId} {ag : Bool} {sz : Nat} {p x : PV} {vp : Value} (hi : Inv G N σ w) (ha : aggOf P t = some ag) (hs : szOf P t = some sz)
    (rp : RelV G p vp) (h : vLoad ag sz p σ = some x) : ∃ v, (Instr.loadAt t vp).run P w = .ok v w ∧ RelV G x v := by
  cases rp with
  | eptr e off B O ve re hc =>
    obtain ⟨v, h1, h2⟩ := load_part (P := P) ha hs re (fun j v hj => hi.imm _ _ _ (hc j v hj).2) h
    exact ⟨v, by simp [Instr.loadAt, Instr.sureAddr, h1], h2⟩
  | ptr b g i off B O z n hm =>
    simp only [vLoad] at h
    cases hb : σ[b]? with
    | none => simp [hb] at h
    | some blk =>
    cases blk with
    | arr g' z' xs =>
      simp only [hb] at h
      split at h
      · rename_i hg
        subst hg
        cases he : xs[i]? with
        | none => simp [he] at h
        | some e =>
        simp only [he] at h
        obtain ⟨B', O', n', cs, el, hm', hN, hh, hn, hle, hz, vs, hrel, hcell⟩ := hi.blk b _ hb
        rw [hm] at hm'
        simp only [Option.some.injEq, Prod.mk.injEq] at hm'
        obtain ⟨rfl, rfl, rfl, rfl⟩ := hm'
        have hil : i < xs.length := (List.getElem?_eq_some_iff.1 he).1
        obtain ⟨v, h1, h2⟩ := load_part (P := P) (w := w) (B := B) (O := O + i * z) ha hs (hrel i e he) (fun j v hj => by
          have := ((hcell i hil).2 j v hj).2
          simp [World.cell?, hh, this]) h
        exact ⟨v, by simp [Instr.loadAt, Instr.sureAddr, h1], h2⟩
      · simp at h
    | _ => simp [hb] at h
  | _ => simp [vLoad] at h

theorem makeSl_sound {N : Base} {σ σ' : St} {t e : TypeId} {sz by_ : Nat} {z l c r : PV} {vl vc : Value}
    (hi : Inv G N σ w) (he : elemOf? P t = some e) (hs : szOf P e = some sz) (hb : bytesOf P e = some by_) (hz : zeroOf P e = some z) (hpos : 0 < sz) (hb0 : 0 < by_)
    (rl : RelV G l vl) (rc : RelV G c vc) (h : vMakeSl sz by_ z l c σ = some (r, σ')) :
    ∃ v w' G', (Instr.makeSlice t vl vc).run P w = .ok v w' ∧ Inv G' N σ' w' ∧ Ext G σ w G' σ' w' ∧ RelV G' r v := by
  have hu : P.underlying t = some (.slice e) := by
    unfold elemOf? at he
    split at he <;> simp_all
  unfold zeroOf at hz
  unfold szOf at hs
  unfold bytesOf at hb
  cases hie : P.info? e with
  | none => simp [hie] at hz
  | some it =>
  simp only [hie, Option.map_some, Option.some.injEq] at hz hs hb
  cases hzz : it.zero with
  | none => simp [hzz] at hz
  | some zv =>
  simp only [hzz, Option.some.injEq] at hz
  have rz : RelV G z zv := hz ▸ rel_ofVal G zv
  cases rl with
  | int kl ln =>
    cases rc with
    | int kc cn =>
      simp only [vMakeSl] at h
      split at h
      · rename_i hh
        obtain ⟨h0, rfl, hroom⟩ := hh
        cases hvb : vBox sz z with
        | none => simp [hvb] at h
        | some z' =>
          simp only [hvb] at h
          unfold vBox at hvb
          cases hc : z.cells? with
          | none => simp [hc] at hvb
          | some zc =>
          simp only [hc] at hvb
          have hzl : zc.length = sz := by
            split at hvb
            · assumption
            · simp at hvb
          simp only [hzl, if_true, Option.some.injEq] at hvb
          subst hvb
          simp only [Option.some.injEq, Prod.mk.injEq] at h
          obtain ⟨hr, hσ⟩ := h
          have hzs : zv.cells.size = sz := by have := (rz.cells hc).1; omega
          have hnn : ((ln.toNat : Nat) : Int) = ln := by omega
          generalize ln.toNat = n at hr hσ hroom hnn
          subst hnn
          have hroom' := hroom
          simp only [roomy, decide_eq_true_eq] at hroom'
          have hn47 : n ≤ 140737488355328 := by
            have : n * 1 ≤ n * by_ := Nat.mul_le_mul_left _ hb0
            omega
          have hwrap : IntKind.i64.wrap (n : Int) = n := IntWalk.i64_in _ (by omega)
          have hbig2 : ¬ 281474976710656 < (it.bytes : Int) * n := by
            rw [hb]
            have : ((n * by_ : Nat) : Int) ≤ 140737488355328 := by omega
            have e2 : ((n * by_ : Nat) : Int) = (by_ : Int) * n := by rw [Int.natCast_mul, Int.mul_comm]
            omega
          have hw0 : IntKind.i64.wrap 0 = 0 := IntWalk.i64_in 0 (by omega)
          have hask : ∀ (b : Nat) (w' : World), (askRoom b).run P w' = .ok () w' := by
            intro b w'
            unfold askRoom
            split <;> rfl
          have hrow := RowAt.zeros (n := n) hc rz hzs hpos
          have hsize : ((Array.range (n * sz)).map (zv.cells[· % zv.cells.size]!)).size = n * sz := by simp
          have hxl : (List.replicate n z).length * sz ≤ ((Array.range (n * sz)).map (zv.cells[· % zv.cells.size]!)).size := by rw [hsize]; simp
          obtain ⟨p1, p2, p3⟩ := push_sound hi sz (List.replicate n z) _ e hpos hxl hrow
          refine ⟨.slice (some ⟨w.heap.size, 0, none⟩) n n, World.more w (.cells ((Array.range (n * sz)).map (zv.cells[· % zv.cells.size]!)) e), _, ?_, hσ ▸ p1, hσ ▸ p2, ?_⟩
          · by_cases hn0 : n = 0
            · subst hn0
              simp [Instr.makeSlice, run_underlying hu, asInt, asIntOf, typeInfo, sizeOf, zeroValue, hie, hzz, hs, hb, hw0, hask, newRow, newObj, Sem.run, World.more, show (Array.range 0) = #[] from rfl]
            · have hns : ¬ n * sz = 0 := Nat.mul_ne_zero hn0 (by omega)
              simp [Instr.makeSlice, run_underlying hu, asInt, asIntOf, typeInfo, sizeOf, zeroValue, hie, hzz, hs, hwrap, hask, hbig2, hn0, hns, newRow, newObj, Sem.run]
              rw [← hs]
              rfl
          · subst hr
            have := RelV.sref (G := G.newAt σ.length 0 (w.heap.size, 0, sz, ((Array.range (n * sz)).map (zv.cells[· % zv.cells.size]!)).size)) σ.length 0 sz 0 n w.heap.size 0 _ n (Gh.newAt_at _ _ _ _) (Nat.le_refl _) (by rw [hsize, Nat.zero_add, Nat.zero_add]; exact Nat.le_refl _)
            simpa using this
      · simp at h
    | _ => simp [vMakeSl] at h
  | _ => simp [vMakeSl] at h

theorem index_sound {t e : TypeId} {sz : Nat} {x i r : PV} {vx vi : Value} (he : elemOf? P t = some e) (hs : szOf P e = some sz)
    (rx : RelV G x vx) (ri : RelV G i vi) (h : vIndex sz x i = some r) : ∃ v, (Instr.indexAt t vx vi).run P w = .ok v w ∧ RelV G r v := by
  have hu : P.underlying t = some (.slice e) := by
    unfold elemOf? at he
    split at he <;> simp_all
  cases ri with
  | int k n =>
    cases rx with
    | nillist => simp [vIndex] at h
    | emptyl a c => simp [vIndex] at h
    | list kk xs B O z cap vs h1 h2 h3 hr hc =>
      simp only [vIndex] at h
      split at h
      · rename_i h0
        cases hx : xs[n.toNat]? with
        | none => simp [hx] at h
        | some ev =>
        simp only [hx] at h
        cases hcs : ev.cells? with
        | none => simp [hcs] at h
        | some cs =>
        simp only [hcs] at h
        split at h
        · rename_i hsz
          simp only [Option.some.injEq] at h
          subst h
          have hlt := (List.getElem?_eq_some_iff.1 hx).1
          obtain ⟨q1, q2⟩ := hc n.toNat hlt
          have hzz : z = sz := by rw [← q1, ← hsz]; exact ((hr _ _ hx).cells hcs).1.symm
          have hin : 0 ≤ n ∧ n < (xs.length : Int) := ⟨h0, by omega⟩
          refine ⟨.pointer (some ⟨B, O + n.toNat * sz, none⟩), ?_, ?_⟩
          · simp [Instr.indexAt, asIntOf, run_underlying hu, hin, szOf_run hs, addr_add]
          · have := RelV.eptr (G := G) ev 0 B (O + n.toNat * sz) (vs n.toNat) (hr _ _ hx) (fun j v hj => by rw [← hzz]; exact q2 j v hj)
            simpa using this
        · simp at h
      · simp at h
    | sref b g z off len B O m cap hm h1 h2 =>
      simp only [vIndex] at h
      split at h
      · rename_i hh
        obtain ⟨h0, hlt, rfl⟩ := hh
        simp only [Option.some.injEq] at h
        subst h
        have hin : 0 ≤ n ∧ n < (len : Int) := ⟨h0, hlt⟩
        refine ⟨.pointer (some ⟨B, O + off * z + n.toNat * z, none⟩), ?_, ?_⟩
        · simp [Instr.indexAt, asIntOf, run_underlying hu, hin, szOf_run hs, addr_add]
        · have := RelV.ptr (G := G) b g (off + n.toNat) 0 B O z m hm
          rw [Nat.add_mul, Nat.add_zero, ← Nat.add_assoc] at this
          exact this
      · simp at h
    | _ => simp [vIndex] at h
  | _ => simp [vIndex] at h

theorem strAt_sound {t : TypeId} {x i r : PV} {vx vi : Value} (hu : P.underlying t = some .string) (rx : RelV G x vx) (ri : RelV G i vi) (h : vStrAt x i = some r) :
    ∃ v, (Instr.index t vx vi).run P w = .ok v w ∧ RelV G r v := by
  cases ri with
  | int k n =>
    cases rx with
    | str s =>
      simp only [vStrAt] at h
      split at h
      · rename_i h0
        cases hb : s.data.toList[n.toNat]? with
        | none => simp [hb] at h
        | some b =>
          simp only [hb, Option.some.injEq] at h
          subst h
          have hb' : s[n.toNat]? = some b := by
            have h1 : s.data[n.toNat]? = some b := by simpa using hb
            have hlt := (Array.getElem?_eq_some_iff.1 h1).1
            have hlt' : n.toNat < s.size := hlt
            rw [getElem?_pos s n.toNat hlt']
            have := (Array.getElem?_eq_some_iff.1 h1).2
            exact congrArg some this
          exact ⟨.int .u8 b.toNat, by simp [Instr.index, asIntOf, run_underlying hu, h0, hb'], .int _ _⟩
      · simp at h
    | _ => simp [vStrAt] at h
  | _ => simp [vStrAt] at h

theorem fieldAt_run {t : TypeId} {f k : Nat} (h : fieldAt? P t f = some k) (a : Addr) : (Instr.fieldAt t (.pointer (some a)) f).run P w = .ok (.pointer (some (a.add k))) w := by
  unfold fieldAt? fieldOf at h
  split at h
  · rename_i fd hf
    split at hf
    · rename_i fs hu
      split at h
      · simp at h
      · rename_i n hn hz
        simp only [Option.some.injEq] at h
        subst h
        cases n with
        | zero => exact absurd rfl hn
        | succ n =>
          simp [Instr.fieldAt, run_underlying hu, hf, Instr.sureAddr, fieldPlace, szOf_run hz]
      · simp at h
    · simp at hf
  · simp at h

theorem field_sound {t : TypeId} {f k : Nat} {p r : PV} {vp : Value} (hf : fieldAt? P t f = some k) (rp : RelV G p vp) (h : vField k p = some r) :
    ∃ v, (Instr.fieldAt t vp f).run P w = .ok v w ∧ RelV G r v := by
  cases rp with
  | ptr b g i off B O z n hm =>
    simp only [vField, Option.some.injEq] at h
    subst h
    refine ⟨_, fieldAt_run w hf _, ?_⟩
    rw [addr_add, Nat.add_assoc]
    exact .ptr b g i (off + k) B O z n hm
  | eptr e off B O ve re hc =>
    simp only [vField, Option.some.injEq] at h
    subst h
    refine ⟨_, fieldAt_run w hf _, ?_⟩
    rw [addr_add, Nat.add_assoc]
    exact .eptr e (off + k) B O ve re hc
  | _ => simp [vField] at h

theorem bound_sound {x : Option PV} {vx : Option Value} {d a : Nat} (h : bound x d = some a) (r : ∀ p, x = some p → ∃ v, vx = some v ∧ RelV G p v) (hn : x = none → vx = none) :
    (x = none ∧ vx = none ∧ a = d) ∨ ∃ k, vx = some (.int k (a : Int)) := by
  cases x with
  | none => simp [bound] at h; exact .inl ⟨rfl, hn rfl, h.symm⟩
  | some p =>
    obtain ⟨v, rfl, rv⟩ := r p rfl
    cases rv with
    | int k n =>
      simp only [bound] at h
      split at h
      · rename_i h0
        simp only [Option.some.injEq] at h
        refine .inr ⟨k, ?_⟩
        rw [← h]
        congr 2
        omega
      · simp at h
    | _ => simp [bound] at h

theorem run_bounds {isSlice : Bool} {len cap a b : Nat} {lo hi : Option Value} (hlo : (lo = none ∧ a = 0) ∨ ∃ k, lo = some (.int k (a : Int))) (hhi : (hi = none ∧ b = len) ∨ ∃ k, hi = some (.int k (b : Int))) (hab : a ≤ b) (hbc : b ≤ cap) :
    (Instr.sliceBounds isSlice len cap lo hi none).run P w = .ok (a, b, cap) w := by
  rcases hlo with ⟨rfl, rfl⟩ | ⟨k, rfl⟩ <;> rcases hhi with ⟨rfl, rfl⟩ | ⟨k', rfl⟩ <;>
    simp [Instr.sliceBounds, Instr.sliceBound, asIntOf, hab, hbc]

theorem subStr_sound {t : TypeId} {x r : PV} {lo hi : Option PV} {vx : Value} {vlo vhi : Option Value} (hu : P.underlying t = some .string) (rx : RelV G x vx)
    (rlo : ∀ p, lo = some p → ∃ v, vlo = some v ∧ RelV G p v) (nlo : lo = none → vlo = none) (rhi : ∀ p, hi = some p → ∃ v, vhi = some v ∧ RelV G p v) (nhi : hi = none → vhi = none)
    (h : vSubStr x lo hi = some r) : ∃ v, (Instr.sliceAt t vx vlo vhi none).run P w = .ok v w ∧ RelV G r v := by
  cases rx with
  | str s =>
    simp only [vSubStr] at h
    cases ha : bound lo 0 with
    | none => simp [ha] at h
    | some a =>
    cases hb : bound hi s.data.toList.length with
    | none => simp only [ha, hb] at h; simp at h
    | some b =>
    simp only [ha, hb] at h
    split at h
    · rename_i hab
      simp only [Option.some.injEq] at h
      subst h
      have hbl : b ≤ s.size := by simpa using hab.2
      have hrun := run_bounds (P := P) (isSlice := false) (len := s.size) (cap := s.size) w (by
          rcases bound_sound ha rlo nlo with ⟨_, h2, h3⟩ | h2
          · exact .inl ⟨h2, h3⟩
          · exact .inr h2) (by
          rcases bound_sound hb rhi nhi with ⟨_, h2, h3⟩ | h2
          · exact .inl ⟨h2, by simpa using h3⟩
          · exact .inr h2) hab.1 hbl
      refine ⟨.string (s.extract a b), by simp [Instr.sliceAt, run_underlying hu, Instr.slice, hrun], .of_str _ ?_⟩
      simp [ByteArray.data_extract, List.extract_eq_take_drop, List.drop_take]
    · simp at h
  | _ => simp [vSubStr] at h

theorem subSl_sound {t e : TypeId} {sz : Nat} {x r : PV} {lo hi : Option PV} {vx : Value} {vlo vhi : Option Value} (he : elemOf? P t = some e) (hs : szOf P e = some sz) (rx : RelV G x vx)
    (rlo : ∀ p, lo = some p → ∃ v, vlo = some v ∧ RelV G p v) (nlo : lo = none → vlo = none) (rhi : ∀ p, hi = some p → ∃ v, vhi = some v ∧ RelV G p v) (nhi : hi = none → vhi = none)
    (h : vSubSl sz x lo hi = some r) : ∃ v, (Instr.sliceAt t vx vlo vhi none).run P w = .ok v w ∧ RelV G r v := by
  have hu : P.underlying t = some (.slice e) := by
    unfold elemOf? at he
    split at he <;> simp_all
  have key : ∀ {len cap a b : Nat} (base : Option Addr), (lo = none → vlo = none) → bound lo 0 = some a → bound hi len = some b → a ≤ b → b ≤ len → len ≤ cap →
      (Instr.sliceAt t (.slice base len cap) vlo vhi none).run P w = .ok (.slice (if cap = a then base else base.map (·.add (a * sz))) (b - a) (cap - a)) w := by
    intro len cap a b base _ ha hb hab hbl hlc
    have hrun := run_bounds (P := P) (isSlice := true) (len := len) (cap := cap) w (by
        rcases bound_sound ha rlo nlo with ⟨_, h2, h3⟩ | h2
        · exact .inl ⟨h2, h3⟩
        · exact .inr h2) (by
        rcases bound_sound hb rhi nhi with ⟨_, h2, h3⟩ | h2
        · exact .inl ⟨h2, h3⟩
        · exact .inr h2) hab (by omega : b ≤ cap)
    simp [Instr.sliceAt, run_underlying hu, Instr.slice, hrun, szOf_run hs]
  cases rx with
  | nillist =>
    simp only [vSubSl] at h
    cases ha : bound lo 0 with
    | none => simp [ha] at h
    | some a =>
    cases hb : bound hi ([] : List PV).length with
    | none => simp only [ha, hb] at h; simp at h
    | some b =>
    simp only [ha, hb] at h
    split at h
    · rename_i hab
      simp only [Option.some.injEq] at h
      subst h
      simp only [List.length_nil] at hb hab
      obtain rfl : b = 0 := by omega
      obtain rfl : a = 0 := by omega
      refine ⟨_, key none nlo ha hb (Nat.le_refl _) (Nat.le_refl _) (Nat.le_refl _), ?_⟩
      simpa [LK.sub] using RelV.nillist
    · simp at h
  | emptyl ad cap =>
    simp only [vSubSl] at h
    cases ha : bound lo 0 with
    | none => simp [ha] at h
    | some a =>
    cases hb : bound hi ([] : List PV).length with
    | none => simp only [ha, hb] at h; simp at h
    | some b =>
    simp only [ha, hb] at h
    split at h
    · rename_i hab
      simp only [Option.some.injEq] at h
      subst h
      simp only [List.length_nil] at hb hab
      obtain rfl : b = 0 := by omega
      obtain rfl : a = 0 := by omega
      refine ⟨_, key (some ad) nlo ha hb (Nat.le_refl _) (Nat.le_refl _) (Nat.zero_le _), ?_⟩
      have := RelV.emptyl (G := G) ad cap
      simpa [LK.sub, Addr.add] using this
    · simp at h
  | list k xs B O z cap vs h1 h2 h3 hr hc =>
    simp only [vSubSl] at h
    cases ha : bound lo 0 with
    | none => simp [ha] at h
    | some a =>
    cases hb : bound hi xs.length with
    | none => simp [ha, hb] at h
    | some b =>
    simp only [ha, hb] at h
    split at h
    · rename_i hab
      obtain ⟨hab, hbl, hsz⟩ := hab
      simp only [Option.some.injEq] at h
      subst h
      refine ⟨_, key (some ⟨B, O, none⟩) nlo ha hb hab hbl h3, ?_⟩
      have hlen : ((xs.take b).drop a).length = b - a := by simp; omega
      generalize hk' : k.sub (b == xs.length) = k'
      have hk1 : k' ≠ .nil := by
        cases k with
        | nil => exact absurd rfl h1
        | full => subst hk'; simp only [LK.sub]; split <;> simp
        | part => subst hk'; simp [LK.sub]
      have hk2 : k' = .full → cap - a = b - a := by
        intro hf
        cases k with
        | nil => exact absurd rfl h1
        | full =>
          rw [hf] at hk'
          simp only [LK.sub] at hk'
          split at hk'
          · rename_i hbx; rw [h2 rfl]; simp at hbx; omega
          · simp at hk'
        | part => rw [hf] at hk'; simp [LK.sub] at hk'
      have hzz : 0 < xs.length → z = sz := by
        intro h0
        obtain ⟨cs, c1, c2⟩ := head_get hsz xs[0] (by simp)
        rw [← (hc 0 h0).1, ← c2]
        exact ((hr 0 _ (List.getElem?_eq_getElem h0)).cells c1).1.symm
      have build : ∀ (O' : Nat), (a < b → O' = O + a * sz) → RelV G (.list k' ((xs.take b).drop a)) (.slice (some ⟨B, O', none⟩) (b - a) (cap - a)) := by
        intro O' hO'
        have := RelV.list (G := G) k' ((xs.take b).drop a) B O' z (cap - a) (fun i => vs (a + i)) hk1 (fun hf => by rw [hlen]; exact hk2 hf) (by rw [hlen]; omega)
          (fun i x hx => by
            rw [List.getElem?_drop, List.getElem?_take] at hx
            split at hx
            · exact hr _ _ hx
            · simp at hx)
          (fun i hi => by
            rw [hlen] at hi
            obtain ⟨q1, q2⟩ := hc (a + i) (by omega)
            refine ⟨q1, fun j v hj => ⟨(q2 j v hj).1, ?_⟩⟩
            have hz' := hzz (by omega)
            rw [hO' (by omega), ← hz', show O + a * z + i * z + j = O + (a + i) * z + j by rw [Nat.add_mul]; omega]
            exact (q2 j v hj).2)
        rw [hlen] at this
        exact this
      by_cases hcap : cap = a
      · rw [if_pos hcap]
        exact build O (fun hlt => by omega)
      · rw [if_neg hcap]
        simp only [Option.map_some, addr_add]
        exact build _ (fun _ => rfl)
    · simp at h
  | sref b0 g z off len B O n cap hm h1 h3 =>
    simp only [vSubSl] at h
    cases ha : bound lo 0 with
    | none => simp [ha] at h
    | some a =>
    cases hb : bound hi len with
    | none => simp [ha, hb] at h
    | some b =>
    simp only [ha, hb] at h
    split at h
    · rename_i hab
      obtain ⟨rfl, hab, hbl⟩ := hab
      simp only [Option.some.injEq] at h
      subst h
      refine ⟨_, key (some ⟨B, O + off * z, none⟩) nlo ha hb (by omega) hbl h1, ?_⟩
      rw [if_neg (by omega)]
      simp only [Option.map_some, addr_add]
      have := RelV.sref (G := G) b0 g z (off + a) (b - a) B O n (cap - a) hm (by omega) (by rw [show off + a + (cap - a) = off + cap by omega]; exact h3)
      rw [Nat.add_mul, ← Nat.add_assoc] at this
      exact this
    · split at h
      · rename_i hab
        obtain ⟨rfl, hbl⟩ := hab
        simp only [Option.some.injEq] at h
        subst h
        refine ⟨_, key (some ⟨B, O + off * z, none⟩) nlo ha hb (Nat.le_refl _) hbl h1, ?_⟩
        have build : ∀ (O' : Nat), RelV G (.list .part []) (.slice (some ⟨B, O', none⟩) (a - a) (cap - a)) := by
          intro O'
          have := RelV.list (G := G) .part [] B O' 1 (cap - a) (fun _ => undef) (fun h => by cases h) (fun h => by cases h) (by simp) (by simp) (by simp)
          rw [Nat.sub_self]
          exact this
        split
        · exact build _
        · simp only [Option.map_some, addr_add]
          exact build _
      · simp at h
  | _ => simp [vSubSl] at h

theorem len_sound {N : Base} {σ : St} {t ty : TypeId} {k : LenK} {x r : PV} {vx : Value} (hi : Inv G N σ w) (rx : RelV G x vx) (hk : lenTy P t = some k)
    (h : vLen k x σ = some r) : ∃ v, (Builtin.len_ #[t] ty #[vx]).run P w = .ok v w ∧ RelV G r v := by
  unfold lenTy at hk
  split at hk
  · rename_i hu
    simp only [Option.some.injEq] at hk
    subst hk
    cases rx <;> simp only [vLen, Option.some.injEq, reduceCtorEq] at h
    subst h
    exact ⟨_, by simp [Builtin.len_, run_underlying hu]; rfl, .int _ _⟩
  · rename_i e hu
    simp only [Option.some.injEq] at hk
    subst hk
    cases rx <;> simp only [vLen, Option.some.injEq, reduceCtorEq] at h <;> subst h <;>
      exact ⟨_, by simp [Builtin.len_, run_underlying hu]; rfl, .int _ _⟩
  · rename_i ke e hu
    simp only [Option.some.injEq] at hk
    subst hk
    cases rx with
    | nilmap =>
      simp only [vLen, Option.some.injEq] at h
      subst h
      exact ⟨_, by simp [Builtin.len_, run_underlying hu]; rfl, .int _ _⟩
    | mref b B hm =>
      simp only [vLen] at h
      cases hb : σ[b]? with
      | none => simp [hb] at h
      | some blk =>
      cases blk with
      | map v es =>
        simp [hb] at h
        subst h
        obtain ⟨B', ents, clock, hm', hN, hh, hl, _⟩ := hi.blk b _ hb
        rw [hm] at hm'
        simp only [Option.some.injEq, Prod.mk.injEq] at hm'
        obtain ⟨rfl, _⟩ := hm'
        refine ⟨.int .i64 es.length, ?_, .int _ _⟩
        simp [Builtin.len_, run_underlying hu, getObj, Sem.run, hh, goInt, hl]
      | _ => simp [hb] at h
    | _ => simp [vLen] at h
  · simp at hk

end
end Go.Abs
