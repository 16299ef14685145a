/- The store and the frame against a world; what a store, a new block and an append do. -/
import Derived.Test.YtiniifbmeobmgaaGreatDoorAbsRel
set_option linter.unusedVariables false
set_option linter.unusedSimpArgs false
namespace Go.Abs

theorem Sem.run_new (P : Program) {α : Type} (o : Obj) (k : Nat → Sem α) (w : World) : (Sem.new o k).run P w = (k w.heap.size).run P { w with heap := w.heap.push o } := rfl

def baseOf (G : Gh) (b : Nat) : Blk → Option Nat
  | .arr g _ _ => (G.μ b g).map (·.1)
  | .map .. => (G.μ b 0).map (·.1)
  | .iter .. => (G.μ b 0).map (·.1)
  | .dead => none

def ownB (G : Gh) (σ : St) (B : Nat) : Prop := ∃ b blk, σ[b]? = some blk ∧ baseOf G b blk = some B

def RowAt (G : Gh) (cs : Array Value) (O z : Nat) (xs : List PV) : Prop :=
  ∃ vs : Nat → Value, (∀ i x, xs[i]? = some x → RelV G x (vs i)) ∧
    ∀ i, i < xs.length → (vs i).cells.size = z ∧ ∀ j v, (vs i).cells[j]? = some v → v.oneCell' = true ∧ cs[O + i * z + j]? = some v

/-- The entries of a map: their stamps differ, and lie before the clock. -/
def EntsOk (ents : Array MapEntry) (clock : Nat) : Prop :=
  (∀ (i : Nat) (m : MapEntry), ents[i]? = some m → m.born < clock) ∧ ∀ (i j : Nat) (m m' : MapEntry), ents[i]? = some m → ents[j]? = some m' → m.born = m'.born → i = j

/-- A range over a map that nobody changes. -/
def IterOk (ents : Array MapEntry) (clock since : Nat) (seen : Array Nat) (stepped : Nat) (last : Option Nat) (left : List Nat) : Prop :=
  since = clock ∧ stepped = clock ∧ left.Nodup ∧ (∀ i, i ∈ left ↔ ∃ m, ents[i]? = some m ∧ seen.contains m.born = false) ∧ ∀ i, last = some i → ∃ m, ents[i]? = some m ∧ seen.back? = some m.born

/-- The blocks that were there at the beginning: how many, and what lies in them. -/
structure Base where
  n : Nat
  old : Nat → Option Obj

def BlkRel (G : Gh) (N : Base) (w : World) (b : Nat) : Blk → Prop
  | .arr g z xs => ∃ B O n cs el, G.μ b g = some (B, O, z, n) ∧ N.n ≤ B ∧ w.heap[B]? = some (.cells cs el (0, 0)) ∧ cs.size = n ∧ O + xs.length * z ≤ n ∧ 0 < z ∧ RowAt G cs O z xs
  | .map v es => ∃ B ents clock, G.μ b 0 = some (B, 0, 0, 0) ∧ N.n ≤ B ∧ w.heap[B]? = some (.map ents clock) ∧ ents.size = es.length ∧
      (∀ (i : Nat) (e : PV × PV) (m : MapEntry), es[i]? = some e → ents[i]? = some m → RelV G e.1 m.key ∧ RelV G e.2 m.val) ∧ G.H b v = some (ents, clock) ∧ EntsOk ents clock
  | .iter m last left => ∃ B mr since seen stepped, G.μ b 0 = some (B, 0, 0, 0) ∧ N.n ≤ B ∧ w.heap[B]? = some (.mapIter mr since seen stepped) ∧
      (match m with
      | none => mr = none
      | some k => ∃ MB ents clock, G.μ k.1 0 = some (MB, 0, 0, 0) ∧ mr = some MB ∧ G.H k.1 k.2 = some (ents, clock) ∧ IterOk ents clock since seen stepped last left)
  | .dead => True

structure Inv (G : Gh) (N : Base) (σ : St) (w : World) : Prop where
  imm : ∀ B o v, G.I B o = some v → w.cell? ⟨B, o, none⟩ = some v
  dom : ∀ b g y, G.μ b g = some y → b < σ.length
  blk : ∀ b k, σ[b]? = some k → BlkRel G N w b k
  inj : ∀ b b' k k' B, σ[b]? = some k → σ[b']? = some k' → baseOf G b k = some B → baseOf G b' k' = some B → b = b'
  sep : ∀ B o, ownB G σ B → G.I B o = none
  big : N.n ≤ w.heap.size
  gen : ∀ b g z xs, σ[b]? = some (.arr g z xs) → ∀ g', g < g' → G.μ b g' = none
  domH : ∀ b n y, G.H b n = some y → b < σ.length
  genH : ∀ b v es, σ[b]? = some (.map v es) → ∀ v', v < v' → G.H b v' = none
  old : ∀ k, k < N.n → w.heap[k]? = N.old k

/-- What has become of the world since (G, σ, w). -/
structure Ext (G : Gh) (σ : St) (w : World) (G' : Gh) (σ' : St) (w' : World) : Prop where
  le : G.le G'
  os : w'.os = w.os
  tape : w'.tape = w.tape
  output : w'.output = w.output
  size : w.heap.size ≤ w'.heap.size
  keep : ∀ k, k < w.heap.size → ¬ ownB G σ k → w'.heap[k]? = w.heap[k]?
  own : ∀ B, ownB G' σ' B → ownB G σ B ∨ w.heap.size ≤ B
  imm : ∀ B o v, G'.I B o = some v → G.I B o = some v ∨ ownB G σ B ∨ w.heap.size ≤ B
  len : σ.length ≤ σ'.length

theorem Ext.refl (G : Gh) (σ : St) (w : World) : Ext G σ w G σ w :=
  ⟨.refl G, rfl, rfl, rfl, Nat.le_refl _, fun _ _ _ => rfl, fun _ h => .inl h, fun _ _ _ h => .inl h, Nat.le_refl _⟩

theorem Ext.trans {G : Gh} {σ : St} {w : World} {G' : Gh} {σ' : St} {w' : World} {G'' : Gh} {σ'' : St} {w'' : World} (h : Ext G σ w G' σ' w') (k : Ext G' σ' w' G'' σ'' w'') : Ext G σ w G'' σ'' w'' where
  le := h.le.trans k.le
  os := k.os.trans h.os
  tape := k.tape.trans h.tape
  output := k.output.trans h.output
  size := Nat.le_trans h.size k.size
  keep := fun i hi hn => by
    rw [k.keep i (by have := h.size; omega) (fun ho => by
      rcases h.own i ho with h1 | h1
      · exact hn h1
      · omega), h.keep i hi hn]
  own := fun B hB => by
    rcases k.own B hB with h1 | h1
    · exact h.own B h1
    · exact .inr (Nat.le_trans h.size h1)
  imm := fun B o v hv => by
    rcases k.imm B o v hv with h1 | h1 | h1
    · exact h.imm B o v h1
    · rcases h.own B h1 with h2 | h2
      · exact .inr (.inl h2)
      · exact .inr (.inr h2)
    · exact .inr (.inr (Nat.le_trans h.size h1))
  len := Nat.le_trans h.len k.len

theorem Inv.lt_of_own {G : Gh} {N : Base} {σ : St} {w : World} (h : Inv G N σ w) {B : Nat} (ho : ownB G σ B) : B < w.heap.size ∧ N.n ≤ B := by
  obtain ⟨b, k, hk, hb⟩ := ho
  have hr := h.blk b k hk
  cases k with
  | arr g z xs =>
    obtain ⟨B', O, n, cs, el, hm, hN, hh, _⟩ := hr
    simp [baseOf, hm] at hb
    subst hb
    exact ⟨(Array.getElem?_eq_some_iff.1 hh).1, hN⟩
  | map v es =>
    obtain ⟨B', ents, clock, hm, hN, hh, _⟩ := hr
    simp [baseOf, hm] at hb
    subst hb
    exact ⟨(Array.getElem?_eq_some_iff.1 hh).1, hN⟩
  | iter m s l =>
    obtain ⟨B', mr, since, seen, stepped, hm, hN, hh, _⟩ := hr
    simp [baseOf, hm] at hb
    subst hb
    exact ⟨(Array.getElem?_eq_some_iff.1 hh).1, hN⟩
  | dead => simp [baseOf] at hb

/-! ### Splicing -/

theorem getElem?_splice {α : Type} (l m : List α) (k : Nat) (hk : k + m.length ≤ l.length) (j : Nat) :
    (l.take k ++ m ++ l.drop (k + m.length))[j]? = if k ≤ j ∧ j < k + m.length then m[j - k]? else l[j]? := by
  rw [List.append_assoc, List.getElem?_append]
  have h1 : (l.take k).length = k := by simp; omega
  rw [h1]
  split
  · rename_i h
    rw [if_neg (by omega), List.getElem?_take, if_pos h]
  · rename_i h
    rw [List.getElem?_append]
    split
    · rename_i h2
      rw [if_pos (by omega)]
    · rename_i h2
      rw [if_neg (by omega), List.getElem?_drop]
      congr 1
      omega

theorem size_splice {α : Type} (l m : List α) (k : Nat) (hk : k + m.length ≤ l.length) : (l.take k ++ m ++ l.drop (k + m.length)).length = l.length := by
  simp; omega

/-- Putting a value into a part of another one's cells. -/
theorem put_part {G : Gh} {e x e' : PV} {ve v : Value} {sz off : Nat} (r : RelV G e ve) (rx : RelV G x v) (h : vPut sz e off x = some e') :
    v.cells.size = sz ∧ (∀ u ∈ v.cells.toList, u.oneCell' = true) ∧ off + sz ≤ ve.cells.size ∧ ∃ ve', RelV G e' ve' ∧ ve'.cells.toList = ve.cells.toList.take off ++ v.cells.toList ++ ve.cells.toList.drop (off + v.cells.toList.length) := by
  simp only [vPut] at h
  cases hx : x.cells? with
  | none => simp [hx] at h
  | some ws =>
    simp only [hx] at h
    obtain ⟨hl, hr, h1⟩ := rx.cells hx
    split at h
    · rename_i hsz
      have hmem : ∀ u ∈ v.cells.toList, u.oneCell' = true := by
        intro u hu
        obtain ⟨j, hj⟩ := List.getElem?_of_mem hu
        exact h1 j u (by simpa using hj)
      have scalar : ∀ {e : PV}, e.cells? = some [e] → RelV G e ve → (if off = 0 ∧ sz = 1 then ws.head? else none) = some e' →
          off + sz ≤ ve.cells.size ∧ ∃ ve', RelV G e' ve' ∧ ve'.cells.toList = ve.cells.toList.take off ++ v.cells.toList ++ ve.cells.toList.drop (off + v.cells.toList.length) := by
        intro e he re hh
        obtain ⟨el, er, e1⟩ := re.cells he
        split at hh
        · rename_i hc
          obtain ⟨rfl, rfl⟩ := hc
          simp at el
          have hv1 : v.cells.size = 1 := by omega
          obtain ⟨u, hu⟩ : ∃ u, v.cells = #[u] := Array.size_eq_one_iff.1 hv1
          have hu1 : u.oneCell' = true := hmem u (by simp [hu])
          have hw : ws[0]? = some e' := by rw [← List.head?_eq_getElem?]; exact hh
          refine ⟨by omega, u, hr 0 e' u hw (by simp [hu]), ?_⟩
          rw [oneCell_cells hu1, hu]
          have : ve.cells.toList.length = 1 := by simp; omega
          simp [List.drop_eq_nil_of_le, this]
        · simp at hh
      cases e with
      | any => simp at h
      | tuple cs => simp at h
      | agg cs =>
        simp only at h
        split at h
        · rename_i hle
          simp at h
          subst h
          obtain ⟨el, er, e1⟩ := r.cells (x := .agg cs) rfl
          refine ⟨by omega, hmem, by omega, .agg (ve.cells.toList.take off ++ v.cells.toList ++ ve.cells.toList.drop (off + v.cells.toList.length)).toArray, ?_, by simp [Value.cells]⟩
          have hkc : off + ws.length ≤ cs.length := by omega
          have hkv : off + v.cells.toList.length ≤ ve.cells.toList.length := by simp; omega
          refine .agg _ _ ?_ (fun i c u hc hu => ?_) (fun i u hu => ?_)
          · simp only [setRange, List.size_toArray]
            rw [size_splice _ _ _ hkc, size_splice _ _ _ hkv]
            simpa using el
          · simp only [setRange] at hc
            rw [getElem?_splice _ _ _ hkc] at hc
            rw [List.getElem?_toArray, getElem?_splice _ _ _ hkv] at hu
            have hlen : v.cells.toList.length = ws.length := by simp; omega
            rw [hlen] at hu
            split at hc
            · rename_i hin
              rw [if_pos hin] at hu
              exact hr _ _ _ hc (by simpa using hu)
            · rename_i hin
              rw [if_neg hin] at hu
              exact er _ _ _ hc (by simpa using hu)
          · rw [List.getElem?_toArray, getElem?_splice _ _ _ hkv] at hu
            split at hu
            · exact h1 _ _ (by simpa using hu)
            · exact e1 _ _ (by simpa using hu)
        · simp at h
      | _ =>
        obtain ⟨ha, hb⟩ := scalar (by rfl) r h
        exact ⟨by omega, hmem, ha, hb⟩
    · simp at h

theorem storeVar_run {P : Program} {w : World} {t : TypeId} {sz B p : Nat} {cs : Array Value} {el : TypeId} {v : Value} (hs : szOf P t = some sz)
    (hh : w.heap[B]? = some (.cells cs el (0, 0))) (hv : v.cells.size = sz) (h1 : ∀ u ∈ v.cells.toList, u.oneCell' = true) (hle : p + sz ≤ cs.size) :
    (storeVar t ⟨B, p, none⟩ v).run P w = .ok () (w.setRow B (cs.toList.take p ++ v.cells.toList ++ cs.toList.drop (p + v.cells.toList.length)).toArray) := by
  have hst := run_storeCells_at P B p el v.cells.toList 0 cs w hh (by simp; omega) h1
  simp only [Nat.add_zero] at hst
  simp [storeVar, szOf_run hs, hv, hst]

theorem setRow_ext_heap (w : World) (B : Nat) (cs : Array Value) (k : Nat) (h : k ≠ B) : (w.setRow B cs).heap[k]? = w.heap[k]? := by
  simp only [World.setRow, Array.getElem?_modify]
  rw [if_neg (by omega)]

theorem setRow_size (w : World) (B : Nat) (cs : Array Value) : (w.setRow B cs).heap.size = w.heap.size := by simp [World.setRow]

theorem cell_of_heap_eq {w w' : World} {B : Nat} (h : w'.heap[B]? = w.heap[B]?) (o : Nat) : w'.cell? ⟨B, o, none⟩ = w.cell? ⟨B, o, none⟩ := by
  simp [World.cell?, h]

/-- The relation of blocks looks at their own block and at the places alone. -/
theorem BlkRel.step {G G' : Gh} {N : Base} {w w' : World} {b : Nat} {k : Blk} (le : G.le G') (h : BlkRel G N w b k)
    (hw : ∀ B, baseOf G b k = some B → w'.heap[B]? = w.heap[B]?) : BlkRel G' N w' b k := by
  cases k with
  | arr g z xs =>
    obtain ⟨B, O, n, cs, el, hm, hN, hh, hn, hle, hz, vs, h1, h2⟩ := h
    exact ⟨B, O, n, cs, el, le.at_ _ _ _ hm, hN, by rw [hw B (by simp [baseOf, hm])]; exact hh, hn, hle, hz, vs, fun i x hi => (h1 i x hi).mono le, h2⟩
  | map v es =>
    obtain ⟨B, ents, clock, hm, hN, hh, hl, hr, hH, hE⟩ := h
    exact ⟨B, ents, clock, le.at_ _ _ _ hm, hN, by rw [hw B (by simp [baseOf, hm])]; exact hh, hl, fun i e m he hm => ⟨(hr i e m he hm).1.mono le, (hr i e m he hm).2.mono le⟩, le.his _ _ _ hH, hE⟩
  | iter m s l =>
    obtain ⟨B, mr, since, seen, stepped, hm, hN, hh, hr⟩ := h
    refine ⟨B, mr, since, seen, stepped, le.at_ _ _ _ hm, hN, by rw [hw B (by simp [baseOf, hm])]; exact hh, ?_⟩
    cases m with
    | none => exact hr
    | some k =>
      obtain ⟨MB, ents, clock, q1, q2, q3, q4⟩ := hr
      exact ⟨MB, ents, clock, le.at_ _ _ _ q1, q2, le.his _ _ _ q3, q4⟩
  | dead => trivial

theorem baseOf_some {G : Gh} {N : Base} {w : World} {b : Nat} {k : Blk} (h : BlkRel G N w b k) (hk : k ≠ .dead) : ∃ B, baseOf G b k = some B := by
  cases k with
  | arr g z xs => obtain ⟨B, O, n, cs, el, hm, _⟩ := h; exact ⟨B, by simp [baseOf, hm]⟩
  | map v es => obtain ⟨B, ents, clock, hm, _⟩ := h; exact ⟨B, by simp [baseOf, hm]⟩
  | iter m s l => obtain ⟨B, mr, since, seen, stepped, hm, _⟩ := h; exact ⟨B, by simp [baseOf, hm]⟩
  | dead => exact absurd rfl hk

theorem baseOf_mono {G G' : Gh} (le : G.le G') {N : Base} {w : World} {b : Nat} {k : Blk} (h : BlkRel G N w b k) : baseOf G' b k = baseOf G b k := by
  cases k with
  | arr g z xs => obtain ⟨B, O, n, cs, el, hm, _⟩ := h; simp [baseOf, hm, le.at_ _ _ _ hm]
  | map v es => obtain ⟨B, ents, clock, hm, _⟩ := h; simp [baseOf, hm, le.at_ _ _ _ hm]
  | iter m s l => obtain ⟨B, mr, since, seen, stepped, hm, _⟩ := h; simp [baseOf, hm, le.at_ _ _ _ hm]
  | dead => rfl

/-- A store into a block of the store. -/
theorem store_sound {P : Program} {G : Gh} {N : Base} {σ σ' : St} {w : World} {t : TypeId} {sz : Nat} {p x : PV} {vp v : Value} (hi : Inv G N σ w) (hs : szOf P t = some sz)
    (rp : RelV G p vp) (rx : RelV G x v) (h : vStore sz p x σ = some σ') :
    ∃ w', (Instr.storeAt t vp v).run P w = .ok () w' ∧ Inv G N σ' w' ∧ Ext G σ w G σ' w' ∧ (∀ B, ¬ ownB G σ B → w'.heap[B]? = w.heap[B]?) ∧ (∀ B, ownB G σ' B ↔ ownB G σ B) := by
  cases rp with
  | ptr b g i off B O z n hm =>
    simp only [vStore] at h
    cases hb : σ[b]? with
    | none => simp [hb] at h
    | some blk =>
      cases blk with
      | arr g' z' xs =>
        simp only [hb] at h
        split at h
        · rename_i hg
          subst hg
          cases he : xs[i]? with
          | none => simp [he] at h
          | some e =>
            simp only [he] at h
            cases hp : vPut sz e off x with
            | none => simp [hp] at h
            | some e' =>
              simp only [hp, Option.some.injEq] at h
              subst h
              have hblk := hi.blk b _ hb
              obtain ⟨B', O', n', cs, el, hm', hN, hh, hn, hle, hz, vs, hrel, hcell⟩ := hblk
              rw [hm] at hm'
              simp only [Option.some.injEq, Prod.mk.injEq] at hm'
              obtain ⟨rfl, rfl, rfl, rfl⟩ := hm'
              have hil : i < xs.length := (List.getElem?_eq_some_iff.1 he).1
              obtain ⟨hvz, hvc⟩ := hcell i hil
              obtain ⟨hvs, hv1, hfit, ve', re', hcells⟩ := put_part (hrel i e he) rx hp
              have hmul : O + i * z + z ≤ cs.size := by
                have : (i + 1) * z ≤ xs.length * z := Nat.mul_le_mul_right _ hil
                rw [Nat.add_mul] at this
                omega
              have hpos : O + i * z + off + sz ≤ cs.size := by omega
              have hrun := storeVar_run (P := P) (w := w) (p := O + i * z + off) hs hh hvs hv1 hpos
              have hvl : v.cells.toList.length = sz := by simp [hvs]
              have hk1 : O + i * z + off + v.cells.toList.length ≤ cs.toList.length := by simp at *; omega
              have hkk : off + v.cells.toList.length ≤ (vs i).cells.toList.length := by simp at *; omega
              generalize hcs' : (cs.toList.take (O + i * z + off) ++ v.cells.toList ++ cs.toList.drop (O + i * z + off + v.cells.toList.length)).toArray = cs' at hrun
              have hcs'get : ∀ j : Nat, cs'[j]? = if O + i * z + off ≤ j ∧ j < O + i * z + off + sz then v.cells.toList[j - (O + i * z + off)]? else cs.toList[j]? := by
                intro j
                rw [← hcs', List.getElem?_toArray, getElem?_splice _ _ _ hk1, hvl]
              have hsize' : cs'.size = cs.size := by
                rw [← hcs', List.size_toArray, size_splice _ _ _ hk1]; simp
              have hbase : baseOf G b (.arr g z xs) = some B := by simp [baseOf, hm]
              have hbl : b < σ.length := (List.getElem?_eq_some_iff.1 hb).1
              have hown : ∀ B', ownB G (σ.set b (.arr g z (xs.set i e'))) B' ↔ ownB G σ B' := by
                intro B'
                constructor
                · rintro ⟨c, k, hk, hB⟩
                  rw [List.getElem?_set] at hk
                  split at hk
                  · rename_i hbc
                    subst hbc
                    simp [hbl] at hk
                    subst hk
                    exact ⟨b, _, hb, by simpa [baseOf] using hB⟩
                  · exact ⟨c, k, hk, hB⟩
                · rintro ⟨c, k, hk, hB⟩
                  by_cases hbc : b = c
                  · subst hbc
                    rw [hb] at hk
                    simp at hk
                    subst hk
                    exact ⟨b, .arr g z (xs.set i e'), by simp [hbl], by simpa [baseOf] using hB⟩
                  · exact ⟨c, k, by rw [List.getElem?_set]; simp [hbc, hk], hB⟩
              have hne : ∀ B', ¬ ownB G σ B' → (w.setRow B cs').heap[B']? = w.heap[B']? := by
                intro B' hB'
                apply setRow_ext_heap
                rintro rfl
                exact hB' ⟨b, _, hb, hbase⟩
              refine ⟨w.setRow B cs', by simp [Instr.storeAt, Instr.sureAddr, hrun], ⟨?_, ?_, ?_, ?_, ?_, ?_, ?_, ?_, ?_, fun k hk => (hne k (fun ho => by have := (hi.lt_of_own ho).2; omega)).trans (hi.old k hk)⟩, ⟨.refl _, rfl, rfl, rfl, by simp [setRow_size], fun k _ hk => hne k hk, fun B' hB' => .inl ((hown B').1 hB'), fun _ _ _ hv => .inl hv, by simp⟩, hne, hown⟩
              · intro B' o u hu
                have : ¬ ownB G σ B' := fun ho => by rw [hi.sep B' o ho] at hu; simp at hu
                rw [cell_of_heap_eq (hne B' this)]
                exact hi.imm B' o u hu
              · intro c g' y hy
                have := hi.dom c g' y hy
                simpa using this
              · intro c k hk
                rw [List.getElem?_set] at hk
                split at hk
                · rename_i hbc
                  subst hbc
                  simp [hbl] at hk
                  subst hk
                  refine ⟨B, O, cs.size, cs', el, hm.trans (by rw [hn]), hN, setRow_heap w B cs cs' el (0, 0) hh, hsize', by simpa using (by omega : O + xs.length * z ≤ cs.size), hz, fun k => if k = i then ve' else vs k, ?_, ?_⟩
                  · intro k y hk
                    rw [List.getElem?_set] at hk
                    by_cases hki : i = k
                    · subst hki
                      simp [hil] at hk
                      subst hk
                      simpa using re'
                    · simp only [hki, if_false] at hk
                      show RelV G y (if k = i then ve' else vs k)
                      rw [if_neg (Ne.symm hki)]
                      exact hrel k y hk
                  · intro k hk
                    simp only [List.length_set] at hk
                    by_cases hki : k = i
                    · subst hki
                      simp only [if_true]
                      have hsz : ve'.cells.size = z := by
                        have h3 : ve'.cells.toList.length = (vs k).cells.toList.length := by rw [hcells, size_splice _ _ _ hkk]
                        simpa [hvz] using h3
                      refine ⟨hsz, fun j u hu => ?_⟩
                      have hu' : ve'.cells.toList[j]? = some u := by simpa using hu
                      rw [hcells, getElem?_splice _ _ _ hkk, hvl] at hu'
                      have hjz : j < z := by
                        have := (Array.getElem?_eq_some_iff.1 hu).1
                        omega
                      split at hu'
                      · rename_i hin
                        refine ⟨hv1 u (List.mem_of_getElem? hu'), ?_⟩
                        rw [hcs'get, if_pos (by omega), ← hu']
                        congr 1
                        omega
                      · rename_i hin
                        obtain ⟨q1, q2⟩ := hvc j u (by simpa using hu')
                        refine ⟨q1, ?_⟩
                        rw [hcs'get, if_neg (by omega)]
                        simpa using q2
                    · simp only [hki, if_false]
                      obtain ⟨q1, q2⟩ := hcell k hk
                      refine ⟨q1, fun j u hu => ⟨(q2 j u hu).1, ?_⟩⟩
                      have hjz : j < z := by
                        have := (Array.getElem?_eq_some_iff.1 hu).1
                        omega
                      rw [hcs'get, if_neg ?_]
                      · simpa using (q2 j u hu).2
                      · rintro ⟨g1, g2⟩
                        rcases Nat.lt_or_ge k i with hlt | hge
                        · have : (k + 1) * z ≤ i * z := Nat.mul_le_mul_right _ hlt
                          rw [Nat.add_mul] at this
                          omega
                        · have : (i + 1) * z ≤ k * z := Nat.mul_le_mul_right _ (by omega)
                          rw [Nat.add_mul] at this
                          omega
                · rename_i hbc
                  refine (hi.blk c k hk).step (.refl G) fun B' hB' => ?_
                  apply setRow_ext_heap
                  rintro rfl
                  exact hbc (hi.inj b c _ _ B' hb hk hbase hB')
              · intro c c' k k' B' hk hk' hB1 hB2
                have conv : ∀ {c : Nat} {k : Blk}, (σ.set b (.arr g z (xs.set i e')))[c]? = some k → baseOf G c k = some B' → ∃ k0, σ[c]? = some k0 ∧ baseOf G c k0 = some B' := by
                  intro c k hk hB
                  rw [List.getElem?_set] at hk
                  split at hk
                  · rename_i hbc
                    subst hbc
                    simp [hbl] at hk
                    subst hk
                    exact ⟨_, hb, by simpa [baseOf] using hB⟩
                  · exact ⟨k, hk, hB⟩
                obtain ⟨k1, hk1, hb1⟩ := conv hk hB1
                obtain ⟨k2, hk2, hb2⟩ := conv hk' hB2
                exact hi.inj c c' k1 k2 B' hk1 hk2 hb1 hb2
              · intro B' o ho
                exact hi.sep B' o ((hown B').1 ho)
              · simpa [setRow_size] using hi.big
              · intro c g' z' xs' hk g'' hlt
                rw [List.getElem?_set] at hk
                split at hk
                · rename_i hbc
                  subst hbc
                  simp [hbl] at hk
                  exact hi.gen b g z xs hb g'' (by omega)
                · exact hi.gen c g' z' xs' hk g'' hlt
              · intro c v y hy
                have := hi.domH c v y hy
                simpa using this
              · intro c v es hk v' hlt
                rw [List.getElem?_set] at hk
                split at hk
                · rename_i hbc
                  subst hbc
                  simp [hbl] at hk
                · exact hi.genH c v es hk v' hlt
        · simp at h
      | _ => simp [hb] at h
  | _ => simp [vStore] at h

/-! ### New blocks -/

def World.more (w : World) (o : Obj) : World := { w with heap := w.heap.push o }

theorem more_heap (w : World) (o : Obj) (k : Nat) : (World.more w o).heap[k]? = if k = w.heap.size then some o else w.heap[k]? := by
  show (w.heap.push o)[k]? = _
  rw [Array.getElem?_push]

theorem more_heap_lt (w : World) (o : Obj) (k : Nat) (h : k < w.heap.size) : (World.more w o).heap[k]? = w.heap[k]? := by
  rw [more_heap, if_neg (by omega)]

theorem more_size (w : World) (o : Obj) : (World.more w o).heap.size = w.heap.size + 1 := by simp [World.more]

theorem cell_more {w : World} {o : Obj} {a : Addr} {u : Value} (h : w.cell? a = some u) : (World.more w o).cell? a = some u := by
  have hlt : a.block < w.heap.size := by
    unfold World.cell? at h
    rcases Nat.lt_or_ge a.block w.heap.size with h1 | h1
    · exact h1
    · rw [Array.getElem?_eq_none h1] at h
      simp at h
  unfold World.cell? at h ⊢
  rw [more_heap_lt _ _ _ hlt]
  exact h

/-- The ghost with a new place. -/
def Gh.newAt (G : Gh) (b g : Nat) (y : Nat × Nat × Nat × Nat) : Gh := { G with μ := fun c h => if c = b ∧ h = g then some y else G.μ c h }

theorem Gh.newAt_le {G : Gh} {b g : Nat} {y : Nat × Nat × Nat × Nat} (h : G.μ b g = none) : G.le (G.newAt b g y) := by
  refine ⟨fun _ _ _ e => e, fun c k x e => ?_, fun _ _ _ e => e⟩
  simp only [Gh.newAt]
  split
  · rename_i hc
    obtain ⟨rfl, rfl⟩ := hc
    rw [h] at e
    simp at e
  · exact e

theorem Gh.newAt_at (G : Gh) (b g : Nat) (y : Nat × Nat × Nat × Nat) : (G.newAt b g y).μ b g = some y := by simp [Gh.newAt]

theorem RowAt.mono {G G' : Gh} (le : G.le G') {cs : Array Value} {O z : Nat} {xs : List PV} (h : RowAt G cs O z xs) : RowAt G' cs O z xs := by
  obtain ⟨vs, h1, h2⟩ := h
  exact ⟨vs, fun i x hi => (h1 i x hi).mono le, h2⟩

/-- A new block of the store. -/
theorem push_sound {G : Gh} {N : Base} {σ : St} {w : World} (hi : Inv G N σ w) (z : Nat) (xs : List PV) (cs : Array Value) (el : TypeId)
    (hz : 0 < z) (hle : xs.length * z ≤ cs.size) (hr : RowAt G cs 0 z xs) :
    Inv (G.newAt σ.length 0 (w.heap.size, 0, z, cs.size)) N (σ ++ [.arr 0 z xs]) (World.more w (.cells cs el)) ∧
    Ext G σ w (G.newAt σ.length 0 (w.heap.size, 0, z, cs.size)) (σ ++ [.arr 0 z xs]) (World.more w (.cells cs el)) ∧
    (∀ B, ownB (G.newAt σ.length 0 (w.heap.size, 0, z, cs.size)) (σ ++ [.arr 0 z xs]) B → ownB G σ B ∨ B = w.heap.size) := by
  have hnone : G.μ σ.length 0 = none := by
    cases h : G.μ σ.length 0 with
    | none => rfl
    | some y => exact absurd (hi.dom _ _ _ h) (by omega)
  have le := Gh.newAt_le (y := (w.heap.size, 0, z, cs.size)) hnone
  have hget : ∀ c k, (σ ++ [Blk.arr 0 z xs])[c]? = some k → (σ[c]? = some k) ∨ (c = σ.length ∧ k = .arr 0 z xs) := by
    intro c k h
    rw [List.getElem?_append] at h
    split at h
    · exact .inl h
    · rename_i hc
      have hc0 : c - σ.length = 0 := by
        have := (List.getElem?_eq_some_iff.1 h).1
        simp at this
        omega
      rw [hc0] at h
      simp at h
      exact .inr ⟨by omega, h.symm⟩
  have hbn : baseOf (G.newAt σ.length 0 (w.heap.size, 0, z, cs.size)) σ.length (.arr 0 z xs) = some w.heap.size := by simp [baseOf, Gh.newAt_at]
  have hown : ∀ B, ownB (G.newAt σ.length 0 (w.heap.size, 0, z, cs.size)) (σ ++ [.arr 0 z xs]) B → ownB G σ B ∨ B = w.heap.size := by
    rintro B ⟨c, k, hk, hB⟩
    rcases hget c k hk with h1 | ⟨rfl, rfl⟩
    · rw [baseOf_mono le (hi.blk c k h1)] at hB
      exact .inl ⟨c, k, h1, hB⟩
    · rw [hbn] at hB
      exact .inr (Option.some.inj hB).symm
  refine ⟨⟨?_, ?_, ?_, ?_, ?_, ?_, ?_, ?_, ?_, fun k hk => (more_heap_lt _ _ _ (by have := hi.big; omega)).trans (hi.old k hk)⟩, ⟨le, rfl, rfl, rfl, by rw [more_size]; omega, fun k hk _ => more_heap_lt _ _ _ hk, fun B hB => ?_, fun _ _ _ hv => .inl hv, by simp⟩, hown⟩
  · exact fun B o v hv => cell_more (hi.imm B o v hv)
  · intro b g y hy
    simp only [Gh.newAt] at hy
    split at hy
    · rename_i hc; obtain ⟨rfl, rfl⟩ := hc; simp
    · have := hi.dom b g y hy; simp; omega
  · intro c k hk
    rcases hget c k hk with h1 | ⟨rfl, rfl⟩
    · refine (hi.blk c k h1).step le fun B hB => more_heap_lt _ _ _ (hi.lt_of_own ⟨c, k, h1, hB⟩).1
    · refine ⟨w.heap.size, 0, cs.size, cs, el, Gh.newAt_at _ _ _ _, hi.big, by rw [more_heap, if_pos rfl], rfl, by omega, hz, hr.mono le⟩
  · intro b b' k k' B hk hk' hB hB'
    rcases hget b k hk with h1 | ⟨rfl, rfl⟩
    · rw [baseOf_mono le (hi.blk b k h1)] at hB
      rcases hget b' k' hk' with h2 | ⟨rfl, rfl⟩
      · rw [baseOf_mono le (hi.blk b' k' h2)] at hB'
        exact hi.inj b b' k k' B h1 h2 hB hB'
      · rw [hbn] at hB'
        have := (hi.lt_of_own ⟨b, k, h1, hB⟩).1
        simp at hB'
        omega
    · rw [hbn] at hB
      rcases hget b' k' hk' with h2 | ⟨rfl, rfl⟩
      · rw [baseOf_mono le (hi.blk b' k' h2)] at hB'
        have := (hi.lt_of_own ⟨b', k', h2, hB'⟩).1
        simp at hB
        omega
      · rfl
  · intro B o ho
    rcases hown B ho with h1 | rfl
    · exact hi.sep B o h1
    · show G.I w.heap.size o = none
      cases h : G.I w.heap.size o with
      | none => rfl
      | some v =>
        have := hi.imm _ _ _ h
        simp [World.cell?] at this
  · rw [more_size]; have := hi.big; omega
  · intro b g z' xs' hk g' hlt
    simp only [Gh.newAt]
    rw [if_neg (by omega)]
    rcases hget b _ hk with h1 | ⟨rfl, h2⟩
    · exact hi.gen b g z' xs' h1 g' hlt
    · cases h : G.μ σ.length g' with
      | none => rfl
      | some y => exact absurd (hi.dom _ _ _ h) (by omega)
  · intro c v y hy
    have := hi.domH c v y hy
    simp; omega
  · intro c v es hk v' hlt
    rcases hget c _ hk with h1 | ⟨rfl, h2⟩
    · exact hi.genH c v es h1 v' hlt
    · cases h2
  · rcases hown B hB with h1 | rfl
    · exact .inl h1
    · exact .inr (Nat.le_refl _)

/-- The ghost with a block that never changes. -/
def Gh.newImm (G : Gh) (B : Nat) (cs : Array Value) : Gh := { G with I := fun C o => if C = B then cs[o]? else G.I C o }

theorem imm_sound {G : Gh} {N : Base} {σ : St} {w : World} (hi : Inv G N σ w) (cs : Array Value) (el : TypeId) :
    Inv (G.newImm w.heap.size cs) N σ (World.more w (.cells cs el)) ∧ Ext G σ w (G.newImm w.heap.size cs) σ (World.more w (.cells cs el)) ∧ (∀ B, ownB (G.newImm w.heap.size cs) σ B ↔ ownB G σ B) := by
  have hno : ∀ o, G.I w.heap.size o = none := by
    intro o
    cases h : G.I w.heap.size o with
    | none => rfl
    | some v => have := hi.imm _ _ _ h; simp [World.cell?] at this
  have le : G.le (G.newImm w.heap.size cs) := by
    refine ⟨fun B o v e => ?_, fun _ _ _ e => e, fun _ _ _ e => e⟩
    simp only [Gh.newImm]
    split
    · rename_i h; subst h; rw [hno] at e; simp at e
    · exact e
  have hown : ∀ B, ownB (G.newImm w.heap.size cs) σ B ↔ ownB G σ B := by
    intro B
    constructor
    · rintro ⟨c, k, hk, hB⟩
      exact ⟨c, k, hk, by rw [← baseOf_mono le (hi.blk c k hk)]; exact hB⟩
    · rintro ⟨c, k, hk, hB⟩
      exact ⟨c, k, hk, by rw [baseOf_mono le (hi.blk c k hk)]; exact hB⟩
  refine ⟨⟨?_, hi.dom, ?_, ?_, ?_, ?_, hi.gen, hi.domH, hi.genH, fun k hk => (more_heap_lt _ _ _ (by have := hi.big; omega)).trans (hi.old k hk)⟩, ⟨le, rfl, rfl, rfl, by rw [more_size]; omega, fun k hk _ => more_heap_lt _ _ _ hk, fun B hB => .inl ((hown B).1 hB), ?_, Nat.le_refl _⟩, hown⟩
  · intro B o v hv
    simp only [Gh.newImm] at hv
    split at hv
    · rename_i h
      subst h
      simp [World.cell?, more_heap, hv]
    · exact cell_more (hi.imm B o v hv)
  · intro c k hk
    exact (hi.blk c k hk).step le fun B hB => more_heap_lt _ _ _ (hi.lt_of_own ⟨c, k, hk, hB⟩).1
  · intro b b' k k' B hk hk' hB hB'
    rw [baseOf_mono le (hi.blk b k hk)] at hB
    rw [baseOf_mono le (hi.blk b' k' hk')] at hB'
    exact hi.inj b b' k k' B hk hk' hB hB'
  · intro B o ho
    have h1 := (hown B).1 ho
    have h2 := (hi.lt_of_own h1).1
    simp only [Gh.newImm]
    rw [if_neg (by omega)]
    exact hi.sep B o h1
  · rw [more_size]; have := hi.big; omega
  · intro B o v hv
    simp only [Gh.newImm] at hv
    split at hv
    · rename_i h; subst h; exact .inr (.inr (Nat.le_refl _))
    · exact .inl hv

/-! ### A block takes another shape -/

theorem repl_sound {G G' : Gh} {N : Base} {σ : St} {w w' : World} {b g z g' z' B B' O' n' : Nat} {xs ys : List PV} (hi : Inv G N σ w) (hb : σ[b]? = some (.arr g z xs)) (hB : baseOf G b (.arr g z xs) = some B)
    (le : G.le G') (hI : G'.I = G.I) (hH : G'.H = G.H) (hoth : ∀ c h, c ≠ b → G'.μ c h = G.μ c h) (hat : G'.μ b g' = some (B', O', z', n')) (hgen : ∀ h, g' < h → G'.μ b h = none)
    (hB' : B' = B ∨ w.heap.size ≤ B') (hheap : ∀ k, k < w.heap.size → k ≠ B → w'.heap[k]? = w.heap[k]?) (hos : w'.os = w.os) (htape : w'.tape = w.tape) (hout : w'.output = w.output) (hsz : w.heap.size ≤ w'.heap.size)
    (hblk : BlkRel G' N w' b (.arr g' z' ys)) :
    Inv G' N (σ.set b (.arr g' z' ys)) w' ∧ Ext G σ w G' (σ.set b (.arr g' z' ys)) w' := by
  have hbl : b < σ.length := (List.getElem?_eq_some_iff.1 hb).1
  have hBlt := hi.lt_of_own ⟨b, _, hb, hB⟩
  have hget : ∀ c k, (σ.set b (.arr g' z' ys))[c]? = some k → (c ≠ b ∧ σ[c]? = some k) ∨ (c = b ∧ k = .arr g' z' ys) := by
    intro c k hk
    rw [List.getElem?_set] at hk
    split at hk
    · rename_i hc
      subst hc
      simp [hbl] at hk
      exact .inr ⟨rfl, hk.symm⟩
    · rename_i hc
      exact .inl ⟨fun e => hc e.symm, hk⟩
  have hbn : baseOf G' b (.arr g' z' ys) = some B' := by simp [baseOf, hat]
  have hown : ∀ C, ownB G' (σ.set b (.arr g' z' ys)) C → (ownB G σ C ∧ C ≠ B) ∨ C = B' := by
    rintro C ⟨c, k, hk, hC⟩
    rcases hget c k hk with ⟨h1, h2⟩ | ⟨rfl, rfl⟩
    · rw [baseOf_mono le (hi.blk c k h2)] at hC
      refine .inl ⟨⟨c, k, h2, hC⟩, ?_⟩
      rintro rfl
      exact h1 (hi.inj c b _ _ C h2 hb hC hB)
    · rw [hbn] at hC
      exact .inr (Option.some.inj hC).symm
  have hheap2 : ∀ C, C < w.heap.size → ¬ ownB G σ C → w'.heap[C]? = w.heap[C]? := by
    intro C hC hno
    apply hheap C hC
    rintro rfl
    exact hno ⟨b, _, hb, hB⟩
  refine ⟨⟨?_, ?_, ?_, ?_, ?_, ?_, ?_, ?_, ?_, fun k hk => (hheap2 k (by have := hi.big; omega) (fun ho => by have := (hi.lt_of_own ho).2; omega)).trans (hi.old k hk)⟩, ⟨le, hos, htape, hout, hsz, hheap2, ?_, ?_, by simp⟩⟩
  · intro C o v hv
    rw [hI] at hv
    have hno : ¬ ownB G σ C := fun ho => by rw [hi.sep C o ho] at hv; simp at hv
    have hlt : C < w.heap.size := by
      have := hi.imm C o v hv
      unfold World.cell? at this
      rcases Nat.lt_or_ge C w.heap.size with h1 | h1
      · exact h1
      · simp [Array.getElem?_eq_none h1] at this
    rw [cell_of_heap_eq (hheap2 C hlt hno)]
    exact hi.imm C o v hv
  · intro c h y hy
    rw [List.length_set]
    by_cases hc : c = b
    · omega
    · rw [hoth c h hc] at hy; exact hi.dom c h y hy
  · intro c k hk
    rcases hget c k hk with ⟨h1, h2⟩ | ⟨rfl, rfl⟩
    · refine (hi.blk c k h2).step le fun C hC => hheap C (hi.lt_of_own ⟨c, k, h2, hC⟩).1 ?_
      rintro rfl
      exact h1 (hi.inj c b _ _ C h2 hb hC hB)
    · exact hblk
  · intro c c' k k' C hk hk' hC hC'
    rcases hget c k hk with ⟨h1, h2⟩ | ⟨rfl, rfl⟩
    · rw [baseOf_mono le (hi.blk c k h2)] at hC
      have hCB : C ≠ B := by
        rintro rfl
        exact h1 (hi.inj c b _ _ C h2 hb hC hB)
      rcases hget c' k' hk' with ⟨h3, h4⟩ | ⟨rfl, rfl⟩
      · rw [baseOf_mono le (hi.blk c' k' h4)] at hC'
        exact hi.inj c c' _ _ C h2 h4 hC hC'
      · rw [hbn] at hC'
        have := (hi.lt_of_own ⟨c, k, h2, hC⟩).1
        have hCC := Option.some.inj hC'
        rcases hB' with h5 | h5
        · exact absurd (by rw [← hCC, h5]) hCB
        · omega
    · rw [hbn] at hC
      rcases hget c' k' hk' with ⟨h3, h4⟩ | ⟨rfl, rfl⟩
      · rw [baseOf_mono le (hi.blk c' k' h4)] at hC'
        have hCB : C ≠ B := by
          rintro rfl
          exact h3 (hi.inj c' _ _ _ C h4 hb hC' hB)
        have := (hi.lt_of_own ⟨c', k', h4, hC'⟩).1
        have hCC := Option.some.inj hC
        rcases hB' with h5 | h5
        · exact absurd (by rw [← hCC, h5]) hCB
        · omega
      · rfl
  · intro C o ho
    rw [hI]
    rcases hown C ho with h1 | rfl
    · exact hi.sep C o h1.1
    · rcases hB' with h5 | h5
      · exact hi.sep C o ⟨b, _, hb, by rw [h5]; exact hB⟩
      · cases h : G.I C o with
        | none => rfl
        | some v =>
          have := hi.imm C o v h
          unfold World.cell? at this
          simp [Array.getElem?_eq_none h5] at this
  · have := hi.big; omega
  · intro c h z'' xs'' hk h' hlt
    rcases hget c _ hk with ⟨h1, h2⟩ | ⟨rfl, h2⟩
    · rw [hoth c _ h1]; exact hi.gen c h z'' xs'' h2 h' hlt
    · simp at h2
      exact hgen h' (by omega)
  · intro c v y hy
    rw [hH] at hy
    rw [List.length_set]
    exact hi.domH c v y hy
  · intro c v es hk v' hlt
    rw [hH]
    rcases hget c _ hk with ⟨h1, h2⟩ | ⟨rfl, h2⟩
    · exact hi.genH c v es h2 v' hlt
    · cases h2
  · intro C hC
    rcases hown C hC with h1 | rfl
    · exact .inl h1.1
    · rcases hB' with h5 | h5
      · exact .inl ⟨b, _, hb, by rw [h5]; exact hB⟩
      · exact .inr h5
  · intro C o v hv
    rw [hI] at hv
    exact .inl hv

end Go.Abs
