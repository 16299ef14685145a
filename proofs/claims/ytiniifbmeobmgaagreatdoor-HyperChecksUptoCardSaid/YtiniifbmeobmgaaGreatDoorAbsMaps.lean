/- Maps: finding, setting, ranging. -/
import Derived.Test.YtiniifbmeobmgaaGreatDoorAbsOps4
set_option linter.unusedVariables false
set_option linter.unusedSimpArgs false
namespace Go.Abs

section
variable {P : Program} {G : Gh} {w : World}

theorem zeroOf_run {P : Program} {t : TypeId} {z : PV} (w : World) (h : zeroOf P t = some z) : ∃ v, (zeroValue t).run P w = .ok v w ∧ ofVal v = z := by
  unfold zeroOf at h
  split at h
  · rename_i i hi
    split at h
    · rename_i v hv
      simp only [Option.some.injEq] at h
      exact ⟨v, by simp [zeroValue, typeInfo, hi, hv], h⟩
    · simp at h
  · simp at h

/-- The kind of a key's type. -/
theorem eqScalar_kind {t : TypeId} {k : EK1} (h : eqScalar P t = some k) : ∃ d, P.underlying t = some d ∧ ((d = .bool ∧ k = .bool) ∨ (∃ i, d = .int i ∧ k = .int) ∨ (d = .string ∧ k = .str)) := by
  unfold eqScalar at h
  split at h
  · rename_i hu; simp at h; exact ⟨_, hu, .inl ⟨rfl, h.symm⟩⟩
  · rename_i i hu; simp at h; exact ⟨_, hu, .inr (.inl ⟨i, rfl, h.symm⟩)⟩
  · rename_i hu; simp at h; exact ⟨_, hu, .inr (.inr ⟨rfl, h.symm⟩)⟩
  · cases h

theorem same_sound {d : TypeDesc} {k : EK1} (hd : (d = .bool ∧ k = .bool) ∨ (∃ i, d = .int i ∧ k = .int) ∨ (d = .string ∧ k = .str)) {x y : PV} {vx vy : Value} {b : Bool} (rx : RelV G x vx) (ry : RelV G y vy) (h : vEqS k x y = some b) :
    Instr.sameNow d vx vy = some b := by
  rcases hd with ⟨rfl, rfl⟩ | ⟨i, rfl, rfl⟩ | ⟨rfl, rfl⟩
  · cases x <;> cases y <;> simp only [vEqS, reduceCtorEq, Option.some.injEq] at h
    subst h
    rw [rx.bool_inv, ry.bool_inv]
    rfl
  · cases x <;> cases y <;> simp only [vEqS, reduceCtorEq] at h
    rw [rx.int_inv, ry.int_inv]
    exact h
  · cases x <;> cases y <;> simp only [vEqS, reduceCtorEq, Option.some.injEq] at h
    subst h
    cases rx
    cases ry
    rename_i s s'
    have hbeq : ∀ a b : ByteArray, (a == b) = (a.data.toList == b.data.toList) := by
      intro a b
      obtain ⟨a⟩ := a
      obtain ⟨b⟩ := b
      have h0 : ((⟨a⟩ : ByteArray) == ⟨b⟩) = (a == b) := rfl
      rw [h0]
      obtain ⟨a⟩ := a
      obtain ⟨b⟩ := b
      by_cases hab : a = b
      · subst hab; simp
      · simp [hab]
    simp only [Instr.sameNow, Option.some.injEq]
    exact hbeq _ _

theorem find_sound {d : TypeDesc} {k : EK1} (hd : (d = .bool ∧ k = .bool) ∨ (∃ i, d = .int i ∧ k = .int) ∨ (d = .string ∧ k = .str)) {key : PV} {vk : Value} (rk : RelV G key vk) :
    ∀ (es : List (PV × PV)) (ents : List MapEntry) (i : Nat), es.length = ents.length → (∀ (j : Nat) (e : PV × PV) (m : MapEntry), es[j]? = some e → ents[j]? = some m → RelV G e.1 m.key ∧ RelV G e.2 m.val) →
      ∀ r, vFind k key es i = some r → ∃ r', Instr.findNow d vk ents i = some r' ∧ match r, r' with
        | none, none => True
        | some (a, x), some (b, v) => a = b ∧ RelV G x v ∧ i ≤ a ∧ ∃ e m, es[a - i]? = some e ∧ ents[a - i]? = some m ∧ e.2 = x ∧ m.val = v ∧ vEqS k key e.1 = some true
        | _, _ => False
  | [], [], i, hl, hr, r, h => by
    simp only [vFind, Option.some.injEq] at h
    subst h
    exact ⟨none, rfl, trivial⟩
  | [], _ :: _, i, hl, hr, r, h => by simp at hl
  | _ :: _, [], i, hl, hr, r, h => by simp at hl
  | e :: es, m :: ents, i, hl, hr, r, h => by
    obtain ⟨r1, r2⟩ := hr 0 e m rfl rfl
    simp only [vFind] at h
    split at h
    · rename_i hs
      simp only [Option.some.injEq] at h
      subst h
      refine ⟨some (i, m.val), by simp only [Instr.findNow, same_sound hd rk r1 hs], rfl, r2, Nat.le_refl _, e, m, by simp, by simp, rfl, rfl, hs⟩
    · rename_i hs
      obtain ⟨r', h1, h2⟩ := find_sound hd rk es ents (i + 1) (by simpa using hl) (fun j e m he hm => hr (j + 1) e m (by simpa using he) (by simpa using hm)) r h
      refine ⟨r', by simp only [Instr.findNow, same_sound hd rk r1 hs, h1], ?_⟩
      cases r with
      | none => cases r' with
        | none => trivial
        | some q => exact h2.elim
      | some p => cases r' with
        | none => exact h2.elim
        | some q =>
          obtain ⟨h3, h4, h5, e', m', h6, h7, h8⟩ := h2
          refine ⟨h3, h4, by omega, e', m', ?_, ?_, h8⟩
          · rw [show p.1 - i = (p.1 - (i + 1)) + 1 by omega]; simpa using h6
          · rw [show p.1 - i = (p.1 - (i + 1)) + 1 by omega]; simpa using h7
    · cases h

theorem checkKey_run {t : TypeId} {d : TypeDesc} {k : EK1} (hu : P.underlying t = some d) (hd : (d = .bool ∧ k = .bool) ∨ (∃ i, d = .int i ∧ k = .int) ∨ (d = .string ∧ k = .str)) (empty : Bool) (v : Value) :
    (Instr.checkKey empty 10000 t v).run P w = .ok () w := by
  show (Instr.checkKey empty (9999 + 1) t v).run P w = _
  rw [Instr.checkKey, Sem.run_bind, run_underlying hu]
  rcases hd with ⟨rfl, rfl⟩ | ⟨i, rfl, rfl⟩ | ⟨rfl, rfl⟩ <;> rfl

theorem lookup_sound {N : Base} {σ : St} {t kt et : TypeId} {k : EK1} {z m key r : PV} {vm vk : Value} {ok : Bool} (hi : Inv G N σ w) (ht : mapOf? P t = some (kt, et)) (hk : eqScalar P kt = some k) (hz : zeroOf P et = some z)
    (rm : RelV G m vm) (rk : RelV G key vk) (h : vLookup k z ok m key σ = some r) : ∃ v, (Instr.lookup t vm vk ok).run P w = .ok v w ∧ RelV G r v := by
  obtain ⟨d, hu, hd⟩ := eqScalar_kind hk
  have htu : P.underlying t = some (.map kt et) := by
    unfold mapOf? at ht
    split at ht
    · rename_i hh; simp at ht; obtain ⟨rfl, rfl⟩ := ht; exact hh
    · cases ht
  obtain ⟨zv, hzv, hzr⟩ := zeroOf_run (P := P) w hz
  have rz : RelV G z zv := hzr ▸ rel_ofVal G zv
  have pair : ∀ {x : PV} {v : Value} (b : Bool), RelV G x v → RelV G (if ok then .tuple [x, .bool b] else x) (if ok then .tuple #[v, .bool b] else v) := by
    intro x v b rx
    cases ok with
    | false => exact rx
    | true =>
      refine .tuple _ _ rfl fun i y u hy hu => ?_
      match i with
      | 0 => simp at hy hu; subst hy; subst hu; exact rx
      | 1 => simp at hy hu; subst hy; subst hu; exact .bool b
      | i + 2 => simp at hy
  cases m with
  | nilmap =>
    cases rm
    simp only [vLookup] at h
    split at h
    · simp only [Option.some.injEq] at h
      subst h
      refine ⟨_, ?_, pair false rz⟩
      simp only [Instr.lookup, Sem.run_bind, run_underlying htu, Result.andThen_ok, Sem.run_pure, checkKey_run hu hd, Instr.findKey, run_underlying hu, Instr.findNow, hzv]
    · cases h
  | mref b =>
    cases rm with | mref _ B hm =>
    simp only [vLookup] at h
    cases hb : σ[b]? with
    | none => simp [hb] at h
    | some blk =>
      rw [hb] at h
      cases blk with
      | map v es =>
        simp only at h
        split at h
        · obtain ⟨B', ents, clock, hm', hN, hh, hl, hent, _⟩ := hi.blk b _ hb
          rw [hm] at hm'
          simp only [Option.some.injEq, Prod.mk.injEq] at hm'
          obtain ⟨rfl, _⟩ := hm'
          cases hf : vFind k key es 0 with
          | none => simp [hf] at h
          | some q =>
            obtain ⟨q', h1, h2⟩ := find_sound hd rk es ents.toList 0 (by simp [hl]) (fun j e m he hm => hent j e m he (by simpa using hm)) q hf
            rw [hf] at h
            have hobj : (getObj B).run P w = .ok (.map ents clock) w := by simp [getObj, Sem.run, hh]
            cases q with
            | none => cases q' with
              | some _ => exact h2.elim
              | none =>
                simp only [Option.some.injEq] at h
                subst h
                refine ⟨_, ?_, pair false rz⟩
                simp only [Instr.lookup, Sem.run_bind, run_underlying htu, hobj, Result.andThen_ok, Sem.run_pure, checkKey_run hu hd, Instr.findKey, run_underlying hu, h1, hzv]
            | some p => cases q' with
              | none => exact h2.elim
              | some p' =>
                obtain ⟨_, h4, _⟩ := h2
                simp only [Option.some.injEq] at h
                subst h
                refine ⟨_, ?_, pair true h4⟩
                simp only [Instr.lookup, Sem.run_bind, run_underlying htu, hobj, Result.andThen_ok, Sem.run_pure, checkKey_run hu hd, Instr.findKey, run_underlying hu, h1, hzv]
        · cases h
      | _ => simp at h
  | _ => simp [vLookup] at h

theorem assert_sound {t t0 : TypeId} {z x r : PV} {vx : Value} {ok : Bool} (hn : noIface P t = true) (hz : zeroOf P t = some z) (rx : RelV G x vx) (h : vAssert t z ok x = some r) :
    ∃ v, (Instr.typeAssert vx t0 t ok).run P w = .ok v w ∧ RelV G r v := by
  obtain ⟨zv, hzv, hzr⟩ := zeroOf_run (P := P) w hz
  have rz : RelV G z zv := hzr ▸ rel_ofVal G zv
  have tup : ∀ {x : PV} {v : Value} (b : Bool), RelV G x v → RelV G (.tuple [x, .bool b]) (.tuple #[v, .bool b]) := by
    intro x v b rx
    refine .tuple _ _ rfl fun i y u hy hu => ?_
    match i with
    | 0 => simp at hy hu; subst hy; subst hu; exact rx
    | 1 => simp at hy hu; subst hy; subst hu; exact .bool b
    | i + 2 => simp at hy
  unfold noIface at hn
  cases hu : P.underlying t with
  | none => simp [hu] at hn
  | some d =>
    rw [hu] at hn
    cases x with
    | iface t' p =>
      cases rx with | iface _ _ v rv =>
      simp only [vAssert] at h
      split at h
      · rename_i ht
        subst ht
        simp only [Option.some.injEq] at h
        subst h
        cases ok with
        | true => exact ⟨.tuple #[v, .bool true], by cases d <;> first | (simp at hn; done) | simp [Instr.typeAssert, run_underlying hu], tup true rv⟩
        | false => exact ⟨v, by cases d <;> first | (simp at hn; done) | simp [Instr.typeAssert, run_underlying hu], rv⟩
      · rename_i ht
        split at h
        · rename_i hok
          subst hok
          simp only [Option.some.injEq] at h
          subst h
          exact ⟨.tuple #[zv, .bool false], by cases d <;> first | (simp at hn; done) | simp [Instr.typeAssert, run_underlying hu, ht, hzv], tup false rz⟩
        · cases h
    | nilIface =>
      cases rx
      simp only [vAssert] at h
      split at h
      · rename_i hok
        subst hok
        simp only [Option.some.injEq] at h
        subst h
        exact ⟨.tuple #[zv, .bool false], by cases d <;> first | (simp at hn; done) | simp [Instr.typeAssert, run_underlying hu, hzv], tup false rz⟩
      · cases h
    | _ => simp [vAssert] at h

/-- A new block of any kind. -/
theorem pushG_sound {G' : Gh} {N : Base} {σ : St} {ob : Obj} {k0 : Blk} (hi : Inv G N σ w) (le : G.le G') (hI : G'.I = G.I) (hoth : ∀ c h, c ≠ σ.length → G'.μ c h = G.μ c h) (hothH : ∀ c h, c ≠ σ.length → G'.H c h = G.H c h)
    (hbn : baseOf G' σ.length k0 = some w.heap.size) (hblk : BlkRel G' N (World.more w ob) σ.length k0)
    (hga : ∀ g z xs, k0 = .arr g z xs → ∀ g', g < g' → G'.μ σ.length g' = none) (hgm : ∀ v es, k0 = .map v es → ∀ v', v < v' → G'.H σ.length v' = none) :
    Inv G' N (σ ++ [k0]) (World.more w ob) ∧ Ext G σ w G' (σ ++ [k0]) (World.more w ob) := by
  have hget : ∀ c k, (σ ++ [k0])[c]? = some k → (σ[c]? = some k) ∨ (c = σ.length ∧ k = k0) := by
    intro c k h
    rw [List.getElem?_append] at h
    split at h
    · exact .inl h
    · rename_i hc
      have hc0 : c - σ.length = 0 := by
        have := (List.getElem?_eq_some_iff.1 h).1
        simp at this
        omega
      rw [hc0] at h
      simp at h
      exact .inr ⟨by omega, h.symm⟩
  have hown : ∀ B, ownB G' (σ ++ [k0]) B → ownB G σ B ∨ B = w.heap.size := by
    rintro B ⟨c, k, hk, hB⟩
    rcases hget c k hk with h1 | ⟨rfl, rfl⟩
    · rw [baseOf_mono le (hi.blk c k h1)] at hB
      exact .inl ⟨c, k, h1, hB⟩
    · rw [hbn] at hB
      exact .inr (Option.some.inj hB).symm
  have hlt : ∀ {c k}, σ[c]? = some k → c ≠ σ.length := fun h => by have := (List.getElem?_eq_some_iff.1 h).1; omega
  refine ⟨⟨?_, ?_, ?_, ?_, ?_, ?_, ?_, ?_, ?_, fun k hk => (more_heap_lt _ _ _ (by have := hi.big; omega)).trans (hi.old k hk)⟩, ⟨le, rfl, rfl, rfl, by rw [more_size]; omega, fun k hk _ => more_heap_lt _ _ _ hk, fun B hB => ?_, fun _ _ _ hv => .inl (by rw [hI] at hv; exact hv), by simp⟩⟩
  · intro B o v hv
    rw [hI] at hv
    exact cell_more (hi.imm B o v hv)
  · intro b g y hy
    by_cases hb : b = σ.length
    · subst hb; simp
    · rw [hoth b g hb] at hy
      have := hi.dom b g y hy; simp; omega
  · intro c k hk
    rcases hget c k hk with h1 | ⟨rfl, rfl⟩
    · exact (hi.blk c k h1).step le fun B hB => more_heap_lt _ _ _ (hi.lt_of_own ⟨c, k, h1, hB⟩).1
    · exact hblk
  · intro b b' k k' B hk hk' hB hB'
    rcases hget b k hk with h1 | ⟨rfl, rfl⟩
    · rw [baseOf_mono le (hi.blk b k h1)] at hB
      rcases hget b' k' hk' with h2 | ⟨rfl, rfl⟩
      · rw [baseOf_mono le (hi.blk b' k' h2)] at hB'
        exact hi.inj b b' k k' B h1 h2 hB hB'
      · rw [hbn] at hB'
        have := (hi.lt_of_own ⟨b, k, h1, hB⟩).1
        simp at hB'
        omega
    · rw [hbn] at hB
      rcases hget b' k' hk' with h2 | ⟨rfl, rfl⟩
      · rw [baseOf_mono le (hi.blk b' k' h2)] at hB'
        have := (hi.lt_of_own ⟨b', k', h2, hB'⟩).1
        simp at hB
        omega
      · rfl
  · intro B o ho
    rw [hI]
    rcases hown B ho with h1 | rfl
    · exact hi.sep B o h1
    · cases h : G.I w.heap.size o with
      | none => rfl
      | some v =>
        have := hi.imm _ _ _ h
        simp [World.cell?] at this
  · rw [more_size]; have := hi.big; omega
  · intro b g z' xs' hk g' hg
    rcases hget b _ hk with h1 | ⟨rfl, h2⟩
    · rw [hoth b g' (hlt h1)]; exact hi.gen b g z' xs' h1 g' hg
    · exact hga g z' xs' h2.symm g' hg
  · intro b n y hy
    by_cases hb : b = σ.length
    · subst hb; simp
    · rw [hothH b n hb] at hy
      have := hi.domH b n y hy; simp; omega
  · intro b v es hk v' hg
    rcases hget b _ hk with h1 | ⟨rfl, h2⟩
    · rw [hothH b v' (hlt h1)]; exact hi.genH b v es h1 v' hg
    · exact hgm v es h2.symm v' hg
  · rcases hown B hB with h1 | rfl
    · exact .inl h1
    · exact .inr (Nat.le_refl _)

/-- The ghost with what a map holds. -/
def Gh.newH (G : Gh) (b n : Nat) (y : Array MapEntry × Nat) : Gh := { G with H := fun c h => if c = b ∧ h = n then some y else G.H c h }

theorem makeMap_sound {N : Base} {σ : St} {t : TypeId} (hi : Inv G N σ w) :
    ∃ v w' G', (Instr.makeMap t none).run P w = .ok v w' ∧ Inv G' N (σ ++ [.map 0 []]) w' ∧ Ext G σ w G' (σ ++ [.map 0 []]) w' ∧ RelV G' (.mref σ.length) v := by
  have hnone : G.μ σ.length 0 = none := by
    cases h : G.μ σ.length 0 with
    | none => rfl
    | some y => exact absurd (hi.dom _ _ _ h) (by omega)
  have hnoneH : ∀ n, G.H σ.length n = none := by
    intro n
    cases h : G.H σ.length n with
    | none => rfl
    | some y => exact absurd (hi.domH _ _ _ h) (by omega)
  have hat : ((G.newAt σ.length 0 (w.heap.size, 0, 0, 0)).newH σ.length 0 (#[], 0)).μ σ.length 0 = some (w.heap.size, 0, 0, 0) := Gh.newAt_at _ _ _ _
  obtain ⟨p1, p2⟩ := pushG_sound (G' := (G.newAt σ.length 0 (w.heap.size, 0, 0, 0)).newH σ.length 0 (#[], 0)) (ob := .map #[] 0) (k0 := .map 0 []) hi
    ⟨(Gh.newAt_le (y := (w.heap.size, 0, 0, 0)) hnone).imm, (Gh.newAt_le (y := (w.heap.size, 0, 0, 0)) hnone).at_, fun b n x h => by
      simp only [Gh.newH]
      split
      · rename_i hc; obtain ⟨rfl, rfl⟩ := hc; rw [hnoneH] at h; cases h
      · exact h⟩ rfl (fun c h hc => by simp [Gh.newH, Gh.newAt, hc]) (fun c h hc => by simp [Gh.newH, Gh.newAt, hc])
    (by simp [baseOf, hat])
    ⟨w.heap.size, #[], 0, hat, hi.big, by rw [more_heap, if_pos rfl], rfl, fun i e m he hm => by simp at he, by simp [Gh.newH], ⟨fun i m hm => by simp at hm, fun i j m m' hm => by simp at hm⟩⟩
    (fun g z xs h => by cases h) (fun v es h v' hv => by
      cases h
      simp only [Gh.newH]
      rw [if_neg (by omega)]
      exact hnoneH v')
  exact ⟨.map (some w.heap.size), _, _, rfl, p1, p2, .mref _ _ hat⟩

/-- A block takes another content, in its place. -/
theorem chgG_sound {G' : Gh} {N : Base} {σ : St} {w' : World} {b B : Nat} {k0 k1 : Blk} (hi : Inv G N σ w) (hb : σ[b]? = some k0) (hB : baseOf G b k0 = some B)
    (le : G.le G') (hI : G'.I = G.I) (hμ : G'.μ = G.μ) (hothH : ∀ c h, c ≠ b → G'.H c h = G.H c h)
    (hbn : baseOf G' b k1 = some B) (hheap : ∀ k, k ≠ B → w'.heap[k]? = w.heap[k]?) (hos : w'.os = w.os) (htape : w'.tape = w.tape) (hout : w'.output = w.output) (hsz : w'.heap.size = w.heap.size)
    (hblk : BlkRel G' N w' b k1) (hna : ∀ g z xs, k1 ≠ .arr g z xs) (hgm : ∀ v es, k1 = .map v es → ∀ v', v < v' → G'.H b v' = none) :
    Inv G' N (σ.set b k1) w' ∧ Ext G σ w G' (σ.set b k1) w' := by
  have hbl : b < σ.length := (List.getElem?_eq_some_iff.1 hb).1
  have hget : ∀ c k, (σ.set b k1)[c]? = some k → (c ≠ b ∧ σ[c]? = some k) ∨ (c = b ∧ k = k1) := by
    intro c k hk
    rw [List.getElem?_set] at hk
    split at hk
    · rename_i hc
      subst hc
      simp [hbl] at hk
      exact .inr ⟨rfl, hk.symm⟩
    · rename_i hc
      exact .inl ⟨fun e => hc e.symm, hk⟩
  have hown : ∀ C, ownB G' (σ.set b k1) C → ownB G σ C := by
    rintro C ⟨c, k, hk, hC⟩
    rcases hget c k hk with ⟨h1, h2⟩ | ⟨rfl, rfl⟩
    · rw [baseOf_mono le (hi.blk c k h2)] at hC
      exact ⟨c, k, h2, hC⟩
    · rw [hbn] at hC
      cases hC
      exact ⟨c, k0, hb, hB⟩
  have hheap2 : ∀ C, ¬ ownB G σ C → w'.heap[C]? = w.heap[C]? := by
    intro C hno
    apply hheap C
    rintro rfl
    exact hno ⟨b, _, hb, hB⟩
  refine ⟨⟨?_, ?_, ?_, ?_, ?_, ?_, ?_, ?_, ?_, fun k hk => (hheap2 k (fun ho => by have := (hi.lt_of_own ho).2; omega)).trans (hi.old k hk)⟩, ⟨le, hos, htape, hout, by omega, fun k _ hn => hheap2 k hn, fun C hC => .inl (hown C hC), fun C o v hv => .inl (by rw [hI] at hv; exact hv), by simp⟩⟩
  · intro C o v hv
    rw [hI] at hv
    have hno : ¬ ownB G σ C := fun ho => by rw [hi.sep C o ho] at hv; simp at hv
    rw [cell_of_heap_eq (hheap2 C hno)]
    exact hi.imm C o v hv
  · intro c h y hy
    rw [List.length_set]
    rw [hμ] at hy
    exact hi.dom c h y hy
  · intro c k hk
    rcases hget c k hk with ⟨h1, h2⟩ | ⟨rfl, rfl⟩
    · refine (hi.blk c k h2).step le fun C hC => hheap C ?_
      rintro rfl
      exact h1 (hi.inj c b _ _ C h2 hb hC hB)
    · exact hblk
  · intro c c' k k' C hk hk' hC hC'
    rcases hget c k hk with ⟨h1, h2⟩ | ⟨rfl, rfl⟩
    · rw [baseOf_mono le (hi.blk c k h2)] at hC
      rcases hget c' k' hk' with ⟨h3, h4⟩ | ⟨rfl, rfl⟩
      · rw [baseOf_mono le (hi.blk c' k' h4)] at hC'
        exact hi.inj c c' _ _ C h2 h4 hC hC'
      · rw [hbn] at hC'
        cases hC'
        exact hi.inj c _ _ _ _ h2 hb hC hB
    · rw [hbn] at hC
      cases hC
      rcases hget c' k' hk' with ⟨h3, h4⟩ | ⟨rfl, rfl⟩
      · rw [baseOf_mono le (hi.blk c' k' h4)] at hC'
        exact hi.inj _ c' _ _ _ hb h4 hB hC'
      · rfl
  · intro C o ho
    rw [hI]
    exact hi.sep C o (hown C ho)
  · rw [hsz]; exact hi.big
  · intro c h z'' xs'' hk h' hlt
    rcases hget c _ hk with ⟨h1, h2⟩ | ⟨rfl, h2⟩
    · rw [hμ]; exact hi.gen c h z'' xs'' h2 h' hlt
    · exact absurd h2.symm (hna _ _ _)
  · intro c v y hy
    rw [List.length_set]
    by_cases hc : c = b
    · subst hc; exact hbl
    · rw [hothH c v hc] at hy; exact hi.domH c v y hy
  · intro c v es hk v' hlt
    rcases hget c _ hk with ⟨h1, h2⟩ | ⟨rfl, h2⟩
    · rw [hothH c _ h1]; exact hi.genH c v es h2 v' hlt
    · exact hgm v es h2.symm v' hlt

def World.put (w : World) (B : Nat) (o : Obj) : World := { w with heap := w.heap.setIfInBounds B o }

theorem put_heap {w : World} {B : Nat} {o o' : Obj} (h : w.heap[B]? = some o') : (World.put w B o).heap[B]? = some o := by
  have := (Array.getElem?_eq_some_iff.1 h).1
  simp [World.put, this]

theorem put_heap_ne {w : World} {B k : Nat} {o : Obj} (h : k ≠ B) : (World.put w B o).heap[k]? = w.heap[k]? := by
  simp [World.put, Array.getElem?_setIfInBounds_ne (Ne.symm h)]

theorem keys_same {d : TypeDesc} {k : EK1} (hd : (d = .bool ∧ k = .bool) ∨ (∃ i, d = .int i ∧ k = .int) ∨ (d = .string ∧ k = .str)) {x y : PV} {vx vy : Value} (rx : RelV G x vx) (ry : RelV G y vy) (h : vEqS k x y = some true) :
    Instr.sameBits 10000 vy vx = true := by
  cases k <;> cases x <;> cases y <;> simp only [vEqS, reduceCtorEq, Option.some.injEq] at h
  · rw [rx.bool_inv, ry.bool_inv]
    simp only [beq_iff_eq] at h
    subst h
    show (_ == _) = true
    simp
  · split at h
    · rename_i hk
      subst hk
      simp only [Option.some.injEq, beq_iff_eq] at h
      subst h
      rw [rx.int_inv, ry.int_inv]
      show (_ == _ && _ == _) = true
      simp
    · cases h
  · simp only [beq_iff_eq] at h
    cases rx
    cases ry
    rename_i s s'
    obtain ⟨⟨s⟩⟩ := s
    obtain ⟨⟨s'⟩⟩ := s'
    simp only at h
    subst h
    show ((⟨⟨s⟩⟩ : ByteArray) == ⟨⟨s⟩⟩) = true
    show ((⟨s⟩ : Array UInt8) == ⟨s⟩) = true
    simp

theorem mapOf_some {t kt et : TypeId} (ht : mapOf? P t = some (kt, et)) : P.underlying t = some (.map kt et) := by
  unfold mapOf? at ht
  split at ht
  · rename_i hh; simp at ht; obtain ⟨rfl, rfl⟩ := ht; exact hh
  · cases ht

/-- A map gets another content. -/
theorem setMap_sound {N : Base} {σ : St} {b n : Nat} {es es' : List (PV × PV)} {B : Nat} {ents ents' : Array MapEntry} {clock clock' : Nat} (hi : Inv G N σ w) (hb : σ[b]? = some (.map n es)) (hm : G.μ b 0 = some (B, 0, 0, 0)) (hN : N.n ≤ B)
    (hh : w.heap[B]? = some (.map ents clock)) (hl : ents'.size = es'.length) (hr : ∀ (i : Nat) (e : PV × PV) (m : MapEntry), es'[i]? = some e → ents'[i]? = some m → RelV G e.1 m.key ∧ RelV G e.2 m.val) (hok : EntsOk ents' clock') :
    (setObj B (.map ents' clock')).run P w = .ok () (World.put w B (.map ents' clock')) ∧
    Inv (G.newH b (n + 1) (ents', clock')) N (σ.set b (.map (n + 1) es')) (World.put w B (.map ents' clock')) ∧ Ext G σ w (G.newH b (n + 1) (ents', clock')) (σ.set b (.map (n + 1) es')) (World.put w B (.map ents' clock')) := by
  have le : G.le (G.newH b (n + 1) (ents', clock')) := by
    refine ⟨fun _ _ _ h => h, fun _ _ _ h => h, fun c v x h => ?_⟩
    simp only [Gh.newH]
    split
    · rename_i hc
      obtain ⟨rfl, rfl⟩ := hc
      rw [hi.genH _ _ _ hb (n + 1) (by omega)] at h
      cases h
    · exact h
  refine ⟨by simp [setObj, Sem.run, hh, World.put], ?_⟩
  refine chgG_sound (B := B) (k0 := .map n es) hi hb (by simp [baseOf, hm]) le rfl rfl (fun c h hc => by simp [Gh.newH, hc]) (by simp [baseOf, Gh.newH, hm]) (fun k hk => put_heap_ne hk) rfl rfl rfl (by simp [World.put]) ?_ (fun _ _ _ h => by cases h) (fun v es h v' hv => ?_)
  · exact ⟨B, ents', clock', hm, hN, put_heap hh, hl, fun i e m he hm => ⟨(hr i e m he hm).1.mono le, (hr i e m he hm).2.mono le⟩, by simp [Gh.newH], hok⟩
  · cases h
    simp only [Gh.newH]
    rw [if_neg (by omega)]
    exact hi.genH _ _ _ hb v' (by omega)

theorem mapUpdate_sound {N : Base} {σ σ' : St} {t kt et : TypeId} {k : EK1} {m key x : PV} {vm vk v : Value} (hi : Inv G N σ w) (ht : mapOf? P t = some (kt, et)) (hk : eqScalar P kt = some k)
    (rm : RelV G m vm) (rk : RelV G key vk) (rx : RelV G x v) (h : vMapSet k m key x σ = some σ') :
    ∃ w' G', (Instr.mapUpdate t vm vk v).run P w = .ok () w' ∧ Inv G' N σ' w' ∧ Ext G σ w G' σ' w' := by
  obtain ⟨d, hu, hd⟩ := eqScalar_kind hk
  have htu := mapOf_some ht
  cases m with
  | mref b =>
    cases rm with | mref _ B hm =>
    simp only [vMapSet] at h
    cases hb : σ[b]? with
    | none => simp [hb] at h
    | some blk =>
      rw [hb] at h
      cases blk with
      | map n es =>
        simp only at h
        split at h
        · obtain ⟨B', ents, clock, hm', hN, hh, hl, hent, hH, hok⟩ := hi.blk b _ hb
          rw [hm] at hm'
          simp only [Option.some.injEq, Prod.mk.injEq] at hm'
          obtain ⟨rfl, _⟩ := hm'
          cases hf : vFind k key es 0 with
          | none => simp [hf] at h
          | some q =>
            obtain ⟨q', h1, h2⟩ := find_sound hd rk es ents.toList 0 (by simp [hl]) (fun j e m he hm => hent j e m he (by simpa using hm)) q hf
            rw [hf] at h
            have hobj : (getObj B).run P w = .ok (.map ents clock) w := by simp [getObj, Sem.run, hh]
            cases q with
            | none => cases q' with
              | some _ => exact h2.elim
              | none =>
                simp only [Option.some.injEq] at h
                subst h
                obtain ⟨q1, q2, q3⟩ := setMap_sound (P := P) (es' := es ++ [(key, x)]) (ents' := ents.push { key := vk, val := v, born := clock }) (clock' := clock + 1) hi hb hm hN hh (by simp [hl]) (fun i e m he hm => by
                  rw [Array.getElem?_push] at hm
                  rw [List.getElem?_append] at he
                  split at hm
                  · rename_i hi'
                    subst hi'
                    rw [if_neg (by omega), hl, Nat.sub_self] at he
                    simp at he hm
                    subst he
                    subst hm
                    exact ⟨rk, rx⟩
                  · rename_i hi'
                    have : i < ents.size := (Array.getElem?_eq_some_iff.1 hm).1
                    rw [if_pos (by omega)] at he
                    exact hent i e m he hm) ⟨fun i m hm => by
                  rw [Array.getElem?_push] at hm
                  split at hm
                  · simp at hm; subst hm; simp
                  · have := hok.1 i m hm; omega, fun i j m m' hm hm' hb => by
                  rw [Array.getElem?_push] at hm hm'
                  split at hm <;> split at hm'
                  · omega
                  · simp at hm; subst hm
                    have := hok.1 j m' hm'
                    simp at hb; omega
                  · simp at hm'; subst hm'
                    have := hok.1 i m hm
                    simp at hb; omega
                  · exact hok.2 i j m m' hm hm' hb⟩
                refine ⟨_, _, ?_, q2, q3⟩
                simp only [Instr.mapUpdate, Sem.run_bind, run_underlying htu, hobj, Result.andThen_ok, Sem.run_pure, checkKey_run hu hd, Instr.findKey, run_underlying hu, h1, q1]
            | some p => cases q' with
              | none => exact h2.elim
              | some p' =>
                obtain ⟨h3, h4, _, e0, m0, h5, h6, h7, h8, h9⟩ := h2
                simp only [Option.some.injEq] at h
                subst h
                simp only [Nat.sub_zero, Array.getElem?_toList] at h5 h6
                have hpl : p.1 < ents.size := (Array.getElem?_eq_some_iff.1 h6).1
                obtain ⟨q1, q2, q3⟩ := setMap_sound (P := P) (es' := es.set p.1 (key, x)) (ents' := ents.modify p.1 fun e => { e with key := vk, val := v }) (clock' := clock) hi hb hm hN hh (by simp [hl]) (fun i e m he hm => by
                  rw [Array.getElem?_modify] at hm
                  rw [List.getElem?_set] at he
                  split at hm
                  · rename_i hi'
                    subst hi'
                    rw [if_pos rfl, if_pos (by omega)] at he
                    rw [h6] at hm
                    simp at he hm
                    subst he
                    subst hm
                    exact ⟨rk, rx⟩
                  · rename_i hi'
                    rw [if_neg hi'] at he
                    exact hent i e m he hm) ⟨fun i m hm => by
                  rw [Array.getElem?_modify] at hm
                  split at hm
                  · rename_i hi'
                    subst hi'
                    rw [h6] at hm
                    simp at hm
                    subst hm
                    have hb6 := hok.1 _ _ h6
                    exact hb6
                  · exact hok.1 i m hm, fun i j m m' hm hm' hb => by
                  have born : ∀ (i : Nat) (m : MapEntry), (ents.modify p.1 fun e => { e with key := vk, val := v })[i]? = some m → ∃ m1, ents[i]? = some m1 ∧ m1.born = m.born := by
                    intro i m hm
                    rw [Array.getElem?_modify] at hm
                    split at hm
                    · rename_i hi'
                      subst hi'
                      rw [h6] at hm
                      simp at hm
                      subst hm
                      exact ⟨_, h6, rfl⟩
                    · exact ⟨m, hm, rfl⟩
                  obtain ⟨m1, a1, a2⟩ := born i m hm
                  obtain ⟨m2, a3, a4⟩ := born j m' hm'
                  exact hok.2 i j m1 m2 a1 a3 (by rw [a2, a4]; exact hb)⟩
                refine ⟨_, _, ?_, q2, q3⟩
                have hsame : Instr.sameBits 10000 m0.key vk = true := keys_same hd rk (hent p.1 e0 m0 h5 h6).1 h9
                have hp' : ents[p'.1]? = some m0 := by rw [← h3]; exact h6
                simp only [Instr.mapUpdate, Sem.run_bind, run_underlying htu, hobj, Result.andThen_ok, Sem.run_pure, checkKey_run hu hd, Instr.findKey, run_underlying hu, h1, Instr.keyThatStays, hp', Option.map_some, Option.getD_some, hsame, if_true]
                rw [← h3]
                exact q1
        · cases h
      | _ => simp at h
  | _ => simp [vMapSet] at h


theorem delete_sound {N : Base} {σ σ' : St} {t t2 ty kt et : TypeId} {k : EK1} {m key : PV} {vm vk : Value} (hi : Inv G N σ w) (ht : mapOf? P t = some (kt, et)) (hk : eqScalar P kt = some k)
    (rm : RelV G m vm) (rk : RelV G key vk) (h : vMapDel k m key σ = some σ') :
    ∃ w' G', (Builtin.delete_ #[t, t2] ty #[vm, vk]).run P w = .ok (.tuple #[]) w' ∧ Inv G' N σ' w' ∧ Ext G σ w G' σ' w' := by
  obtain ⟨d, hu, hd⟩ := eqScalar_kind hk
  have htu := mapOf_some ht
  cases m with
  | mref b =>
    cases rm with | mref _ B hm =>
    simp only [vMapDel] at h
    cases hb : σ[b]? with
    | none => simp [hb] at h
    | some blk =>
      rw [hb] at h
      cases blk with
      | map n es =>
        simp only at h
        split at h
        · obtain ⟨B', ents, clock, hm', hN, hh, hl, hent, hH, hok⟩ := hi.blk b _ hb
          rw [hm] at hm'
          simp only [Option.some.injEq, Prod.mk.injEq] at hm'
          obtain ⟨rfl, _⟩ := hm'
          cases hf : vFind k key es 0 with
          | none => simp [hf] at h
          | some q =>
            obtain ⟨q', h1, h2⟩ := find_sound hd rk es ents.toList 0 (by simp [hl]) (fun j e m he hm => hent j e m he (by simpa using hm)) q hf
            rw [hf] at h
            have hobj : (getObj B).run P w = .ok (.map ents clock) w := by simp [getObj, Sem.run, hh]
            cases q with
            | none => cases q' with
              | some _ => exact h2.elim
              | none =>
                simp only [Option.some.injEq] at h
                subst h
                obtain ⟨q1, q2, q3⟩ := setMap_sound (P := P) (es' := es) (ents' := ents) (clock' := clock) hi hb hm hN hh hl hent hok
                refine ⟨_, _, ?_, q2, q3⟩
                simp only [Builtin.delete_, List.getElem?_toArray, List.getElem?_cons_zero, List.getElem?_cons_succ, Sem.run_bind, run_underlying htu, hobj, Result.andThen_ok, Sem.run_pure, checkKey_run hu hd, Instr.findKey, run_underlying hu, h1, q1]
            | some p => cases q' with
              | none => exact h2.elim
              | some p' =>
                obtain ⟨h3, h4, _, e0, m0, h5, h6, h7, h8, h9⟩ := h2
                simp only [Option.some.injEq] at h
                subst h
                simp only [Nat.sub_zero, Array.getElem?_toList] at h5 h6
                have hpl : p.1 < ents.size := (Array.getElem?_eq_some_iff.1 h6).1
                have hget : ∀ j : Nat, (ents.eraseIdxIfInBounds p.1)[j]? = if j < p.1 then ents[j]? else ents[j + 1]? := by
                  intro j
                  rw [← Array.getElem?_toList, Array.toList_eraseIdxIfInBounds, List.getElem?_eraseIdx]
                  split <;> simp
                obtain ⟨q1, q2, q3⟩ := setMap_sound (P := P) (es' := es.eraseIdx p.1) (ents' := ents.eraseIdxIfInBounds p.1) (clock' := clock) hi hb hm hN hh
                  (by rw [← Array.length_toList, Array.toList_eraseIdxIfInBounds, List.length_eraseIdx, List.length_eraseIdx]; simp [hl]) (fun i e m he hm => by
                    rw [hget] at hm
                    rw [List.getElem?_eraseIdx] at he
                    split at hm
                    · rename_i hlt
                      rw [if_pos hlt] at he
                      exact hent i e m he hm
                    · rename_i hlt
                      rw [if_neg hlt] at he
                      exact hent (i + 1) e m he hm) ⟨fun i m hm => by
                    rw [hget] at hm
                    split at hm
                    · exact hok.1 i m hm
                    · exact hok.1 (i + 1) m hm, fun i j m m' hm hm' hb => by
                    rw [hget] at hm hm'
                    split at hm <;> split at hm'
                    · exact hok.2 i j m m' hm hm' hb
                    · have := hok.2 i (j + 1) m m' hm hm' hb; omega
                    · have := hok.2 (i + 1) j m m' hm hm' hb; omega
                    · have := hok.2 (i + 1) (j + 1) m m' hm hm' hb; omega⟩
                refine ⟨_, _, ?_, q2, q3⟩
                simp only [Builtin.delete_, List.getElem?_toArray, List.getElem?_cons_zero, List.getElem?_cons_succ, Sem.run_bind, run_underlying htu, hobj, Result.andThen_ok, Sem.run_pure, checkKey_run hu hd, Instr.findKey, run_underlying hu, h1]
                rw [← h3, q1]
                rfl
        · cases h
      | _ => simp at h
  | _ => simp [vMapDel] at h

/-- A new iterator. -/
theorem newIter_sound {N : Base} {σ : St} {mr : Option Nat} {since stepped : Nat} {seen : Array Nat} {m : Option (Nat × Nat)} {last : Option Nat} {left : List Nat} (hi : Inv G N σ w)
    (hr : match m with
      | none => mr = none
      | some k => ∃ MB ents clock, G.μ k.1 0 = some (MB, 0, 0, 0) ∧ mr = some MB ∧ G.H k.1 k.2 = some (ents, clock) ∧ IterOk ents clock since seen stepped last left) :
    ∃ G', Inv G' N (σ ++ [.iter m last left]) (World.more w (.mapIter mr since seen stepped)) ∧ Ext G σ w G' (σ ++ [.iter m last left]) (World.more w (.mapIter mr since seen stepped)) ∧ RelV G' (.ptr σ.length 0 0 0) (.pointer (some ⟨w.heap.size, 0, none⟩)) := by
  have hnone : G.μ σ.length 0 = none := by
    cases h : G.μ σ.length 0 with
    | none => rfl
    | some y => exact absurd (hi.dom _ _ _ h) (by omega)
  have le := Gh.newAt_le (y := (w.heap.size, 0, 0, 0)) hnone
  have hat : (G.newAt σ.length 0 (w.heap.size, 0, 0, 0)).μ σ.length 0 = some (w.heap.size, 0, 0, 0) := Gh.newAt_at _ _ _ _
  obtain ⟨p1, p2⟩ := pushG_sound (G' := G.newAt σ.length 0 (w.heap.size, 0, 0, 0)) (ob := .mapIter mr since seen stepped) (k0 := .iter m last left) hi le rfl (fun c h hc => by simp [Gh.newAt, hc]) (fun c h hc => rfl)
    (by simp [baseOf, hat])
    ⟨w.heap.size, mr, since, seen, stepped, hat, hi.big, by rw [more_heap, if_pos rfl], by
      cases m with
      | none => exact hr
      | some k =>
        obtain ⟨MB, ents, clock, q1, q2, q3, q4⟩ := hr
        exact ⟨MB, ents, clock, le.at_ _ _ _ q1, q2, le.his _ _ _ q3, q4⟩⟩
    (fun g z xs h => by cases h) (fun v es h => by cases h)
  exact ⟨_, p1, p2, by simpa using RelV.ptr (G := G.newAt σ.length 0 (w.heap.size, 0, 0, 0)) σ.length 0 0 0 w.heap.size 0 0 0 hat⟩

theorem range_sound {N : Base} {σ σ' : St} {t kt et : TypeId} {m r : PV} {vm : Value} (hi : Inv G N σ w) (ht : mapOf? P t = some (kt, et))
    (rm : RelV G m vm) (h : vRange m σ = some (r, σ')) :
    ∃ v w' G', (Instr.range t vm).run P w = .ok v w' ∧ Inv G' N σ' w' ∧ Ext G σ w G' σ' w' ∧ RelV G' r v := by
  have htu := mapOf_some ht
  cases m with
  | nilmap =>
    cases rm
    simp only [vRange, Option.some.injEq, Prod.mk.injEq] at h
    obtain ⟨rfl, rfl⟩ := h
    obtain ⟨G', q1, q2, q3⟩ := newIter_sound (mr := none) (since := 0) (stepped := 0) (seen := #[]) (m := none) (last := none) (left := []) hi rfl
    refine ⟨_, _, G', ?_, q1, q2, q3⟩
    simp only [Instr.range, Sem.run_bind, run_underlying htu, Result.andThen_ok, Sem.run_pure]
    rfl
  | mref b =>
    cases rm with | mref _ B hm =>
    simp only [vRange] at h
    cases hb : σ[b]? with
    | none => simp [hb] at h
    | some blk =>
      rw [hb] at h
      cases blk with
      | map n es =>
        simp only [Option.some.injEq, Prod.mk.injEq] at h
        obtain ⟨rfl, rfl⟩ := h
        obtain ⟨B', ents, clock, hm', hN, hh, hl, hent, hH, hok⟩ := hi.blk b _ hb
        rw [hm] at hm'
        simp only [Option.some.injEq, Prod.mk.injEq] at hm'
        obtain ⟨rfl, _⟩ := hm'
        have hobj : (getObj B).run P w = .ok (.map ents clock) w := by simp [getObj, Sem.run, hh]
        obtain ⟨G', q1, q2, q3⟩ := newIter_sound (mr := some B) (since := clock) (stepped := clock) (seen := #[]) (m := some (b, n)) (last := none) (left := List.range es.length) hi
          ⟨B, ents, clock, hm, rfl, hH, rfl, rfl, List.nodup_range, fun i => by
            rw [List.mem_range, ← hl]
            constructor
            · intro hi'; exact ⟨ents[i], by simp [hi'], by simp⟩
            · rintro ⟨m, hm, _⟩; exact (Array.getElem?_eq_some_iff.1 hm).1, fun i h => by cases h⟩
        refine ⟨_, _, G', ?_, q1, q2, q3⟩
        simp only [Instr.range, Sem.run_bind, run_underlying htu, hobj, Result.andThen_ok, Sem.run_pure]
        rfl
      | _ => simp at h
  | _ => simp [vRange] at h

theorem Inv.drawn {N : Base} {σ : St} {k : Nat} (h : Inv G N σ w) : Inv G N σ { w with drawn := k } := ⟨h.imm, h.dom, h.blk, h.inj, h.sep, h.big, h.gen, h.domH, h.genH, h.old⟩
theorem Ext.drawn {G' : Gh} {σ σ' : St} {w' : World} {k : Nat} (h : Ext G σ w G' σ' w') : Ext G σ w G' σ' { w' with drawn := k } := ⟨h.le, h.os, h.tape, h.output, h.size, h.keep, h.own, h.imm, h.len⟩

theorem choose_next (P : Program) (w : World) {n : Nat} (hn : 0 < n) : ∃ j k, j < n ∧ (choose (.mapNext n)).run P w = .ok j { w with drawn := k } := by
  by_cases h1 : n ≤ 1
  · refine ⟨0, w.drawn, hn, ?_⟩
    simp [choose, Sem.run, Question.forced, h1]
  · refine ⟨w.tape w.drawn (.mapNext n) % n, w.drawn + 1, Nat.mod_lt _ hn, ?_⟩
    simp [choose, Sem.run, Question.forced, h1, Question.cut]

theorem next_sound {N : Base} {σ : St} {ty : TypeId} {p : PV} {l : List (PV × St)} {vp : Value} (hi : Inv G N σ w) (rp : RelV G p vp) (h : vNexts p σ = some l) :
    ∃ v w' x σ', (x, σ') ∈ l ∧ (Instr.next vp false ty).run P w = .ok v w' ∧ Inv G N σ' w' ∧ Ext G σ w G σ' w' ∧ RelV G x v := by
  have over : RelV G (.tuple [.bool false]) (.tuple #[.bool false]) := by
    refine .tuple _ _ rfl fun i y u hy hu => ?_
    match i with
    | 0 => simp at hy hu; subst hy; subst hu; exact .bool _
    | i + 1 => simp at hy
  unfold vNexts at h
  split at h
  · rename_i b
    cases rp with | ptr _ _ _ _ B O z n hm =>
    split at h
    · rename_i last left hb
      simp only [Option.some.injEq] at h
      subst h
      obtain ⟨B', mr, since, seen, stepped, hm', hN, hh, hr⟩ := hi.blk b _ hb
      rw [hm] at hm'
      simp only [Option.some.injEq, Prod.mk.injEq] at hm'
      obtain ⟨rfl, rfl, rfl, rfl⟩ := hm'
      obtain rfl : mr = none := hr
      have hobj : (getObj B).run P w = .ok (.mapIter none since seen stepped) w := by simp [getObj, Sem.run, hh]
      refine ⟨_, w, _, σ, by simp, ?_, hi, .refl _ _ _, over⟩
      simp only [Nat.zero_mul, Nat.add_zero, Instr.next, Sem.run_bind, hobj, Result.andThen_ok, Sem.run_pure]
    · rename_i mb n' last left hb
      split at h
      · rename_i n'' es hmb
        split at h
        · rename_i hnn
          subst hnn
          obtain ⟨B', mr, since, seen, stepped, hm', hN, hh, MB, ents, clock, q1, q2, q3, q4⟩ := hi.blk b _ hb
          rw [hm] at hm'
          simp only [Option.some.injEq, Prod.mk.injEq] at hm'
          obtain ⟨rfl, rfl, rfl, rfl⟩ := hm'
          subst q2
          obtain ⟨MB', ents', clock', k1, k2, k3, k4, k5, k6, hok⟩ := hi.blk mb _ hmb
          simp only at q1 q3
          rw [q1] at k1
          simp only [Option.some.injEq, Prod.mk.injEq] at k1
          obtain ⟨rfl, _⟩ := k1
          rw [q3] at k6
          simp only [Option.some.injEq, Prod.mk.injEq] at k6
          obtain ⟨rfl, rfl⟩ := k6
          obtain ⟨rfl, rfl, hnd, hmem, hlast⟩ := q4
          have hobj : (getObj B).run P w = .ok (.mapIter (some MB) stepped seen stepped) w := by simp [getObj, Sem.run, hh]
          have hobj2 : (getObj MB).run P w = .ok (.map ents stepped) w := by simp [getObj, Sem.run, k3]
          have hc : (!seen.isEmpty && !ents.isEmpty && ents.all fun e => decide (e.born ≥ stepped)) = false := by
            rw [Bool.eq_false_iff]
            intro hh
            simp only [Bool.and_eq_true, Bool.not_eq_true'] at hh
            obtain ⟨⟨_, h2⟩, h3⟩ := hh
            have h0 : 0 < ents.size := by
              rcases Nat.eq_zero_or_pos ents.size with h | h
              · have : ents = #[] := Array.eq_empty_of_size_eq_zero h
                subst this; simp at h2
              · exact h
            have h4 := Array.all_eq_true_iff_forall_mem.1 h3 ents[0] (by simp)
            have h5 := hok.1 0 ents[0] (by simp [h0])
            simp at h4
            omega
          have hmemL : ∀ e, e ∈ (ents.filter fun e => !seen.contains e.born) ↔ ∃ i, i ∈ left ∧ ents[i]? = some e := by
            intro e
            rw [Array.mem_filter]
            constructor
            · rintro ⟨h1, h2⟩
              obtain ⟨i, hi'⟩ := Array.getElem?_of_mem h1
              exact ⟨i, (hmem i).2 ⟨e, hi', by simpa using h2⟩, hi'⟩
            · rintro ⟨i, h1, h2⟩
              obtain ⟨m, h3, h4⟩ := (hmem i).1 h1
              rw [h2] at h3
              cases h3
              exact ⟨Array.mem_of_getElem? h2, by simpa using h4⟩
          generalize hL : (ents.filter fun e => !seen.contains e.born) = L at hmemL
          have hborn : ∀ e ∈ L, e.born < stepped := by
            intro e he
            obtain ⟨i, _, h2⟩ := (hmemL e).1 he
            exact hok.1 i e h2
          have hold : (L.filter fun e => decide (e.born < stepped)) = L := Array.filter_eq_self.2 fun e he => by simpa using hborn e he
          have hnew : (L.filter fun e => decide (e.born ≥ stepped)) = #[] := Array.filter_eq_empty_iff.2 fun e he => by have := hborn e he; simp; omega
          cases hleft : left with
          | nil =>
            subst hleft
            simp only [Option.some.injEq] at h
            subst h
            have hLe : L = #[] := by
              apply Array.eq_empty_iff_forall_not_mem.2
              intro e he
              obtain ⟨i, h1, _⟩ := (hmemL e).1 he
              cases h1
            subst hLe
            obtain ⟨j, k, hj, hch⟩ := choose_next P w (n := 1) (by omega)
            obtain rfl : j = 0 := by omega
            refine ⟨_, { w with drawn := k }, _, σ, by simp, ?_, hi.drawn, (Ext.refl _ _ _).drawn, over⟩
            have hcand : ((if (#[] : Array MapEntry).isEmpty = true then #[none] else #[]) ++ Array.map some ((#[] : Array MapEntry) ++ #[]) : Array (Option MapEntry)) = #[none] := by simp
            have hs : (#[none] : Array (Option MapEntry)).size = 1 := rfl
            simp only [Nat.zero_mul, Nat.add_zero, Instr.next, Sem.run_bind, hobj, hobj2, Result.andThen_ok, Sem.run_pure, hc, Bool.false_eq_true, if_false, hL, hold, hnew, hcand, hs, hch]
            rfl
          | cons i0 rest =>
            rw [hleft] at h
            simp only [Option.some.injEq] at h
            rw [← hleft] at h
            have hpos : 0 < L.size := by
              obtain ⟨m, h1, h2⟩ := (hmem i0).1 (by simp [hleft])
              have := (hmemL m).2 ⟨i0, by simp [hleft], h1⟩
              rcases Nat.eq_zero_or_pos L.size with h | h
              · have : L = #[] := Array.eq_empty_of_size_eq_zero h
                subst this; simp at *
              · exact h
            have hemp : L.isEmpty = false := by
              rw [Bool.eq_false_iff]
              intro h
              simp at h
              subst h
              simp at hpos
            obtain ⟨j, k, hj, hch⟩ := choose_next P w hpos
            have hje : L[j]? = some L[j] := by simp [hj]
            obtain ⟨i, hil, hie⟩ := (hmemL L[j]).1 (by simp)
            have hset : (setObj B (.mapIter (some MB) stepped (seen.push L[j].born) stepped)).run P { w with drawn := k } = .ok () (World.put { w with drawn := k } B (.mapIter (some MB) stepped (seen.push L[j].born) stepped)) := by
              simp [setObj, Sem.run, hh, World.put]
            obtain ⟨p1, p2⟩ := chgG_sound (w := { w with drawn := k }) (G' := G) (w' := World.put { w with drawn := k } B (.mapIter (some MB) stepped (seen.push L[j].born) stepped)) (b := b) (B := B) (k0 := .iter (some (mb, n'')) last left) (k1 := .iter (some (mb, n'')) (some i) (left.erase i)) hi.drawn hb (by simp [baseOf, hm]) (.refl G) rfl rfl (fun _ _ _ => rfl) (by simp [baseOf, hm])
              (fun k' hk' => put_heap_ne hk') rfl rfl rfl (by simp [World.put]) ⟨B, some MB, stepped, seen.push L[j].born, stepped, hm, hN, put_heap (w := { w with drawn := k }) hh, MB, ents, stepped, q1, rfl, q3, rfl, rfl, hnd.erase _, fun i' => by
                rw [hnd.mem_erase_iff]
                constructor
                · rintro ⟨h1, h2⟩
                  obtain ⟨m, h3, h4⟩ := (hmem i').1 h2
                  refine ⟨m, h3, ?_⟩
                  rw [Bool.eq_false_iff]
                  intro hc2
                  simp only [Array.contains_iff_mem, Array.mem_push] at hc2
                  rcases hc2 with h5 | h5
                  · simp at h4; exact h4 h5
                  · exact h1 (hok.2 i' i m _ h3 hie h5)
                · rintro ⟨m, h3, h4⟩
                  have h5 : ¬ (m.born ∈ seen ∨ m.born = L[j].born) := by
                    intro h6
                    rw [← Array.mem_push, ← Array.contains_iff_mem, h4] at h6
                    cases h6
                  refine ⟨fun h6 => h5 (.inr ?_), (hmem i').2 ⟨m, h3, by simp; exact fun h6 => h5 (.inl h6)⟩⟩
                  subst h6
                  rw [hie] at h3
                  cases h3
                  rfl, fun i' h' => by
                cases h'
                exact ⟨_, hie, by simp⟩⟩ (fun _ _ _ h => by cases h) (fun _ _ h => by cases h)
            refine ⟨.tuple #[.bool true, L[j].key, L[j].val], _, .tuple [.bool true, .any, .any], σ.set b (.iter (some (mb, n'')) (some i) (left.erase i)), ?_, ?_, p1, ⟨p2.le, p2.os, p2.tape, p2.output, p2.size, p2.keep, p2.own, p2.imm, p2.len⟩, ?_⟩
            · rw [← h]
              exact List.mem_map.2 ⟨i, hil, rfl⟩
            · have hcand : ((#[] ++ (L ++ #[]).map some : Array (Option MapEntry))) = L.map some := by simp
              simp only [Nat.zero_mul, Nat.add_zero, Instr.next, Sem.run_bind, hobj, hobj2, Result.andThen_ok, Sem.run_pure, hc, Bool.false_eq_true, if_false, hL, hold, hnew, hemp, hcand, Array.size_map, hch, Array.getElem?_map, hje, Option.map_some, hset]
            · refine .tuple _ _ rfl fun i y u hy hu => ?_
              match i with
              | 0 => simp at hy hu; subst hy; subst hu; exact .bool _
              | 1 => simp at hy hu; subst hy; exact .any _
              | 2 => simp at hy hu; subst hy; exact .any _
              | i + 3 => simp at hy
        · cases h
      · cases h
    · cases h
  · cases h

theorem entry_sound {N : Base} {σ : St} {p r : PV} {vp : Value} (hi : Inv G N σ w) (rp : RelV G p vp) (h : vEntry p σ = some r) :
    ∃ v, (Instr.entry vp).run P w = .ok v w ∧ RelV G r v := by
  unfold vEntry at h
  split at h
  · rename_i b
    cases rp with | ptr _ _ _ _ B O z n hm =>
    split at h
    · rename_i mb n' i left hb
      split at h
      · rename_i n'' es hmb
        split at h
        · rename_i hnn
          subst hnn
          split at h
          · rename_i e he
            simp only [Option.some.injEq] at h
            subst h
            obtain ⟨B', mr, since, seen, stepped, hm', hN, hh, MB, ents, clock, q1, q2, q3, q4⟩ := hi.blk b _ hb
            rw [hm] at hm'
            simp only [Option.some.injEq, Prod.mk.injEq] at hm'
            obtain ⟨rfl, rfl, rfl, rfl⟩ := hm'
            subst q2
            obtain ⟨MB', ents', clock', k1, k2, k3, k4, k5, k6, hok⟩ := hi.blk mb _ hmb
            simp only at q1 q3
            rw [q1] at k1
            simp only [Option.some.injEq, Prod.mk.injEq] at k1
            obtain ⟨rfl, _⟩ := k1
            rw [q3] at k6
            simp only [Option.some.injEq, Prod.mk.injEq] at k6
            obtain ⟨rfl, rfl⟩ := k6
            obtain ⟨rfl, rfl, hnd, hmem, hlast⟩ := q4
            obtain ⟨m, h1, h2⟩ := hlast i rfl
            have hobj : (getObj B).run P w = .ok (.mapIter (some MB) stepped seen stepped) w := by simp [getObj, Sem.run, hh]
            have hobj2 : (getObj MB).run P w = .ok (.map ents stepped) w := by simp [getObj, Sem.run, k3]
            have hfind : ents.find? (fun x => x.born == m.born) = some m := by
              cases hf : ents.find? (fun x => x.born == m.born) with
              | none =>
                have := Array.find?_eq_none.1 hf m (Array.mem_of_getElem? h1)
                simp at this
              | some m' =>
                have h3 := Array.find?_some hf
                have h4 := Array.mem_of_find?_eq_some hf
                obtain ⟨i', hi'⟩ := Array.getElem?_of_mem h4
                have h5 : i' = i := hok.2 i' i m' m hi' h1 (by simpa using h3)
                subst h5
                rw [h1] at hi'
                exact hi'.symm
            obtain ⟨r1, r2⟩ := k5 i e m he h1
            refine ⟨.tuple #[m.key, m.val], ?_, ?_⟩
            · simp only [Nat.zero_mul, Nat.add_zero, Instr.entry, Sem.run_bind, hobj, hobj2, h2, Result.andThen_ok, Sem.run_pure, bne_self_eq_false, Bool.false_eq_true, if_false, hfind]
            · refine .tuple _ _ rfl fun i y u hy hu => ?_
              match i with
              | 0 => simp at hy hu; subst hy; subst hu; exact r1
              | 1 => simp at hy hu; subst hy; subst hu; exact r2
              | i + 2 => simp at hy
          · cases h
        · cases h
      · cases h
    · cases h
  · cases h

end
end Go.Abs
