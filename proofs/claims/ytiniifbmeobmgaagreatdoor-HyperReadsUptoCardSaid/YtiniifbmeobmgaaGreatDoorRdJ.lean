/- The reference's Read: what its code comes to. -/
import Derived.Test.YtiniifbmeobmgaaGreatDoorRdI
set_option linter.unusedVariables false
set_option linter.unusedSimpArgs false
namespace Go.Proofs.YtiniifbmeobmgaaGreatDoor
open Go Go.Abs

def pMetaL (s : Str) : Nat → Bool → RR → List (Sl Part) → RR × List (Sl Part)
  | 0, _, q, alts => (q, alts)
  | n + 1, more, q, alts => if more && q.e.2 == 0 then pMetaL s n ((pAlt s false (q.next s)).1.tt == [59]) (pAlt s false (q.next s)).1 (alts ++ [(pAlt s false (q.next s)).2]) else (q, alts)

def isMetaP : List Part → Bool
  | [p] => isMeta p.2
  | _ => false

/-- A rule, whatever kind. -/
def pOne (s : Str) (q2 : RR) (left : List Part) (ms : List Meta19) (rs : List Rule19) : RR × List Meta19 × List Rule19 :=
  if q2.e.2 == 0 then
    if q2.tt == [58, 58] && (rs.isEmpty && isMetaP left) then ((pMetaL s (s.length + 2) true q2 []).1, ms ++ [((left.map (·.2)).headD [], reK (pMetaL s (s.length + 2) true q2 []).2)], rs)
    else if q2.tt == [58] && !left.isEmpty then ((pRules s left (s.length + 2) (q2.next s) rs).1, ms, (pRules s left (s.length + 2) (q2.next s) rs).2)
    else (q2.wrong s, ms, rs)
  else (q2, ms, rs)

def pStart (s : Str) (q : RR) : RR × List Part := pParts s true (if q.tt == EMPTY then q.wrong s else q)
def pEnd (s : Str) (q : RR) : RR := (if q.tt == [46] then q else q.wrong s).next s

def pTop (s : Str) : Nat → RR → List Meta19 → List Rule19 → RR × List Meta19 × List Rule19
  | 0, q, ms, rs => (q, ms, rs)
  | n + 1, q, ms, rs =>
    if !(q.tt == []) && q.e.2 == 0 then
      pTop s n (pEnd s (pOne s (pStart s q).1 (pStart s q).2 ms rs).1) (pOne s (pStart s q).1 (pStart s q).2 ms rs).2.1 (pOne s (pStart s q).1 (pStart s q).2 ms rs).2.2
    else (q, ms, rs)

theorem pMetaL_spec {s : Str} : ∀ (n : Nat) (more : Bool) (q : RR) (alts : List (Sl Part)), Ok s q → Ok s (pMetaL s n more q alts).1 ∧ q.a ≤ (pMetaL s n more q alts).1.a ∧ (pMetaL s n more q alts).2.length ≤ alts.length + n
  | 0, more, q, alts, hq => ⟨hq, Nat.le_refl _, by simp [pMetaL]⟩
  | n + 1, more, q, alts, hq => by
    simp only [pMetaL]
    split
    · obtain ⟨h1, h2, h3⟩ := next_spec hq.a
      obtain ⟨g1, g2, g3, g4⟩ := pAlt_spec (d := false) h1
      obtain ⟨k1, k2, k4⟩ := pMetaL_spec n ((pAlt s false (q.next s)).1.tt == [59]) (pAlt s false (q.next s)).1 (alts ++ [(pAlt s false (q.next s)).2]) g1
      rw [List.length_append, List.length_singleton] at k4
      exact ⟨k1, by omega, by omega⟩
    · exact ⟨hq, Nat.le_refl _, by show alts.length ≤ _; omega⟩

theorem pRules_spec {s : Str} {left : List Part} : ∀ (n : Nat) (q : RR) (rs : List Rule19), Ok s q → Ok s (pRules s left n q rs).1 ∧ q.a ≤ (pRules s left n q rs).1.a ∧ (pRules s left n q rs).2.length ≤ rs.length + n
  | 0, q, rs, hq => ⟨hq, Nat.le_refl _, by simp [pRules]⟩
  | n + 1, q, rs, hq => by
    simp only [pRules]
    obtain ⟨b1, b2, b3, b4⟩ := pSide_spec hq
    split
    · split
      · obtain ⟨h1, h2, h3⟩ := next_spec b1.a
        obtain ⟨k1, k2, k4⟩ := pRules_spec (left := left) n ((pSide s q).1.next s) (rs ++ [(reK left, reK (pSide s q).2)]) h1
        rw [List.length_append, List.length_singleton] at k4
        exact ⟨k1, by omega, by omega⟩
      · exact ⟨b1, b2, by simp⟩
    · exact ⟨hq, Nat.le_refl _, by show rs.length ≤ _; omega⟩

theorem pOne_spec {s : Str} {q2 : RR} {left : List Part} {ms : List Meta19} {rs : List Rule19} (hq : Ok s q2) : Ok s (pOne s q2 left ms rs).1 ∧ q2.a ≤ (pOne s q2 left ms rs).1.a ∧ (pOne s q2 left ms rs).2.1.length ≤ ms.length + 1 ∧ (pOne s q2 left ms rs).2.2.length ≤ rs.length + s.length + 2 := by
  unfold pOne
  split
  · split
    · obtain ⟨k1, k2, k4⟩ := pMetaL_spec (s.length + 2) true q2 [] hq
      exact ⟨k1, k2, by simp, by show rs.length ≤ _; omega⟩
    · split
      · obtain ⟨h1, h2, h3⟩ := next_spec hq.a
        obtain ⟨k1, k2, k4⟩ := pRules_spec (left := left) (s.length + 2) (q2.next s) rs h1
        exact ⟨k1, by show q2.a ≤ (pRules s left (s.length + 2) (q2.next s) rs).1.a; omega, by show ms.length ≤ _; omega, by show (pRules s left (s.length + 2) (q2.next s) rs).2.length ≤ _; omega⟩
      · exact ⟨hq.wrong, by rw [wrong_a]; exact Nat.le_refl _, by show ms.length ≤ _; omega, by show rs.length ≤ _; omega⟩
  · exact ⟨hq, Nat.le_refl _, by show ms.length ≤ _; omega, by show rs.length ≤ _; omega⟩

theorem pStart_spec {s : Str} {q : RR} (hq : Ok s q) : Ok s (pStart s q).1 ∧ q.a ≤ (pStart s q).1.a ∧ (pStart s q).2.length ≤ s.length + 1 := by
  have h4 : Ok s (if q.tt == EMPTY then q.wrong s else q) := by
    split
    · exact hq.wrong
    · exact hq
  have h5 : (if q.tt == EMPTY then q.wrong s else q).a = q.a := by
    split
    · exact wrong_a _ _
    · rfl
  obtain ⟨h1, h2, h3, h6⟩ := pLoop_spec (d := true) (s.length + 1) (if q.tt == EMPTY then q.wrong s else q) [] h4
  rw [h5] at h2
  rw [List.length_nil, Nat.zero_add] at h6
  exact ⟨h1, h2, h6⟩

theorem pEnd_spec {s : Str} {q : RR} (hq : Ok s q) : Ok s (pEnd s q) ∧ q.a ≤ (pEnd s q).a ∧ ((pEnd s q).tt ≠ [] → q.a < (pEnd s q).a) := by
  have h4 : Ok s (if q.tt == [46] then q else q.wrong s) := by
    split
    · exact hq
    · exact hq.wrong
  have h5 : (if q.tt == [46] then q else q.wrong s).a = q.a := by
    split
    · rfl
    · exact wrong_a _ _
  obtain ⟨h1, h2, h3⟩ := next_spec h4.a
  rw [h5] at h2 h3
  exact ⟨h1, h2, h3⟩

theorem pLoop_txt {s : Str} {d : Bool} : ∀ (n : Nat) (q : RR) (acc : List Part), Ok s q → (∀ p ∈ acc, p.2.length ≤ s.length) → ∀ p ∈ (pLoop s d n q acc).2, p.2.length ≤ s.length
  | 0, q, acc, hq, h => h
  | n + 1, q, acc, hq, h => by
    simp only [pLoop]
    split
    · obtain ⟨h1, h2⟩ := pStep_spec (d := d) (acc := acc) hq
      refine pLoop_txt n _ _ h1 fun p hp => ?_
      rcases List.mem_append.1 hp with hp | hp
      · exact h p hp
      · simp only [List.mem_singleton] at hp
        subst hp
        exact hq.tt
    · exact h

theorem pre_of_get {σ σ' : St} (hl : σ.length ≤ σ'.length) (h : ∀ c < σ.length, σ'[c]? = σ[c]?) : σ <+: σ' := by
  rw [List.prefix_iff_eq_take]
  refine List.ext_getElem? fun c => ?_
  by_cases hc : c < σ.length
  · rw [List.getElem?_take_of_lt hc, h c hc]
  · rw [List.getElem?_eq_none (by omega), List.getElem?_eq_none (by simp; omega)]

def atB (v : PV) (c : Nat) : Bool := match v with
  | .sref b _ _ _ _ => b == c
  | _ => false

theorem atB_iff (v : PV) (c : Nat) : atB v c = true ↔ AtB v c := by
  constructor
  · intro h
    cases v <;> simp [atB] at h
    subst h
    exact ⟨_, _, _, _, rfl⟩
  · rintro ⟨_, _, _, _, rfl⟩
    simp [atB]

/-- All blocks but some are given up. -/
theorem kill_keep {σ σ1 : St} (K : Nat → Bool) (hl : σ.length ≤ σ1.length)
    (h : ∀ c k, σ1[c]? = some k → (c < σ.length ∨ K c = true) → (σ[c]? = some k ∨ ∃ g z xs, k = .arr g z xs ∧ ∀ x ∈ xs, Flat x)) :
    ∃ σ'', Kill σ (fun c => σ.length ≤ c ∧ K c = false) σ1 σ'' ∧ σ''.length = σ1.length ∧ ∀ c, (c < σ.length ∨ K c = true) → σ''[c]? = σ1[c]? := by
  have hget : ∀ c, (σ1.zipIdx.map fun e => if decide (e.2 < σ.length) || K e.2 then e.1 else Blk.dead)[c]? = (σ1[c]?).map fun k => if decide (c < σ.length) || K c then k else .dead := by
    intro c
    rw [List.getElem?_map, List.getElem?_zipIdx]
    cases σ1[c]? <;> simp
  have hlen : (σ1.zipIdx.map fun e => if decide (e.2 < σ.length) || K e.2 then e.1 else Blk.dead).length = σ1.length := by simp
  refine ⟨_, ⟨fun c hc => hc.1, by rw [hlen]; exact Nat.le_refl _, fun c h1 h2 => by rw [hlen] at h1; omega, fun c k' hk => ?_⟩, hlen, fun c hc => ?_⟩
  · rw [hget] at hk
    cases hs : σ1[c]? with
    | none => rw [hs] at hk; cases hk
    | some k =>
      rw [hs] at hk
      simp only [Option.map_some, Option.some.injEq] at hk
      by_cases hc : c < σ.length ∨ K c = true
      · have hb : (decide (c < σ.length) || K c) = true := by
          rcases hc with hc | hc
          · simp [hc]
          · simp [hc]
        rw [hb] at hk
        subst hk
        refine .inr ⟨fun hh => ?_, k, rfl, ?_⟩
        · rcases hc with hc | hc
          · omega
          · rw [hc] at hh
            cases hh.2
        · rcases h c k hs hc with h1 | ⟨g, z, xs, rfl, h2⟩
          · exact .inr ⟨rfl, h1⟩
          · refine .inl (.inr ⟨xs, rfl, rfl, fun i x y hx hy => ?_⟩)
            rw [hx] at hy
            cases hy
            exact (h2 x (List.mem_of_getElem? hx)).frz _ _
      · have hb : (decide (c < σ.length) || K c) = false := by
          cases hd : (decide (c < σ.length) || K c) with
          | false => rfl
          | true =>
            refine absurd ?_ hc
            simpa using hd
        rw [hb] at hk
        subst hk
        exact .inl rfl
  · rw [hget]
    have hb : (decide (c < σ.length) || K c) = true := by
      rcases hc with hc | hc
      · simp [hc]
      · simp [hc]
    rw [hb]
    cases σ1[c]? <;> simp

def refRes (T : RR × List Meta19 × List Rule19) : PV :=
  if T.1.e.2 == 0 then
    if checkG (reK T.2.1, reK T.2.2) = 0 then .tuple [pvGram (reK T.2.1, reK T.2.2), pvFlt (0, 0)] else .tuple [pvNo, pvFlt (0, checkG (reK T.2.1, reK T.2.2))]
  else .tuple [pvNo, pvFlt T.1.e]


def FrzL (σ : St) (D : Nat → Prop) : List (Nat × PV) → List (Nat × PV) → Prop
  | [], [] => True
  | a :: l, b :: l' => a.1 = b.1 ∧ FrzD σ D a.2 b.2 ∧ FrzL σ D l l'
  | _, _ => False

theorem lookP_frz {σ : St} {D : Nat → Prop} : ∀ {l l' : List (Nat × PV)}, FrzL σ D l l' → ∀ t, FrzD σ D (lookP l t) (lookP l' t)
  | [], [], _, t => .base _ .any
  | a :: l, b :: l', h, t => by
    obtain ⟨h1, h2, h3⟩ := h
    obtain ⟨k, x⟩ := a
    obtain ⟨k', y⟩ := b
    simp only at h1 h2
    subst h1
    simp only [lookP]
    split
    · exact h2
    · exact lookP_frz h3 t
  | [], _ :: _, h, t => h.elim
  | _ :: _, [], h, t => h.elim

/-- What holds where the reference reads on. -/
structure TI (σ σ' : St) (s : Str) (q : RR) (mv rv : PV) (ms : List Meta19) (rs : List Rule19) : Prop where
  pre : σ <+: σ'
  has : Has σ' σ.length (rc s q)
  ok : Ok s q
  gm : Grow (σ.length + 1) 2 σ' mv (ms.map pvMeta)
  gr : Grow (σ.length + 1) 2 σ' rv (rs.map pvRule)
  ap : ∀ c, AtB mv c → ¬ AtB rv c

theorem TI.cd {σ σ' : St} {s : Str} {q : RR} {mv rv : PV} {ms : List Meta19} {rs : List Rule19} (h : TI σ σ' s q mv rv ms rs) {q' : RR} (hq : Ok s q') : TI σ (Go.Proofs.YtiniifbmeobmgaaGreatDoor.cd σ' σ.length (rc s q')) s q' mv rv ms rs :=
  ⟨pre_set h.pre (Nat.le_refl _) _, cd_has h.has.lt _, hq, grow_cd h.gm (by omega), grow_cd h.gr (by omega), h.ap⟩

theorem pre_get' {σ σ' : St} (h : σ <+: σ') {c : Nat} (hc : c < σ.length) : σ'[c]? = σ[c]? := by
  obtain ⟨g, rfl⟩ := h
  rw [List.getElem?_append_left hc]

def q00 : RR := { a := 0, tt := [], ta := 0, e := (0, 0) }

theorem c21 {s : Str} (hs : s.length ≤ 65536) (σ : St) (hok : (pTop s (s.length + 1) (q00.next s) [] []).1.e.2 = 0 → OkGram (reK (pTop s (s.length + 1) (q00.next s) [] []).2.1, reK (pTop s (s.length + 1) (q00.next s) [] []).2.2)) :
    Ret W 21 [.str s] σ (refRes (pTop s (s.length + 1) (q00.next s) [] [])) := by
  refine ret_of fun R hR => ?_
  rw [fn21_eq]
  unfold fn21
  obtain ⟨T, hT⟩ : ∃ T, T = pTop s (s.length + 1) (q00.next s) [] [] := ⟨_, rfl⟩
  rw [← hT] at hR hok
  have hgt : decide ((s.length : Int) > 65536) = false := by rw [decide_eq_false_iff_not]; omega
  have hb1 : vBuild [(.str []), (.int .i64 0), (.str []), (.int .i64 0), (.int .i64 0), (.int .i64 0)] [(0, 1, .str s)] = some [.str s, .int .i64 0, .str [], .int .i64 0, .int .i64 0, .int .i64 0] := rfl
  have hbox : ∀ cs : List PV, opC.vBoxAny (.agg cs) = some (cs.length, .agg cs) := fun cs => rfl
  have hbn : vBuild [(.list .nil []), (.list .nil [])] [] = some [.list .nil [], .list .nil []] := rfl
  have hbf : ∀ c : Int, vBuild [(.int .i64 0), (.int .i64 0)] [(1, 1, .int .i64 c)] = some [.int .i64 0, .int .i64 c] := fun c => rfl
  have hb0 : vBuild [(.int .i64 0), (.int .i64 0)] [] = some [.int .i64 0, .int .i64 0] := rfl
  have hpn : ∀ a b : PV, vPut 2 (.agg [.list .nil [], .list .nil []]) 0 (.agg [a, b]) = some (.agg [a, b]) := fun a b => vPut_agg rfl rfl
  have hpf : ∀ a b : PV, vPut 2 (.agg [.int .i64 0, .int .i64 0]) 0 (.agg [a, b]) = some (.agg [a, b]) := fun a b => vPut_agg rfl rfl
  simp only [hgt, hb1, hbox, hbn, hpn, newW_eq, List.length_cons, List.length_nil, Nat.reduceAdd, Nat.reduceLT, zz, Nat.reduceEqDiff, if_true, if_false, decide_true, decide_false, eq_self]
  have hh0 : Has (σ ++ [Blk.arr 0 6 [.agg [.str s, .int .i64 0, .str [], .int .i64 0, .int .i64 0, .int .i64 0]]]) σ.length (rc s q00) := by
    unfold Has
    rw [List.getElem?_append_right (Nat.le_refl _)]
    simp [rc, q00]
  have hp0 : σ <+: σ ++ [Blk.arr 0 6 [.agg [.str s, .int .i64 0, .str [], .int .i64 0, .int .i64 0, .int .i64 0]]] := List.prefix_append _ _
  generalize σ ++ [Blk.arr 0 6 [.agg [.str s, .int .i64 0, .str [], .int .i64 0, .int .i64 0, .int .i64 0]]] = σ1 at hh0 hp0 ⊢
  refine (c78 (by omega) hh0 (Nat.zero_le _)).callB ?_
  have hq0 : Ok s (q00.next s) := (next_spec (Nat.zero_le _)).1
  have cdp : ∀ {σ' : St} (cs : List PV), σ <+: σ' → σ <+: cd σ' σ.length cs := fun cs h => pre_set h (Nat.le_refl _) _
  have hT0 : TI σ (cd σ1 σ.length (rc s (q00.next s))) s (q00.next s) (.list .nil []) (.list .nil []) [] [] := ⟨cdp _ hp0, cd_has hh0.lt _, hq0, Grow.nil _ _ _, Grow.nil _ _ _, fun c hc => by obtain ⟨_, _, _, _, hc⟩ := hc; cases hc⟩
  generalize cd σ1 σ.length (rc s (q00.next s)) = σ1 at hT0 ⊢
  have no : Flat (.agg [.list .nil [], .list .nil []]) := .agg _ fun y hy => by
    simp only [List.mem_cons, List.not_mem_nil, or_false] at hy
    rcases hy with rfl | rfl <;> exact .list _ _ (by simp)
  have fl0 : ∀ a b : Int, Flat (.agg [.int .i64 a, .int .i64 b]) := fun a b => .agg _ fun y hy => by
    simp only [List.mem_cons, List.not_mem_nil, or_false] at hy
    rcases hy with rfl | rfl <;> exact .int _ _
  have flg : ∀ g : Gram, Flat (pvGram g) := fun g => .agg _ fun y hy => by
    simp only [List.mem_cons, List.not_mem_nil, or_false] at hy
    rcases hy with rfl | rfl
    · exact flatSl flatMeta _
    · exact flatSl flatRule _
  refine CutW_weak (fun x σ' => ∃ q mv rv ms rs, x = lookP [(4, .ptr σ.length 0 0 0), (2, .agg [.list .nil [], .list .nil []]), (3, .agg [.int .i64 0, .int .i64 0]), (5, .agg [mv, rv])] ∧ TI σ σ' s q mv rv ms rs ∧ (q, ms, rs) = T) ?_ ?_
  · rintro x σ2 ⟨q, mv, rv, ms, rs, rfl, hI, rfl⟩
    have hl2 : σ.length + 1 ≤ σ2.length := hI.has.lt
    refine ⟨lookP [(4, .ptr σ.length 0 0 0), (2, .agg [.list .nil [], .list .nil []]), (3, .agg [.int .i64 0, .int .i64 0]), (5, pvGram (reK ms, reK rs))], σ2.take (σ.length + 1), ⟨fun c => σ.length ≤ c ∧ c ≠ σ.length, ⟨fun c h => h.1, by simp; omega, fun c h1 h2 => by simp at h1; omega, fun c k' hk => ?_⟩, lookP_frz ⟨rfl, .base _ (.ptr _ _ _ _ fun h => h.2 rfl), rfl, no.frz _ _, rfl, (fl0 _ _).frz _ _, rfl, ?_, trivial⟩⟩, ?_⟩
    · have hcl : c < σ.length + 1 := by have := (List.getElem?_eq_some_iff.1 hk).1; simp at this; omega
      rw [List.getElem?_take_of_lt hcl] at hk
      refine .inr ⟨fun h => by omega, k', hk, ?_⟩
      by_cases hc : c < σ.length
      · exact .inr ⟨rfl, by rw [← pre_get' hI.pre hc]; exact hk⟩
      · obtain rfl : c = σ.length := by omega
        have := hI.has
        unfold Has at this
        rw [this] at hk
        cases hk
        refine .inl (.inr ⟨_, rfl, rfl, fun i x y hx hy => ?_⟩)
        rw [hx] at hy
        cases hy
        have : x = .agg (rc s q) := by simpa using List.mem_of_getElem? hx
        subst this
        exact (Flat.agg _ (rc_flat s q)).frz _ _
    · refine .agg _ _ rfl fun i a b ha hb => ?_
      match i with
      | 0 =>
        cases ha
        cases hb
        have := grow_frz_at hI.gm (D := fun c => σ.length ≤ c ∧ c ≠ σ.length) (fun c hc => by have := (grow_not hI.gm hc).1; omega) (fun y hy => by obtain ⟨p, _, rfl⟩ := List.mem_map.1 hy; exact flatMeta _)
        rw [growV_sl] at this
        exact this
      | 1 =>
        cases ha
        cases hb
        have := grow_frz_at hI.gr (D := fun c => σ.length ≤ c ∧ c ≠ σ.length) (fun c hc => by have := (grow_not hI.gr hc).1; omega) (fun y hy => by obtain ⟨p, _, rfl⟩ := List.mem_map.1 hy; exact flatRule _)
        rw [growV_sl] at this
        exact this
      | i + 2 => cases ha
    · have hh3 : Has (σ2.take (σ.length + 1)) σ.length (rc s q) := by
        unfold Has
        rw [List.getElem?_take_of_lt (by omega)]
        exact hI.has
      have hp3 : σ <+: σ2.take (σ.length + 1) := List.prefix_iff_eq_take.2 (by rw [List.take_take, Nat.min_eq_left (by omega)]; exact List.prefix_iff_eq_take.1 hI.pre)
      generalize σ2.take (σ.length + 1) = σ3 at hh3 hp3
      have e5 : (rc s q)[5]? = some (.int .i64 q.e.2) := rfl
      have hld : vLoad true 2 (.ptr σ.length 0 0 4) σ3 = some (.agg [.int .i64 q.e.1, .int .i64 q.e.2]) := by
        unfold Has at hh3
        simp [vLoad, hh3, vPart, rc]
      have fin : ∀ (a b : PV), Flat a → Flat b → refRes (q, ms, rs) = .tuple [a, b] → weakW σ (.tuple [a, b]) σ3 fun v σ => R (.ret v) σ := by
        intro a b ha hb hv
        refine weakW_kill (fun c => σ.length ≤ c) ⟨fun c h => h, hp3.length_le, fun c h _ => h, fun c k' hk => ?_⟩ ((Flat.tuple _ fun y hy => ?_).frz _ _) (by rw [← hv]; exact hR)
        · have hc := (List.getElem?_eq_some_iff.1 hk).1
          exact .inr ⟨by omega, k', by rw [pre_get' hp3 hc]; exact hk, .inr ⟨rfl, hk⟩⟩
        · simp only [List.mem_cons, List.not_mem_nil, or_false] at hy
          rcases hy with rfl | rfl
          · exact ha
          · exact hb
      simp only [nil_ptr, hh3.ld, e5, hld, hbn, hb0, hpn, hpf, zz, Nat.reduceEqDiff, if_true, if_false, decide_true, decide_false, eq_self]
      have hne : (q.e.2 != 0) = !(q.e.2 == 0) := rfl
      cases he : q.e.2 == 0 with
      | false =>
        simp only [hne, he, resCons, vResults, zz, Nat.reduceEqDiff, if_true, if_false, decide_true, decide_false, eq_self]
        exact fin _ _ no (fl0 _ _) (by simp only [refRes, he]; rfl)
      | true =>
        have hpg : ∀ g : Gram, vPart true 2 (pvGram g) 0 = some (pvGram g) := fun g => rfl
        have hpg2 : ∀ g : Gram, vPut 2 (.agg [.list .nil [], .list .nil []]) 0 (pvGram g) = some (pvGram g) := fun g => rfl
        simp only [hne, he, hpg, zz, Nat.reduceEqDiff, if_true, if_false, decide_true, decide_false, eq_self]
        refine (c16 (hok (by simpa using he)) _).callB ?_
        have hne2 : (checkG (reK ms, reK rs) != 0) = !(checkG (reK ms, reK rs) == 0) := rfl
        cases hck : checkG (reK ms, reK rs) == 0 with
        | false =>
          simp only [hne2, hck, hbf, hpf, hpn, resCons, vResults, zz, Nat.reduceEqDiff, if_true, if_false, decide_true, decide_false, eq_self]
          refine fin _ _ no (fl0 _ _) ?_
          have : ¬ checkG (reK ms, reK rs) = 0 := by simpa using hck
          simp only [refRes, he, if_true, if_neg this]
          rfl
        | true =>
          simp only [hne2, hck, hpf, hpn, hpg, hpg2, resCons, vResults, zz, Nat.reduceEqDiff, if_true, if_false, decide_true, decide_false, eq_self]
          refine fin _ _ (flg _) (fl0 _ _) ?_
          have : checkG (reK ms, reK rs) = 0 := by simpa using hck
          simp only [refRes, he, if_true, if_pos this]
          rfl
  · refine Lfp_down (fun m x σ' => ∃ q mv rv ms rs, x = lookP [(4, .ptr σ.length 0 0 0), (2, .agg [.list .nil [], .list .nil []]), (3, .agg [.int .i64 0, .int .i64 0]), (5, .agg [mv, rv])] ∧ TI σ σ' s q mv rv ms rs ∧ (q.tt ≠ [] → s.length - q.a < m) ∧
      ms.length + m ≤ s.length + 1 ∧ rs.length + 65540 * m ≤ 65540 * (s.length + 1) ∧ pTop s m q ms rs = T) ?_ (s.length + 1) ⟨q00.next s, _, _, [], [], rfl, hT0, fun _ => by omega, by simp, by simp, hT.symm⟩
    rintro Φ m x σ2 ⟨q, mv, rv, ms, rs, rfl, hI, hm, hml, hrl, hF⟩ hnext _
    have e2 : ∀ q : RR, (rc s q)[2]? = some (.str q.tt) := fun q => rfl
    have e5 : ∀ q : RR, (rc s q)[5]? = some (.int .i64 q.e.2) := fun q => rfl
    simp only [zz, Nat.reduceEqDiff, if_true, if_false, decide_true, decide_false, eq_self]
    simp only [nil_ptr, hI.has.ld, e2, e5, zz, Nat.reduceEqDiff, if_true, if_false, decide_true, decide_false, eq_self]
    have stop : (!(q.tt == []) && q.e.2 == 0) = false → (q, ms, rs) = T := fun hb => by
      rw [← hF]
      cases m with
      | zero => rfl
      | succ m => simp only [pTop, hb, Bool.false_eq_true, if_false]
    cases h1 : q.tt == [] with
    | true =>
      simp only [zz, Nat.reduceEqDiff, if_true, if_false, decide_true, decide_false, eq_self]
      exact ⟨q, mv, rv, ms, rs, rfl, hI, stop (by rw [h1]; rfl)⟩
    | false =>
    cases h2 : q.e.2 == 0 with
    | false =>
      simp only [zz, Nat.reduceEqDiff, if_true, if_false, decide_true, decide_false, eq_self]
      exact ⟨q, mv, rv, ms, rs, rfl, hI, stop (by rw [h2]; simp)⟩
    | true =>
    have hqn : q.tt ≠ [] := by simpa using h1
    obtain ⟨m, rfl⟩ : ∃ k, m = k + 1 := ⟨m - 1, by have := hm hqn; omega⟩
    have hF : pTop s m (pEnd s (pOne s (pStart s q).1 (pStart s q).2 ms rs).1) (pOne s (pStart s q).1 (pStart s q).2 ms rs).2.1 (pOne s (pStart s q).1 (pStart s q).2 ms rs).2.2 = T := by
      rw [← hF]
      simp [pTop, h1, h2]
    simp only [zz, Nat.reduceEqDiff, if_true, if_false, decide_true, decide_false, eq_self]
    -- after a rule
    have tail : ∀ (q3 : RR) (mv' rv' : PV) (ms' : List Meta19) (rs' : List Rule19) (σ3 : St), TI σ σ3 s q3 mv' rv' ms' rs' → (pOne s (pStart s q).1 (pStart s q).2 ms rs) = (q3, ms', rs') →
        CutW σ (fun J154 =>
        bindO False (vNil (.ptr σ.length 0 0 0)) fun v157 =>
        bindO False (vField 2 v157) fun v158 =>
        bindO False (vField 0 v158) fun v159 =>
        bindO False (vLoad false 1 v159 σ3) fun v160 =>
        bindO False (vBin none .neq v160 (.str [46])) fun v161 =>
        condW v161 (
        callB W 79 [.ptr σ.length 0 0 0] σ3 (fun v162 σ163 =>
        J154 (lookP [(4, .ptr σ.length 0 0 0), (2, .agg [.list .nil [], .list .nil []]), (3, .agg [.int .i64 0, .int .i64 0]), (5, .agg [mv', rv'])]) σ163) (fun e164 σ165 => R (.pan e164) σ165)) (
        J154 (lookP [(4, .ptr σ.length 0 0 0), (2, .agg [.list .nil [], .list .nil []]), (3, .agg [.int .i64 0, .int .i64 0]), (5, .agg [mv', rv'])]) σ3)) (fun x155 σ156 =>
        callB W 78 [(x155 4)] σ156 (fun v166 σ167 =>
        Φ (lookP [(4, (x155 4)), (2, (x155 2)), (3, (x155 3)), (5, (x155 5))]) σ167) (fun e168 σ169 => R (.pan e168) σ169)) := by
      intro q3 mv' rv' ms' rs' σ3 hI3 hone
      rw [hone] at hF
      obtain ⟨a1, a2, a3⟩ := pStart_spec hI.ok
      obtain ⟨b1, b2, b3, b4⟩ := pOne_spec (left := (pStart s q).2) (ms := ms) (rs := rs) a1
      rw [hone] at b1 b2 b3 b4
      simp only at b1 b2 b3 b4
      obtain ⟨g1, g2, g3⟩ := pEnd_spec b1
      refine CutW_of ?_
      have hgo : ∀ (q4 : RR) (σ4 : St), TI σ σ4 s q4 mv' rv' ms' rs' → pEnd s q3 = q4.next s → callB W 78 [.ptr σ.length 0 0 0] σ4 (fun v166 σ167 =>
          Φ (lookP [(4, .ptr σ.length 0 0 0), (2, .agg [.list .nil [], .list .nil []]), (3, .agg [.int .i64 0, .int .i64 0]), (5, .agg [mv', rv'])]) σ167) (fun e168 σ169 => R (.pan e168) σ169) := by
        intro q4 σ4 hI4 he4
        refine (c78 (by omega) hI4.has hI4.ok.a).callB ?_
        rw [he4] at g1 g2 g3 hF
        refine hnext _ _ m (by omega) ⟨_, mv', rv', ms', rs', rfl, hI4.cd g1, fun hh => ?_, by omega, by omega, hF⟩
        have := hm hqn
        have := g3 hh
        have := g1.a
        omega
      simp only [nil_ptr, hI3.has.ld, e2, zz, Nat.reduceEqDiff, if_true, if_false, decide_true, decide_false, eq_self]
      cases h46 : q3.tt == [46] with
      | true =>
        simp only [zz, Nat.reduceEqDiff, if_true, if_false, decide_true, decide_false, eq_self]
        exact hgo q3 σ3 hI3 (by simp [pEnd, h46])
      | false =>
        simp only [zz, Nat.reduceEqDiff, if_true, if_false, decide_true, decide_false, eq_self]
        refine (c79 hI3.has).callB ?_
        exact hgo (q3.wrong s) _ (hI3.cd hI3.ok.wrong) (by simp [pEnd, h46])
    obtain ⟨q1, hq1⟩ : ∃ q1, q1 = if q.tt == EMPTY then q.wrong s else q := ⟨_, rfl⟩
    refine CutW_by (fun x σ' => x = lookP [(4, .ptr σ.length 0 0 0), (2, .agg [.list .nil [], .list .nil []]), (3, .agg [.int .i64 0, .int .i64 0]), (5, .agg [mv, rv])] ∧ TI σ σ' s q1 mv rv ms rs) ?_ ?_
    rotate_left
    · simp only [nil_ptr, hI.has.ld, e2, zz, Nat.reduceEqDiff, if_true, if_false, decide_true, decide_false, eq_self]
      cases he : q.tt == [69, 77, 80, 84, 89] with
      | true =>
        simp only [zz, Nat.reduceEqDiff, if_true, if_false, decide_true, decide_false, eq_self]
        have : q1 = q.wrong s := by rw [hq1]; simp [he]
        subst this
        refine (c79 hI.has).callB ?_
        exact ⟨trivial, hI.cd hI.ok.wrong⟩
      | false =>
        simp only [zz, Nat.reduceEqDiff, if_true, if_false, decide_true, decide_false, eq_self]
        have : q1 = q := by rw [hq1]; simp [he]
        subst this
        exact ⟨trivial, hI⟩
    rintro x σ3 ⟨rfl, hI3⟩
    simp only [zz, Nat.reduceEqDiff, if_true, if_false, decide_true, decide_false, eq_self]
    have hst : pStart s q = pParts s true q1 := by rw [hq1]; rfl
    obtain ⟨a1, a2, a3⟩ := pStart_spec hI.ok
    have atx := pLoop_txt (d := true) (s.length + 1) q1 [] hI3.ok (by simp)
    have atx : ∀ p ∈ (pStart s q).2, p.2.length ≤ s.length := by rw [hst]; exact atx
    refine (c80 hs hI3.has hI3.ok true).callB ?_
    rw [← hst]
    have hI4 : TI σ (cd σ3 σ.length (rc s (pStart s q).1)) s (pStart s q).1 mv rv ms rs := hI3.cd a1
    obtain ⟨Jp, hJp⟩ : ∃ Jp : (Nat → PV) → St → Prop, Jp = fun x σ' => ∃ q3 mv' rv' ms' rs', x = lookP [(4, .ptr σ.length 0 0 0), (2, .agg [.list .nil [], .list .nil []]), (3, .agg [.int .i64 0, .int .i64 0]), (5, .agg [mv', rv'])] ∧ TI σ σ' s q3 mv' rv' ms' rs' ∧ pOne s (pStart s q).1 (pStart s q).2 ms rs = (q3, ms', rs') := ⟨_, rfl⟩
    refine CutW_by Jp ?_ ?_
    · subst hJp
      rintro x σ5 ⟨q3, mv', rv', ms', rs', rfl, k1, k2⟩
      have := tail q3 mv' rv' ms' rs' σ5 k1 k2
      simp only [zz, Nat.reduceEqDiff, if_true, if_false, decide_true, decide_false, eq_self] at this ⊢
      exact this
    have hJ : ∀ q3 mv' rv' ms' rs' σ', TI σ σ' s q3 mv' rv' ms' rs' → pOne s (pStart s q).1 (pStart s q).2 ms rs = (q3, ms', rs') → Jp (lookP [(4, .ptr σ.length 0 0 0), (2, .agg [.list .nil [], .list .nil []]), (3, .agg [.int .i64 0, .int .i64 0]), (5, .agg [mv', rv'])]) σ' := by
      intro q3 mv' rv' ms' rs' σ' k1 k2
      rw [hJp]
      exact ⟨q3, mv', rv', ms', rs', rfl, k1, k2⟩
    clear hJp tail hnext hF stop
    generalize cd σ3 σ.length (rc s (pStart s q).1) = σ4 at hI4 ⊢
    obtain ⟨q2, hq2⟩ : ∃ q2, q2 = (pStart s q).1 := ⟨_, rfl⟩
    obtain ⟨left, hleft⟩ : ∃ left, left = (pStart s q).2 := ⟨_, rfl⟩
    rw [← hq2, ← hleft] at hJ
    rw [← hq2] at hI4 a1 a2
    rw [← hleft] at a3 atx ⊢
    clear hI3 hI hst hq1 hq2 hleft
    have hdc : ∀ K : PV → Prop, (bindO False (vNil (.ptr σ.length 0 0 0)) fun v => bindO False (vField 4 v) fun w => bindO False (vField 1 w) fun z => bindO False (vLoad false 1 z σ4) K) = K (.int .i64 q2.e.2) := by
      intro K
      simp only [nil_ptr, hI4.has.ld, e5, zz, Nat.reduceEqDiff, if_true, if_false, decide_true, decide_false, eq_self]
    have hdt : ∀ K : PV → Prop, (bindO False (vNil (.ptr σ.length 0 0 0)) fun v => bindO False (vField 2 v) fun w => bindO False (vField 0 w) fun z => bindO False (vLoad false 1 z σ4) K) = K (.str q2.tt) := by
      intro K
      simp only [nil_ptr, hI4.has.ld, e2, zz, Nat.reduceEqDiff, if_true, if_false, decide_true, decide_false, eq_self]
    rw [hdc]
    have hne : (q2.e.2 != 0) = !(q2.e.2 == 0) := rfl
    cases hqe : q2.e.2 == 0 with
    | false =>
      simp only [hne, hqe, zz, Nat.reduceEqDiff, if_true, if_false, decide_true, decide_false, eq_self]
      exact hJ q2 mv rv ms rs σ4 hI4 (by simp only [pOne, hqe, Bool.false_eq_true, if_false])
    | true =>
    simp only [hne, hqe, zz, Nat.reduceEqDiff, if_true, if_false, decide_true, decide_false, eq_self]
    rw [hdt]
    have hvl : vLen .sl rv σ4 = some (.int .i64 (rs.length : Nat)) := by
      have := hI4.gr.elems.len σ4
      rw [this]
      simp
    have hll : ∀ σ : St, vLen .sl (pvParts (reK left)) σ = some (.int .i64 (left.length : Nat)) := fun σ => by simp [pvParts, pvSl, vLen, reK_snd]
    have hgt0 : ∀ n : Nat, decide (((n : Nat) : Int) > 0) = decide (0 < n) := fun n => by
      rw [decide_eq_decide]
      omega
    -- no metarule
    have other : (q2.tt == [58, 58] && (rs.isEmpty && isMetaP left)) = false →
          bindO False (vNil (.ptr σ.length 0 0 0)) fun v129 =>
          bindO False (vField 2 v129) fun v130 =>
          bindO False (vField 0 v130) fun v131 =>
          bindO False (vLoad false 1 v131 σ4) fun v132 =>
          bindO False (vBin none .eql v132 (.str [58])) fun v133 =>
          guardG False v133 true (fun J134 =>
          bindO False (vLen .sl (pvParts (reK left)) σ4) fun v137 =>
          bindO False (vBin none .gtr v137 (.int .i64 0)) fun v138 =>
          J134 (lookE [(122, (.v (pvParts (reK left)))), (123, (.v v137)), (124, (.v v138))]) σ4) σ4 (fun y135 σ136 =>
          bindO False (vPick v133 (y135 124).pv (.bool false)) fun v139 =>
          condW v139 (
          callB W 78 [.ptr σ.length 0 0 0] σ136 (fun v140 σ141 =>
          bindO False (vPart true 2 (.agg [mv, rv]) 0) fun v142 =>
          callB W 82 [.ptr σ.length 0 0 0, v142, (pvParts (reK left))] σ141 (fun v143 σ144 =>
          bindO False (vPut 2 (.agg [mv, rv]) 0 v143) fun z145 =>
          Jp (lookP [(4, .ptr σ.length 0 0 0), (2, .agg [.list .nil [], .list .nil []]), (3, .agg [.int .i64 0, .int .i64 0]), (5, z145)]) σ144) (fun e146 σ147 => R (.pan e146) σ147)) (fun e148 σ149 => R (.pan e148) σ149)) (
          callB W 79 [.ptr σ.length 0 0 0] σ136 (fun v150 σ151 =>
          Jp (lookP [(4, .ptr σ.length 0 0 0), (2, .agg [.list .nil [], .list .nil []]), (3, .agg [.int .i64 0, .int .i64 0]), (5, (.agg [mv, rv]))]) σ151) (fun e152 σ153 => R (.pan e152) σ153))) := by
      intro hb
      rw [hdt]
      cases h3 : q2.tt == [58] with
      | false =>
        simp only [h3, zz, Nat.reduceEqDiff, if_true, if_false, decide_true, decide_false, eq_self]
        refine (c79 hI4.has).callB ?_
        refine hJ (q2.wrong s) mv rv ms rs _ (hI4.cd hI4.ok.wrong) ?_
        simp only [pOne, hqe, hb, h3, Bool.false_and, Bool.false_eq_true, if_true, if_false]
      | true =>
        simp only [h3, hll, hgt0, zz, Nat.reduceEqDiff, if_true, if_false, decide_true, decide_false, eq_self]
        by_cases hl0 : left = []
        · subst hl0
          simp only [List.length_nil, Nat.lt_irrefl, zz, Nat.reduceEqDiff, if_true, if_false, decide_true, decide_false, eq_self]
          refine (c79 hI4.has).callB ?_
          refine hJ (q2.wrong s) mv rv ms rs _ (hI4.cd hI4.ok.wrong) ?_
          simp only [pOne, hqe, hb, h3, List.isEmpty_nil, Bool.not_true, Bool.and_false, Bool.false_eq_true, if_true, if_false]
        · have hpos := List.length_pos_iff.2 hl0
          have hie : left.isEmpty = false := by cases left with
            | nil => exact absurd rfl hl0
            | cons a l => rfl
          simp only [decide_eq_true hpos, zz, Nat.reduceEqDiff, if_true, if_false, decide_true, decide_false, eq_self]
          refine (c78 (by omega) hI4.has hI4.ok.a).callB ?_
          obtain ⟨n1, n2, n3⟩ := next_spec hI4.ok.a
          have hI5 := hI4.cd n1
          generalize cd σ4 σ.length (rc s (q2.next s)) = σ5 at hI5 ⊢
          refine c82 hs hI5.has n1 (Nat.lt_succ_self _) hI5.has.lt hI5.gm hI5.gr hI5.ap (by omega) (fun rv' σ' k1 k2 k3 k4 k5 => ?_)
          have hpp : vPut 2 (.agg [mv, rv]) 0 (.agg [mv, rv']) = some (.agg [mv, rv']) := vPut_agg rfl rfl
          simp only [hpp, zz, Nat.reduceEqDiff, if_true, if_false, decide_true, decide_false, eq_self]
          refine hJ _ mv rv' ms _ σ' ⟨?_, k1, (pRules_spec _ _ _ n1).1, grow_stay hI5.gm fun c hc => ?_, k4, fun c hc hcv => ?_⟩ ?_
          · have hl5 := hI5.pre.length_le
            refine pre_of_get (by omega) fun c hc => ?_
            rw [k3 c (by omega) (by omega) (fun hh => by have := (grow_not hI5.gr hh).1; omega)]
            exact pre_get' hI5.pre hc
          · obtain ⟨g1, g2⟩ := grow_not hI5.gm hc
            exact k3 c g2 (by omega) (hI5.ap c hc)
          · rcases k5 c hcv with h | h
            · exact hI5.ap c hc h
            · have := (grow_not hI5.gm hc).2
              omega
          · simp only [pOne, hqe, hb, h3, hie, Bool.not_false, Bool.and_self, Bool.false_eq_true, if_true, if_false]
    cases h1 : q2.tt == [58, 58] with
    | false =>
      simp only [h1, zz, Nat.reduceEqDiff, if_true, if_false, decide_true, decide_false, eq_self]
      exact other (by rw [h1]; rfl)
    | true =>
      simp only [h1, hvl, zz, Nat.reduceEqDiff, if_true, if_false, decide_true, decide_false, eq_self]
      by_cases hr0 : rs = []
      rotate_left
      · have e0 : (((rs.length : Nat) : Int) == 0) = false := by
          have := List.length_pos_iff.2 hr0
          rw [beq_eq_false_iff_ne]
          omega
        simp only [e0, zz, Nat.reduceEqDiff, if_true, if_false, decide_true, decide_false, eq_self]
        refine other ?_
        cases rs with
        | nil => exact absurd rfl hr0
        | cons a rs => simp
      · subst hr0
        have e0 : (((([] : List Rule19).length : Nat) : Int) == 0) = true := rfl
        simp only [e0, hll, zz, Nat.reduceEqDiff, if_true, if_false, decide_true, decide_false, eq_self]
        match left, hll, other, atx, hJ, a3 with
        | [], hll, other, atx, hJ, a3 =>
          have e1 : (((([] : List Part).length : Nat) : Int) == 1) = false := rfl
          simp only [e1, zz, Nat.reduceEqDiff, if_true, if_false, decide_true, decide_false, eq_self]
          exact other (by simp [isMetaP])
        | a :: b :: l, hll, other, atx, hJ, a3 =>
          have e1 : ((((a :: b :: l).length : Nat) : Int) == 1) = false := by
            rw [beq_eq_false_iff_ne]
            simp
            omega
          have oth := other (by simp [isMetaP])
          simp only [hll, zz, Nat.reduceEqDiff, if_true, if_false, decide_true, decide_false, eq_self] at oth
          simp only [e1, zz, Nat.reduceEqDiff, if_true, if_false, decide_true, decide_false, eq_self]
          exact oth
        | [p], hll, other, atx, hJ, a3 =>
          have e1 : (((([p] : List Part).length : Nat) : Int) == 1) = true := rfl
          have hix : vIndex 2 (pvParts (reK [p])) (.int .i64 0) = some (.eptr (pvPart p) 0) := rfl
          have hpt : vPart false 1 (pvPart p) 1 = some (.str p.2) := rfl
          simp only [e1, hix, hpt, zz, Nat.reduceEqDiff, if_true, if_false, decide_true, decide_false, eq_self]
          have hok : okS p.2 := by
            have := atx p (by simp)
            show p.2.length < _
            omega
          refine (c66 hok _).callB ?_
          cases hmt : isMeta p.2 with
          | false =>
            simp only [zz, Nat.reduceEqDiff, if_true, if_false, decide_true, decide_false, eq_self]
            exact other (by simp [isMetaP, hmt])
          | true =>
            have hone : pOne s q2 [p] ms [] = ((pMetaL s (s.length + 2) true q2 []).1, ms ++ [(p.2, reK (pMetaL s (s.length + 2) true q2 []).2)], []) := by
              simp only [pOne, hqe, h1, isMetaP, hmt, List.isEmpty_nil, Bool.and_self, if_true]
              rfl
            have hb1 : vBuild [(.str []), (.list .nil [])] [(0, 1, .str p.2)] = some [.str p.2, .list .nil []] := rfl
            have hb2 : vPut 2 (.agg [.str [], .list .nil []]) 0 (.agg [.str p.2, .list .nil []]) = some (.agg [.str p.2, .list .nil []]) := rfl
            simp only [hb1, hb2, zz, Nat.reduceEqDiff, if_true, if_false, decide_true, decide_false, eq_self]
            have hP4 : σ.length < σ4.length := hI4.has.lt
            obtain ⟨T2, hT2⟩ : ∃ T2, T2 = pMetaL s (s.length + 2) true q2 [] := ⟨_, rfl⟩
            rw [← hT2] at hone
            refine CutW_weak (fun x σ' => ∃ av, x = lookP [(4, .ptr σ.length 0 0 0), (2, .agg [.list .nil [], .list .nil []]), (3, .agg [.int .i64 0, .int .i64 0]), (5, .agg [mv, rv]), (7, .agg [.str p.2, av])] ∧ cd σ4 σ.length (rc s T2.1) <+: σ' ∧
              Grow σ4.length 1 σ' av (T2.2.map pvParts)) ?_ ?_
            · rintro x σ5 ⟨av, rfl, hp5, hG5⟩
              obtain ⟨hl5, hs5⟩ := pre_same hp5
              have hgm5 : Grow (σ.length + 1) 2 σ5 mv (ms.map pvMeta) := grow_stay hI4.gm fun c hc => by
                obtain ⟨g1, g2⟩ := grow_not hI4.gm hc
                exact hs5 c g2 (by omega)
              have hgr5 : Grow (σ.length + 1) 2 σ5 rv (([] : List Rule19).map pvRule) := grow_stay hI4.gr fun c hc => by
                obtain ⟨g1, g2⟩ := grow_not hI4.gr hc
                exact hs5 c g2 (by omega)
              have hh5 := pre_has hP4 hp5
              have hlo := hI4.pre.length_le
              obtain ⟨σ6, k1, k2, k3⟩ := kill_keep (σ := σ) (σ1 := σ5) (fun c => c == σ.length || (atB mv c || atB rv c)) (by omega) (fun c k hk hc => by
                by_cases hcl : c < σ.length
                · left
                  rw [← pre_get' hI4.pre hcl, ← hs5 c (by omega) (by omega)]
                  exact hk
                · right
                  have hK : (c == σ.length || (atB mv c || atB rv c)) = true := by
                    rcases hc with hc | hc
                    · omega
                    · exact hc
                  rcases Bool.or_eq_true _ _ |>.mp hK with h | h
                  · have hcc : c = σ.length := by simpa using h
                    subst hcc
                    unfold Has at hh5
                    rw [hh5] at hk
                    cases hk
                    exact ⟨_, _, _, rfl, fun x hx => by simp at hx; subst hx; exact .agg _ (rc_flat s T2.1)⟩
                  · rcases Bool.or_eq_true _ _ |>.mp h with h | h
                    · obtain ⟨g, hb⟩ := grow_blk hgm5 ((atB_iff _ _).1 h)
                      rw [hb] at hk
                      cases hk
                      exact ⟨_, _, _, rfl, fun x hx => by obtain ⟨m, _, rfl⟩ := List.mem_map.1 hx; exact flatMeta m⟩
                    · obtain ⟨g, hb⟩ := grow_blk hgr5 ((atB_iff _ _).1 h)
                      rw [hb] at hk
                      cases hk
                      exact ⟨_, _, _, rfl, fun x hx => by obtain ⟨m, _, rfl⟩ := List.mem_map.1 hx; exact flatRule m⟩)
              have hKm : ∀ c, AtB mv c → (c == σ.length || (atB mv c || atB rv c)) = true := fun c hc => by rw [(atB_iff _ _).2 hc]; simp
              have hKr : ∀ c, AtB rv c → (c == σ.length || (atB mv c || atB rv c)) = true := fun c hc => by rw [(atB_iff _ _).2 hc]; simp
              have hKp : (σ.length == σ.length || (atB mv σ.length || atB rv σ.length)) = true := by simp
              have hI6 : TI σ σ6 s T2.1 mv rv ms [] := by
                refine ⟨pre_of_get (by omega) fun c hc => ?_, ?_, ?_, grow_stay hgm5 fun c hc => k3 c (.inr (hKm c hc)), grow_stay hgr5 fun c hc => k3 c (.inr (hKr c hc)), hI4.ap⟩
                · rw [k3 c (.inl hc), hs5 c (by omega) (by omega)]
                  exact pre_get' hI4.pre hc
                · unfold Has
                  rw [k3 _ (.inr hKp)]
                  exact hh5
                · rw [hT2]
                  exact (pMetaL_spec _ _ _ _ hI4.ok).1
              refine ⟨lookP [(4, .ptr σ.length 0 0 0), (2, .agg [.list .nil [], .list .nil []]), (3, .agg [.int .i64 0, .int .i64 0]), (5, .agg [mv, rv]), (7, pvMeta (p.2, reK T2.2))], σ6, ⟨_, k1, lookP_frz ⟨rfl, .base _ (.ptr _ _ _ _ fun h => by rw [hKp] at h; cases h.2), rfl, no.frz _ _, rfl, (fl0 _ _).frz _ _, rfl, .base _ (.agg _ fun i a ha => ?_), rfl, .agg _ _ rfl fun i a b ha hb => ?_, trivial⟩⟩, ?_⟩
              · match i with
                | 0 => cases ha; exact grow_free hgm5 fun c hc h => by rw [hKm c hc] at h; cases h.2
                | 1 => cases ha; exact grow_free hgr5 fun c hc h => by rw [hKr c hc] at h; cases h.2
                | i + 2 => cases ha
              · match i with
                | 0 => cases ha; cases hb; exact (Flat.str _).frz _ _
                | 1 =>
                  cases ha
                  cases hb
                  have := grow_frz_at hG5 (D := fun c => σ.length ≤ c ∧ (c == σ.length || (atB mv c || atB rv c)) = false) (fun c hc => ?_) (fun y hy => by obtain ⟨p, _, rfl⟩ := List.mem_map.1 hy; exact flatParts _)
                  · rw [growV_sl] at this
                    exact this
                  · obtain ⟨g1, g2⟩ := grow_not hG5 hc
                    have h1 : atB mv c = false := by
                      cases h : atB mv c with
                      | false => rfl
                      | true => have := (grow_not hI4.gm ((atB_iff _ _).1 h)).2; omega
                    have h2 : atB rv c = false := by
                      cases h : atB rv c with
                      | false => rfl
                      | true => have := (grow_not hI4.gr ((atB_iff _ _).1 h)).2; omega
                    have h3 : (c == σ.length) = false := by
                      rw [beq_eq_false_iff_ne]
                      omega
                    refine ⟨by omega, ?_⟩
                    rw [h1, h2, h3]
                    rfl
                | i + 2 => cases ha
              · have hpm : vPart true 2 (pvMeta (p.2, reK T2.2)) 0 = some (pvMeta (p.2, reK T2.2)) := rfl
                obtain ⟨mv', σ7, happ, hg7, hp7, hother⟩ := Grow.app (σ0 := σ6.take (σ.length + 1)) (by_ := 40) (y := .list .full [pvMeta (p.2, reK T2.2)]) (zs := [pvMeta (p.2, reK T2.2)])
                  (by rw [List.length_take, Nat.min_eq_left hI6.has.lt]; exact hI6.gm) (take_pre _) rfl (fun z hz => by simp at hz; subst hz; exact sizedMeta _) (by simp; omega)
                rw [List.length_take, Nat.min_eq_left hI6.has.lt] at hg7
                simp only [hpm, vBuildSl_one (sizedMeta _), happ, vPut_fst (grow_cell hg7), zz, Nat.reduceEqDiff, if_true, if_false, decide_true, decide_false, eq_self]
                have hrn : rv = .list .nil [] := by
                  rcases hI4.gr with ⟨h, _⟩ | ⟨_, _, _, _, _, h⟩
                  · exact h
                  · exact absurd rfl h
                have hst : ∀ c, ¬ AtB mv c → c < σ6.length → σ7[c]? = σ6[c]? := fun c hcv hcl => hother c (fun b g z o l hb hcb => hcv (by rw [hb, hcb]; exact ⟨_, _, _, _, rfl⟩)) hcl
                have hl7 := app_len happ
                have hl6 := hI6.pre.length_le
                have hnm : ∀ c, c ≤ σ.length → ¬ AtB mv c := fun c hc hh => by have := (grow_not hI6.gm hh).1; omega
                refine hJ T2.1 mv' rv _ [] σ7 ⟨pre_of_get (by omega) fun c hc => ?_, ?_, hI6.ok, by rw [List.map_append]; exact hg7, by rw [hrn]; exact Grow.nil _ _ _, fun c hc hcv => by rw [hrn] at hcv; obtain ⟨_, _, _, _, hcv⟩ := hcv; cases hcv⟩ hone
                · rw [hst c (hnm c (by omega)) (by omega)]
                  exact pre_get' hI6.pre hc
                · unfold Has
                  rw [hst _ (hnm _ (Nat.le_refl _)) hI6.has.lt]
                  exact hI6.has
            · refine Lfp_down (fun k x σ' => ∃ q' more av alts, x = lookP [(4, .ptr σ.length 0 0 0), (8, .bool more), (2, .agg [.list .nil [], .list .nil []]), (3, .agg [.int .i64 0, .int .i64 0]), (5, .agg [mv, rv]), (7, .agg [.str p.2, av])] ∧ Ok s q' ∧
                (more = true → s.length - q'.a + 1 < k) ∧ alts.length + k ≤ s.length + 2 ∧ cd σ4 σ.length (rc s q') <+: σ' ∧ Grow σ4.length 1 σ' av (alts.map pvParts) ∧ pMetaL s k more q' alts = T2) ?_ (s.length + 2)
                ⟨q2, true, _, [], rfl, hI4.ok, fun _ => by omega, by simp, by rw [hI4.has.self]; exact List.prefix_refl _, Grow.nil _ _ _, hT2.symm⟩
              rintro Ψ k x σ5 ⟨q', more, av, alts, rfl, hq', hk, hal, hp5, hG5, hF5⟩ hnext5 _
              have hh5 := pre_has hP4 hp5
              have stop5 : (more && q'.e.2 == 0) = false → (q', alts) = T2 := fun hb => by
                rw [← hF5]
                cases k with
                | zero => rfl
                | succ k => simp only [pMetaL, hb, Bool.false_eq_true, if_false]
              simp only [zz, Nat.reduceEqDiff, if_true, if_false, decide_true, decide_false, eq_self]
              simp only [nil_ptr, hh5.ld, e2, e5, zz, Nat.reduceEqDiff, if_true, if_false, decide_true, decide_false, eq_self]
              cases more with
              | false =>
                simp only [zz, Nat.reduceEqDiff, if_true, if_false, decide_true, decide_false, eq_self]
                have := stop5 rfl
                refine ⟨av, rfl, ?_, ?_⟩
                · rw [← this]; exact hp5
                · rw [← this]; exact hG5
              | true =>
                cases hee : q'.e.2 == 0 with
                | false =>
                  simp only [zz, Nat.reduceEqDiff, if_true, if_false, decide_true, decide_false, eq_self]
                  have := stop5 (by rw [hee]; rfl)
                  refine ⟨av, rfl, ?_, ?_⟩
                  · rw [← this]; exact hp5
                  · rw [← this]; exact hG5
                | true =>
                  have hk := hk rfl
                  obtain ⟨k, rfl⟩ : ∃ j, k = j + 1 := ⟨k - 1, by omega⟩
                  simp only [pMetaL, hee, Bool.and_self, if_true] at hF5
                  simp only [zz, Nat.reduceEqDiff, if_true, if_false, decide_true, decide_false, eq_self]
                  refine (c78 (by omega) hh5 hq'.a).callB ?_
                  obtain ⟨n1, n2, n3⟩ := next_spec hq'.a
                  have hp6 := cd_pre (rc s (q'.next s)) hP4 hp5
                  have hh6 := pre_has hP4 hp6
                  have hG6 : Grow σ4.length 1 (cd σ5 σ.length (rc s (q'.next s))) av (alts.map pvParts) := grow_cd hG5 hP4
                  generalize cd σ5 σ.length (rc s (q'.next s)) = σ6 at hp6 hh6 hG6 ⊢
                  refine (c81 hs hh6 n1 false).callB ?_
                  obtain ⟨g1, g2, g3, g4⟩ := pAlt_spec (d := false) n1
                  have hp7 := cd_pre (rc s (pAlt s false (q'.next s)).1) hP4 hp6
                  have hG7 : Grow σ4.length 1 (cd σ6 σ.length (rc s (pAlt s false (q'.next s)).1)) av (alts.map pvParts) := grow_cd hG6 hP4
                  obtain ⟨xs, av', σ8, f1, f2, f3, f4⟩ := grow_one sizedParts (n0 := 0) (a := (pAlt s false (q'.next s)).2) (.list .nil []) (by_ := 24) (σ0 := cd σ4 σ.length (rc s (pAlt s false (q'.next s)).1)) (by rw [cd_len]; exact hG7) hp7 (by omega)
                  rw [cd_len] at f3
                  have hh8 := pre_has hP4 f4
                  simp only [f1, f2, vPut_snd (grow_cell f3), nil_ptr, hh8.ld, e2, zz, Nat.reduceEqDiff, if_true, if_false, decide_true, decide_false, eq_self]
                  refine hnext5 _ _ k (by omega) ⟨_, _, av', _, rfl, g1, fun hh => ?_, by simp; omega, f4, f3, hF5⟩
                  have h59 : (pAlt s false (q'.next s)).1.tt = [59] := by simpa using hh
                  have h6 : (q'.next s).tt ≠ [] := fun h6 => by rw [g3 h6] at h59; cases h59
                  have h7 := n3 h6
                  have h8 := g1.a
                  omega

end Go.Proofs.YtiniifbmeobmgaaGreatDoor
