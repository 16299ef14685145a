/- What the package's Read answers. -/
import Derived.Test.YtiniifbmeobmgaaGreatDoorRdE
set_option linter.unusedVariables false
set_option linter.unusedSimpArgs false
namespace Go.Proofs.YtiniifbmeobmgaaGreatDoor
open Go Go.Abs

def OkL (l : List Part) : Prop := l.length ≤ 1048576 ∧ ∀ p ∈ l, p.2.length ≤ 1048576
def OkLL (ls : List (List Part)) : Prop := ls.length ≤ 1048576 ∧ ∀ l ∈ ls, OkL l

section
variable {s : Str} {f : Option Flt} (hs : s.length ≤ 65536)
include hs

theorem parts_ok {d : Bool} {ts : List Tok} {l : List Part} {r : List Tok} (hv : Val s f ts) (hn : ts.length ≤ 65536) (h : partsF f d ts = .ok (l, r)) : OkL l :=
  ⟨by have := (parts_spec hv h).2.1; omega, fun p hp => by have := parts_txt hv h p hp; omega⟩

theorem some_ok {d : Bool} {ts : List Tok} {l : List Part} {r : List Tok} (hv : Val s f ts) (hn : ts.length ≤ 65536) (h : someF s f d ts = .ok (l, r)) : OkL l := by
  obtain ⟨q, h1, h2⟩ := bind_ok h
  split at h2
  · cases h2
  · cases h2
    exact parts_ok hs hv hn h1

omit hs in
theorem okL_nil : OkL [] := ⟨by simp, by simp⟩

theorem alt_ok {d : Bool} {ts : List Tok} {l : List Part} {r : List Tok} (hv : Val s f ts) (hn : ts.length ≤ 65536) (h : altF s f d ts = .ok (l, r)) : OkL l := by
  cases ts with
  | nil => exact some_ok hs hv hn (show someF s f d [] = .ok (l, r) from h)
  | cons t ts =>
    simp only [altF] at h
    split at h
    · obtain ⟨z, h1, h2⟩ := bind_ok h
      split at h2
      · cases h2
      · cases h2
        exact okL_nil
    · exact some_ok hs hv hn h

theorem meta_mem : ∀ {n : Nat} {ts : List Tok} {l : List (List Part)} {r : List Tok}, Val s f ts → ts.length ≤ 65536 → metaF s f n ts = .ok (l, r) → ∀ x ∈ l, OkL x
  | 0, ts, l, r, hv, hn, h => by simp [metaF] at h
  | n + 1, [], l, r, hv, hn, h => by simp [metaF] at h
  | n + 1, t :: ts, l, r, hv, hn, h => by
    simp only [metaF] at h
    obtain ⟨z, h1, h2⟩ := bind_ok h
    obtain ⟨q, h3, h4⟩ := bind_ok h2
    obtain ⟨a, b⟩ := alt_spec (hv.tail h1) h3
    have hq := alt_ok hs (hv.tail h1) (by simp at hn; omega) h3
    split at h4
    · obtain ⟨p, h5, h6⟩ := bind_ok h4
      cases h6
      intro x hx
      rcases List.mem_cons.1 hx with rfl | hx
      · exact hq
      · exact meta_mem a (by simp at hn; omega) h5 x hx
    · cases h4
      intro x hx
      simp at hx
      subst hx
      exact hq

theorem right_mem : ∀ {n : Nat} {ts : List Tok} {l : List (List Part)} {r : List Tok}, Val s f ts → ts.length ≤ 65536 → rightF s f n ts = .ok (l, r) → ∀ x ∈ l, OkL x
  | 0, ts, l, r, hv, hn, h => by simp [rightF] at h
  | n + 1, ts, l, r, hv, hn, h => by
    simp only [rightF] at h
    obtain ⟨q, h3, h4⟩ := bind_ok h
    obtain ⟨a, b, c⟩ := some_spec hv h3
    have hq := some_ok hs hv hn h3
    split at h4
    · rename_i hsg
      obtain ⟨t, us, hqq⟩ := sgn_next hsg
      obtain ⟨z, h5, h6⟩ := bind_ok h4
      obtain ⟨p, h7, h8⟩ := bind_ok h6
      cases h8
      have hvt : Val s f q.2.tail := by
        rw [hqq] at a h5 ⊢
        exact a.tail h5
      intro x hx
      rcases List.mem_cons.1 hx with rfl | hx
      · exact hq
      · exact right_mem hvt (by rw [hqq] at b ⊢; simp at b ⊢; omega) h7 x hx
    · cases h4
      intro x hx
      simp at hx
      subst hx
      exact hq

theorem side_ok {n : Nat} {ts : List Tok} {l : List (List Part)} {r : List Tok} (hv : Val s f ts) (hn : ts.length ≤ 65536) (h : sideF s f n ts = .ok (l, r)) : OkLL l := by
  refine ⟨by have := (side_spec hv h).2; omega, ?_⟩
  cases ts with
  | nil => exact right_mem hs hv hn (show rightF s f n [] = .ok (l, r) from h)
  | cons t ts =>
    simp only [sideF] at h
    split at h
    · obtain ⟨z, h1, h2⟩ := bind_ok h
      split at h2
      · cases h2
      · cases h2
        simp
    · exact right_mem hs hv hn h

theorem rules_mem : ∀ {n : Nat} {ts : List Tok} {l : List (List (List Part))} {r : List Tok}, Val s f ts → ts.length ≤ 65536 → rulesF s f n ts = .ok (l, r) → ∀ x ∈ l, OkLL x
  | 0, ts, l, r, hv, hn, h => by simp [rulesF] at h
  | n + 1, [], l, r, hv, hn, h => by simp [rulesF] at h
  | n + 1, t :: ts, l, r, hv, hn, h => by
    simp only [rulesF] at h
    obtain ⟨z, h1, h2⟩ := bind_ok h
    obtain ⟨q, h3, h4⟩ := bind_ok h2
    obtain ⟨a, b⟩ := side_spec (hv.tail h1) h3
    have hq := side_ok hs (hv.tail h1) (by simp at hn; omega) h3
    split at h4
    · obtain ⟨p, h5, h6⟩ := bind_ok h4
      cases h6
      intro x hx
      rcases List.mem_cons.1 hx with rfl | hx
      · exact hq
      · exact rules_mem a (by simp at hn; omega) h5 x hx
    · cases h4
      intro x hx
      simp at hx
      subst hx
      exact hq

/-- Grammars of moderate sizes. -/
def OkPG (ms : List PMeta) (rs : List PRule) : Prop := (∀ m ∈ ms, m.1.length ≤ 1048576 ∧ OkLL m.2) ∧ ∀ r ∈ rs, OkL r.1 ∧ OkLL r.2

theorem gram_ok (N : Nat) (hN : N ≤ 65536) : ∀ {n : Nat} {ms ms' : List PMeta} {rs rs' : List PRule} {ts : List Tok}, Val s f ts → ms.length + rs.length + ts.length ≤ N → OkPG ms rs → gramF s f n ms rs ts = .ok (ms', rs') → OkPG ms' rs' ∧ ms'.length + rs'.length ≤ N
  | 0, ms, ms', rs, rs', ts, hv, hn, ho, h => by simp [gramF] at h
  | n + 1, ms, ms', rs, rs', [], hv, hn, ho, h => by
    simp only [gramF, Except.ok.injEq, Prod.mk.injEq] at h
    obtain ⟨rfl, rfl⟩ := h
    exact ⟨ho, by simpa using hn⟩
  | n + 1, ms, ms', rs, rs', t :: ts, hv, hn, ho, h => by
    simp only [gramF] at h
    obtain ⟨q, h1, h2⟩ := bind_ok h
    obtain ⟨p, h3, h4⟩ := bind_ok h2
    obtain ⟨a, b, c⟩ := parts_spec hv h1
    have hq := parts_ok hs hv (by simp at hn ⊢; omega) h1
    have key : OkPG p.1 p.2.1 ∧ Val s f p.2.2 ∧ p.1.length + p.2.1.length + p.2.2.length ≤ N := by
      split at h3
      · rename_i hb
        obtain ⟨z, h5, h6⟩ := bind_ok h3
        cases h6
        obtain ⟨a1, b1, c1⟩ := meta_spec a h5
        have hz := meta_mem hs a (by simp at hn b; omega) h5
        refine ⟨⟨fun m hm => ?_, ho.2⟩, a1, by simp at hn b ⊢; omega⟩
        rcases List.mem_append.1 hm with hm | hm
        · exact ho.1 m hm
        · simp only [List.mem_singleton] at hm
          subst hm
          refine ⟨?_, show z.1.length ≤ 1048576 by simp at hn b; omega, hz⟩
          obtain ⟨l, r⟩ := q
          cases l with
          | nil => simp
          | cons p l => exact hq.2 p (by simp)
      · split at h3
        · rename_i hb hl
          obtain ⟨z, h5, h6⟩ := bind_ok h3
          cases h6
          obtain ⟨a1, b1, c1⟩ := rules_spec a h5
          have hz := rules_mem hs a (by simp at hn b; omega) h5
          refine ⟨⟨ho.1, fun r hr => ?_⟩, a1, by simp at hn b ⊢; omega⟩
          rcases List.mem_append.1 hr with hr | hr
          · exact ho.2 r hr
          · obtain ⟨x, hx, rfl⟩ := List.mem_map.1 hr
            exact ⟨hq, hz x hx⟩
        · cases h3
    split at h4
    · rename_i hsg
      obtain ⟨w, ws, hqq⟩ := sgn_next hsg
      obtain ⟨z, h5, h6⟩ := bind_ok h4
      have hvt : Val s f p.2.2.tail := by
        have := key.2.1
        rw [hqq] at this h5 ⊢
        exact this.tail h5
      refine gram_ok N hN hvt ?_ key.1 h6
      have := key.2.2
      rw [hqq] at this ⊢
      simp at this ⊢
      omega
    · cases h4

omit hs in
theorem okGram_mk {ms : List PMeta} {rs : List PRule} (h : OkPG ms rs) (hl : ms.length + rs.length ≤ 65536) : OkGram (mkGram ms rs) := by
  have parts : ∀ l, OkL l → OkParts (reK l) := fun l hl => ⟨hl.1, hl.2⟩
  have lists : ∀ ls, OkLL ls → OkLists (mkLists ls) := fun ls hl => ⟨by simpa [mkLists, reK_snd] using hl.1, fun p hp => by
    simp only [mkLists, reK_snd] at hp
    obtain ⟨l, hl', rfl⟩ := List.mem_map.1 hp
    exact parts l (hl.2 l hl')⟩
  refine ⟨by simp [mkGram, reK_snd]; omega, by simp [mkGram, reK_snd]; omega, fun m hm => ?_, fun r hr => ?_⟩
  · simp only [mkGram, reK_snd] at hm
    obtain ⟨x, hx, rfl⟩ := List.mem_map.1 hm
    exact ⟨(h.1 x hx).1, lists _ (h.1 x hx).2⟩
  · simp only [mkGram, reK_snd] at hr
    obtain ⟨x, hx, rfl⟩ := List.mem_map.1 hr
    exact ⟨parts _ (h.2 x hx).1, lists _ (h.2 x hx).2⟩
end

/-- The grammar of a text, or the first fault. -/
def readF (s : Str) (f : Option Flt) (n : Nat) (ts : List Tok) : Except Flt (List PMeta × List PRule) :=
  ((goF f ts).bind fun _ => gramF s f n [] [] ts).bind fun g => if checkG (mkGram g.1 g.2) = 0 then .ok g else .error (0, checkG (mkGram g.1 g.2))

def pvFlt (e : Flt) : PV := .agg [.int .i64 e.1, .int .i64 e.2]
def pvNo : PV := .agg [.list .nil [], .list .nil []]
def readV : Except Flt (List PMeta × List PRule) → PV
  | .ok g => .tuple [pvGram (mkGram g.1 g.2), pvFlt (0, 0)]
  | .error e => .tuple [pvNo, pvFlt e]

theorem lex_len {s : Str} : ∀ {a : Nat} {ts : List Tok} {f : Option Flt}, Lex s a ts f → a ≤ s.length → a + ts.length ≤ s.length := by
  intro a ts f h
  induction h with
  | fin a h1 => intro ha; simpa using ha
  | form a c h1 h2 h3 => intro ha; simpa using ha
  | name a c h1 h2 h3 => intro ha; simpa using ha
  | word a c ts f h1 h2 h3 h4 ih =>
    intro ha
    have hle := skip_le ha
    have hge := skip_ge s a
    obtain ⟨w, hw⟩ := word_cons h1 h2
    have hw2 : 0 < (wordAt s (skip s a)).length := by rw [hw]; simp
    have := ih (word_le hle)
    simp
    omega
  | sign a c ts f h1 h2 h3 h4 ih =>
    intro ha
    have hle := skip_le ha
    have hge := skip_ge s a
    obtain ⟨w, hw⟩ := sign_cons h1
    have hw2 : 0 < (signAt s (skip s a)).length := by rw [hw]; simp
    have := ih (sign_le h1)
    simp
    omega

/-! ### The two results' variables -/

def b2 (σ : St) (x y : PV) : St := σ ++ [.arr 0 2 [x]] ++ [.arr 0 2 [y]]

theorem b2_get {σ σ' : St} {x y : PV} (h : b2 σ x y <+: σ') : σ'[σ.length]? = some (.arr 0 2 [x]) ∧ σ'[σ.length + 1]? = some (.arr 0 2 [y]) ∧ σ <+: σ' := by
  obtain ⟨g, rfl⟩ := h
  unfold b2
  refine ⟨?_, ?_, ?_⟩
  · rw [List.getElem?_append_left (by simp), List.getElem?_append_left (by simp), List.getElem?_append_right (Nat.le_refl _)]
    simp
  · rw [List.getElem?_append_left (by simp), List.getElem?_append_right (by simp)]
    simp
  · rw [List.append_assoc, List.append_assoc]
    exact List.prefix_append _ _

theorem b2_st0 {σ σ' : St} {a b c d y : PV} (h : b2 σ (.agg [a, b]) y <+: σ') : ∃ σ'', vStore 2 (.ptr σ.length 0 0 0) (.agg [c, d]) σ' = some σ'' ∧ b2 σ (.agg [c, d]) y <+: σ'' := by
  refine ⟨σ'.set σ.length (.arr 0 2 [.agg [c, d]]), ?_, ?_⟩
  · simp [vStore, (b2_get h).1, vPut, PV.cells?, setRange]
  · obtain ⟨g, rfl⟩ := h
    refine ⟨g, ?_⟩
    unfold b2
    rw [List.append_assoc, List.append_assoc, List.append_assoc, List.append_assoc, List.set_append_right _ _ (Nat.le_refl _)]
    simp

theorem b2_st1 {σ σ' : St} {a b c d x : PV} (h : b2 σ x (.agg [a, b]) <+: σ') : ∃ σ'', vStore 2 (.ptr (σ.length + 1) 0 0 0) (.agg [c, d]) σ' = some σ'' ∧ b2 σ x (.agg [c, d]) <+: σ'' := by
  refine ⟨σ'.set (σ.length + 1) (.arr 0 2 [.agg [c, d]]), ?_, ?_⟩
  · simp [vStore, (b2_get h).2.1, vPut, PV.cells?, setRange]
  · obtain ⟨g, rfl⟩ := h
    refine ⟨g, ?_⟩
    unfold b2
    rw [List.append_assoc, List.append_assoc, List.append_assoc, List.append_assoc, List.set_append_right _ _ (by omega)]
    simp

theorem b2_ld {σ σ' : St} {a b c d : PV} (h : b2 σ (.agg [a, b]) (.agg [c, d]) <+: σ') : vLoad true 2 (.ptr σ.length 0 0 0) σ' = some (.agg [a, b]) ∧ vLoad true 2 (.ptr (σ.length + 1) 0 0 0) σ' = some (.agg [c, d]) := by
  obtain ⟨h1, h2, _⟩ := b2_get h
  constructor
  · simp [vLoad, h1, vPart]
  · simp [vLoad, h2, vPart]

theorem c20 {s : Str} (hs : s.length ≤ 65536) {f : Option Flt} {ts : List Tok} {n : Nat} (hnf : ts.length < n) (hL : Lex s 0 ts f) (σ : St) : Ret W 20 [.str s] σ (readV (readF s f n ts)) := by
  refine ret_of fun R hR => ?_
  have hn : ts.length ≤ 65536 := by have := lex_len hL (Nat.zero_le _); omega
  rw [fn20_eq]
  unfold fn20
  simp only [newW_eq]
  have hgt : decide ((s.length : Int) > 65536) = false := by rw [decide_eq_false_iff_not]; omega
  have hb1 : vBuild [(.str []), (.int .i64 0), (.int .i64 0), (.int .i64 0), (.str []), (.bool false)] [(0, 1, .str s)] = some [.str s, .int .i64 0, .int .i64 0, .int .i64 0, .str [], .bool false] := rfl
  have hbox : ∀ cs : List PV, opC.vBoxAny (.agg cs) = some (cs.length, .agg cs) := fun cs => rfl
  simp only [hgt, hb1, hbox, newW_eq, List.length_append, List.length_cons, List.length_nil, Nat.reduceAdd, Nat.reduceLT, Nat.add_assoc, zz, Nat.reduceEqDiff, if_true, if_false, decide_true, decide_false, eq_self]
  have hpre : b2 σ (.agg [.list .nil [], .list .nil []]) (.agg [.int .i64 0, .int .i64 0]) <+: σ ++ [Blk.arr 0 2 [.agg [.list .nil [], .list .nil []]]] ++ [Blk.arr 0 2 [.agg [.int .i64 0, .int .i64 0]]] ++ [Blk.arr 0 6 [.agg [.str s, .int .i64 0, .int .i64 0, .int .i64 0, .str [], .bool false]]] := List.prefix_append _ _
  have hlen : (b2 σ (.agg [.list .nil [], .list .nil []]) (.agg [.int .i64 0, .int .i64 0])).length = σ.length + 2 := by simp [b2]
  have hhas : Has (σ ++ [Blk.arr 0 2 [.agg [.list .nil [], .list .nil []]]] ++ [Blk.arr 0 2 [.agg [.int .i64 0, .int .i64 0]]] ++ [Blk.arr 0 6 [.agg [.str s, .int .i64 0, .int .i64 0, .int .i64 0, .str [], .bool false]]]) (σ.length + 2) [.str s, .int .i64 0, .int .i64 0, .int .i64 0, .str [], .bool false] := by
    unfold Has
    rw [List.getElem?_append_right (by simp)]
    simp
  generalize σ ++ [Blk.arr 0 2 [.agg [.list .nil [], .list .nil []]]] ++ [Blk.arr 0 2 [.agg [.int .i64 0, .int .i64 0]]] ++ [Blk.arr 0 6 [.agg [.str s, .int .i64 0, .int .i64 0, .int .i64 0, .str [], .bool false]]] = σ1 at hpre hhas ⊢
  have htake : ∀ {σ' : St}, σ1.take (σ.length + 2) <+: σ' → b2 σ (.agg [.list .nil [], .list .nil []]) (.agg [.int .i64 0, .int .i64 0]) <+: σ' := by
    intro σ' h
    have := List.prefix_iff_eq_take.1 hpre
    rw [hlen] at this
    rw [this]
    exact h
  have fin : ∀ {a b c d : PV} {σ' : St} {v : PV}, b2 σ (.agg [a, b]) (.agg [c, d]) <+: σ' → Under σ.length (.agg [a, b]) → Under σ.length (.agg [c, d]) → readV (readF s f n ts) = .tuple [.agg [a, b], .agg [c, d]] → weakW σ (.tuple [.agg [a, b], .agg [c, d]]) σ' fun v σ => R (.ret v) σ := by
    intro a b c d σ' v h h1 h2 hv
    refine weakW_clean (b2_get h).2.2 (.base _ (.tuple _ fun i x hx => ?_)) (by rw [← hv]; exact hR)
    match i with
    | 0 => cases hx; exact h1
    | 1 => cases hx; exact h2
    | i + 2 => cases hx
  have uno : Under σ.length (.agg [.list .nil [], .list .nil []]) := .agg _ fun i x hx => by
    match i with
    | 0 => cases hx; exact .list _ _ (by simp)
    | 1 => cases hx; exact .list _ _ (by simp)
    | i + 2 => cases hx
  have uflt : ∀ a b : Int, Under σ.length (.agg [.int .i64 a, .int .i64 b]) := fun a b => .agg _ fun i x hx => by
    match i with
    | 0 => cases hx; exact .int _ _
    | 1 => cases hx; exact .int _ _
    | i + 2 => cases hx
  have ugram : ∀ g : Gram, Under σ.length (pvGram g) := fun g => .agg _ fun i x hx => by
    match i with
    | 0 => cases hx; exact underSl (underMeta _) _
    | 1 => cases hx; exact underSl (underRule _) _
    | i + 2 => cases hx
  have hbn : vBuild [(.list .nil []), (.list .nil [])] [] = some [.list .nil [], .list .nil []] := rfl
  have hbf : ∀ c : Int, vBuild [(.int .i64 0), (.int .i64 0)] [(1, 1, .int .i64 c)] = some [.int .i64 0, .int .i64 c] := fun c => rfl
  have hb0 : vBuild [(.int .i64 0), (.int .i64 0)] [] = some [.int .i64 0, .int .i64 0] := rfl
  have hni : vBin (some .ifc) .neq .nilIface .nilIface = some (.bool false) := rfl
  refine c77 (by omega) hn hnf hhas hL (fun ms rs hg => ?_) (fun e σ' hg hp => ?_)
  · have h2 : b2 σ (.agg [.list .nil [], .list .nil []]) (.agg [.int .i64 0, .int .i64 0]) <+: cd σ1 (σ.length + 2) (hcells s []) := htake (by rw [← cd_take σ1 _ (hcells s [])]; exact List.take_prefix _ _)
    obtain ⟨z, hz, hgr⟩ := bind_ok hg
    have hv := (hL.val (Nat.zero_le _) hz).2
    obtain ⟨ho, hol⟩ := gram_ok hs 65536 (Nat.le_refl _) hv (by simpa using hn) ⟨by simp, by simp⟩ hgr
    have hG := okGram_mk ho hol
    have hrf : readF s f n ts = if checkG (mkGram ms rs) = 0 then .ok (ms, rs) else .error (0, checkG (mkGram ms rs)) := by
      unfold readF
      rw [hg]
      rfl
    generalize cd σ1 (σ.length + 2) (hcells s []) = σ2 at h2 ⊢
    obtain ⟨σ3, s1, h3⟩ := b2_st0 (c := pvSl pvMeta (mkGram ms rs).1) (d := pvSl pvRule (mkGram ms rs).2) h2
    obtain ⟨l1, l2⟩ := b2_ld h3
    have s1 : vStore 2 (.ptr σ.length 0 0 0) (pvGram (mkGram ms rs)) σ2 = some σ3 := s1
    have l1 : vLoad true 2 (.ptr σ.length 0 0 0) σ3 = some (pvGram (mkGram ms rs)) := l1
    simp only [s1, l1, zz, Nat.reduceEqDiff, if_true, if_false, decide_true, decide_false, eq_self]
    refine (c15 hG _).callB ?_
    by_cases hck : checkG (mkGram ms rs) = 0
    · have e0 : (checkG (mkGram ms rs) != 0) = false := by simp [hck]
      obtain ⟨σ4, s2, h4⟩ := b2_st0 (c := pvSl pvMeta (mkGram ms rs).1) (d := pvSl pvRule (mkGram ms rs).2) h3
      obtain ⟨σ5, s3, h5⟩ := b2_st1 (c := .int .i64 0) (d := .int .i64 0) h4
      obtain ⟨l3, l4⟩ := b2_ld h5
      have s2 : vStore 2 (.ptr σ.length 0 0 0) (pvGram (mkGram ms rs)) σ3 = some σ4 := s2
      have l3 : vLoad true 2 (.ptr σ.length 0 0 0) σ5 = some (pvGram (mkGram ms rs)) := l3
      simp only [e0, l1, hb0, s2, s3, hni, l3, l4, resCons, vResults, zz, Nat.reduceEqDiff, if_true, if_false, decide_true, decide_false, eq_self]
      exact fin (v := .any) h5 (ugram _) (uflt _ _) (by rw [hrf, if_pos hck]; rfl)
    · have e0 : (checkG (mkGram ms rs) != 0) = true := by simp [hck]
      obtain ⟨σ4, s2, h4⟩ := b2_st0 (c := .list .nil []) (d := .list .nil []) h3
      obtain ⟨σ5, s3, h5⟩ := b2_st1 (c := .int .i64 0) (d := .int .i64 (checkG (mkGram ms rs))) h4
      obtain ⟨l3, l4⟩ := b2_ld h5
      simp only [e0, hbn, hbf, s2, s3, hni, l3, l4, resCons, vResults, zz, Nat.reduceEqDiff, if_true, if_false, decide_true, decide_false, eq_self]
      exact fin (v := .any) h5 uno (uflt _ _) (by rw [hrf, if_neg hck]; rfl)
  · have h2 := htake hp
    have hrf : readF s f n ts = .error e := by
      unfold readF
      rw [hg]
      rfl
    obtain ⟨σ3, s1, h3⟩ := b2_st0 (c := .list .nil []) (d := .list .nil []) h2
    obtain ⟨σ4, s2, h4⟩ := b2_st1 (c := .int .i64 e.1) (d := .int .i64 e.2) h3
    obtain ⟨l1, l2⟩ := b2_ld h4
    have hne : vBin (some .ifc) .neq (fpv e) .nilIface = some (.bool true) := rfl
    have has : vAssert 41 (.agg [(.int .i64 0), (.int .i64 0)]) true (fpv e) = some (.tuple [.agg [.int .i64 e.1, .int .i64 e.2], .bool true]) := rfl
    have hput : vPut 2 (.agg [(.int .i64 0), (.int .i64 0)]) 0 (.agg [.int .i64 e.1, .int .i64 e.2]) = some (.agg [.int .i64 e.1, .int .i64 e.2]) := rfl
    simp only [hne, has, hput, hbn, s1, s2, l1, l2, resCons, vResults, zz, Nat.reduceEqDiff, if_true, if_false, decide_true, decide_false, eq_self]
    exact fin (v := .any) h4 uno (uflt _ _) (by rw [hrf]; rfl)

end Go.Proofs.YtiniifbmeobmgaaGreatDoor
