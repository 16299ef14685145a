/- The law HyperRenames: the walk. -/
import Derived.Test.YtiniifbmeobmgaaGreatDoorRnA
import Derived.Test.YtiniifbmeobmgaaGreatDoorFlt
import Derived.Test.YtiniifbmeobmgaaGreatDoorFnK
import Derived.Test.YtiniifbmeobmgaaGreatDoorFnL
set_option linter.unusedVariables false
set_option linter.unusedSimpArgs false
namespace Go.Proofs.YtiniifbmeobmgaaGreatDoor
open Go Go.Abs

abbrev Z38 : Str := List.replicate 38 90

theorem c34 (σ : St) : Ret W 34 [.str [90], .int .i64 38] σ (.str Z38) := by
  refine ret_of fun R hR => ?_
  have h0 : bodyC (algP W) Tryz.prog annF 34 [.str [90], .int .i64 38] σ R = bindO False (extRepeat [.str [90], .int .i64 38] σ) (fun r => R (.ret r.1) r.2) := by kernel_rfl
  rw [h0]
  have : extRepeat [.str [90], .int .i64 38] σ = some (.str Z38, σ) := rfl
  rw [this]
  exact hR

theorem c39 {s : Str} (hs : s.length ≤ 9223372036854775807) (σ : St) : Ret W 39 [.str s, .str D9] σ (.str (trimD s)) := by
  refine ret_of fun R hR => ?_
  show bindO False (extTrimRight _ _) _
  have : extTrimRight [.str s, .str D9] σ = some (.str (trimD s), σ) := by
    simp only [extTrimRight]
    rw [if_pos ⟨hs, by decide, by decide⟩]
    rfl
  rw [this]
  exact hR

theorem c36 {m : Meta19} {name : Str} {σ : St} {b : Nat} (hb : σ[b]? = some (.arr 0 1 [.str name])) : Ret W 36 [pvMeta m, .ptr b 0 0 0] σ (.bool (m.1 == name)) := by
  refine ret_of fun R hR => ?_
  rw [fn36_eq]
  unfold fn36
  have hbox : opC.vBoxAny (pvMeta m) = some (2, pvMeta m) := rfl
  have hp : vPart false 1 (pvMeta m) 0 = some (.str m.1) := rfl
  have hld : vLoad false 1 (.ptr b 0 0 0) σ = some (.str name) := by
    simp [vLoad, hb, vPart]
    rfl
  simp only [hbox, hp, hld, zz, Nat.reduceEqDiff, if_true, if_false, decide_true, decide_false, eq_self]
  exact weakW_keep hR

/-- Clone: the block is kept. -/
theorem c38w {k : LK} {l : List Part} (hk : k = .nil → l = []) (hl : l.length ≤ 1048576) {σ : St} {R : Res → St → Prop}
    (h0 : l = [] → R (.ret (.list (if k = .nil then .nil else .full) [])) σ) (h1 : l ≠ [] → R (.ret (.sref σ.length 0 2 0 l.length)) (σ ++ [.arr 0 2 (l.map pvPart)])) : W 38 [pvParts (k, l)] σ R := by
  refine callW_fold ?_
  rw [fn38_eq]
  unfold fn38
  have hv : pvParts (k, l) = .list k (l.map pvPart) := rfl
  rw [hv]
  by_cases hkn : k = .nil
  · obtain rfl := hk hkn
    subst hkn
    have : vBin (some .sl) .eql (.list .nil []) (.list .nil []) = some (.bool true) := rfl
    simp only [List.map_nil, this, zz, Nat.reduceEqDiff, if_true, if_false, decide_true, decide_false, eq_self]
    exact weakW_keep (h0 rfl)
  · have : vBin (some .sl) .eql (.list k (l.map pvPart)) (.list .nil []) = some (.bool false) := by
      cases k with
      | nil => exact absurd rfl hkn
      | full => rfl
      | part => rfl
    have hb : vBuildSl 2 (List.replicate 0 (.agg [.bool false, .str []])) [] = some [] := rfl
    simp only [this, hb, zz, Nat.reduceEqDiff, if_true, if_false, decide_true, decide_false, eq_self]
    cases l with
    | nil =>
      have : vAppend 2 24 (.list .full []) (.list k ([].map pvPart)) σ = some (.list .full [], σ) := rfl
      simp only [this, zz, Nat.reduceEqDiff, if_true, if_false, decide_true, decide_false, eq_self]
      have := h0 rfl
      rw [if_neg hkn] at this
      exact weakW_keep this
    | cons p l =>
      have : vAppend 2 24 (.list .full []) (.list k ((p :: l).map pvPart)) σ = some (.sref σ.length 0 2 0 (p :: l).length, σ ++ [.arr 0 2 ((p :: l).map pvPart)]) := by
        have he : vElems (.list k ((p :: l).map pvPart)) σ = some ((p :: l).map pvPart) := rfl
        simp only [vAppend, he]
        have hroom : roomy (([] : List PV).length + ((p :: l).map pvPart).length) 24 = true := by
          simp only [roomy, List.length_map, List.length_nil, decide_eq_true_eq]
          omega
        rw [if_neg (by simp), if_pos ⟨by decide, hroom, rfl, rfl⟩]
        simp
      rw [this]
      simp only [zz, Nat.reduceEqDiff, if_true, if_false, decide_true, decide_false, eq_self]
      exact weakW_keep (h1 (by simp))

theorem drop_cons' {α : Type} {l : List α} {i : Nat} {a : α} (h : l[i]? = some a) : l.drop i = a :: l.drop (i + 1) := by
  obtain ⟨hi, rfl⟩ := List.getElem?_eq_some_iff.1 h
  exact List.drop_eq_getElem_cons hi

theorem trimD_le (s : Str) : (trimD s).length ≤ s.length := by
  unfold trimD Go.Lib.trimRightS
  rw [List.length_reverse]
  have := (List.dropWhile_suffix (l := s.reverse) (D9.contains ·)).length_le
  simpa using this

/-- The parts of a list, the metanotion renamed. -/
theorem c37 {k : LK} {l : List Part} (hk : k = .nil → l = []) (hl : l.length ≤ 1048576) (ht : ∀ p ∈ l, p.2.length ≤ 1048576) {old name : Str} (hname : name.length ≤ 1048576) {σ : St} {a b : Nat}
    (ha : σ[a]? = some (.arr 0 1 [.str old])) (hb : σ[b]? = some (.arr 0 1 [.str name])) : Ret W 37 [pvParts (k, l), .ptr a 0 0 0, .ptr b 0 0 0] σ (pvParts (chL old name (k, l))) := by
  refine ret_of fun R hR => ?_
  rw [fn37_eq]
  unfold fn37
  refine c38w hk hl (fun he => ?_) fun hne => ?_
  · subst he
    simp only
    refine CutW_of ?_
    simp only [List.length_nil, zz, Nat.reduceEqDiff, if_true, if_false, decide_true, decide_false, eq_self]
    refine Lfp_up 0 (fun i x σ' => x = lookP [(1, .ptr a 0 0 0), (2, .ptr b 0 0 0), (5, .list (if k = .nil then .nil else .full) []), (10, .list (if k = .nil then .nil else .full) []), (11, .int .i64 (0 : Nat)), (12, .int .i64 (0 : Nat))] ∧ σ' = σ) ?_ ⟨rfl, rfl⟩
    rintro Φ i x σ' hi ⟨rfl, rfl⟩ next
    have : decide (((0 : Nat) : Int) < ((0 : Nat) : Int)) = false := rfl
    simp only [this, Nat.lt_irrefl, zz, Nat.reduceEqDiff, if_true, if_false, decide_true, decide_false, eq_self]
    refine weakW_keep ?_
    have he : pvParts (chL old name (k, [])) = .list (if k = .nil then .nil else .full) [] := by
      simp [pvParts, pvSl, chL]
    rw [he] at hR
    exact hR
  · simp only
    have hkn : k ≠ .nil := fun e => hne (hk e)
    refine CutW_of ?_
    simp only [zz, Nat.reduceEqDiff, if_true, if_false, decide_true, decide_false, eq_self]
    refine Lfp_up l.length (fun i x σ' => x = lookP [(1, .ptr a 0 0 0), (2, .ptr b 0 0 0), (5, .sref σ.length 0 2 0 l.length), (10, .sref σ.length 0 2 0 l.length), (11, .int .i64 l.length), (12, .int .i64 i)] ∧ σ' = σ ++ [.arr 0 2 (((l.take i).map (rnP old name)).map pvPart ++ (l.drop i).map pvPart)]) ?_ ⟨rfl, by simp⟩
    rintro Φ i x σ' hi ⟨rfl, rfl⟩ next
    have ha' : ∀ q, vLoad false 1 (.ptr a 0 0 0) (σ ++ q) = some (.str old) := fun q => by
      simp [vLoad, List.getElem?_append_left (List.getElem?_eq_some_iff.1 ha).1, ha, vPart]
      rfl
    have hb' : ∀ q, vLoad false 1 (.ptr b 0 0 0) (σ ++ q) = some (.str name) := fun q => by
      simp [vLoad, List.getElem?_append_left (List.getElem?_eq_some_iff.1 hb).1, hb, vPart]
      rfl
    by_cases hlt : i < l.length
    · have hgi : l[i]? = some l[i] := by simp [hlt]
      have hmem : l[i] ∈ l := by simp
      generalize l[i] = p at hgi hmem
      have hpt := ht p hmem
      have hdr := drop_cons' hgi
      have hAl : (((l.take i).map (rnP old name)).map pvPart).length = i := by simp; omega
      generalize hA : ((l.take i).map (rnP old name)).map pvPart = A at hAl
      have hnx : ((l.take (i + 1)).map (rnP old name)).map pvPart ++ (l.drop (i + 1)).map pvPart = A ++ pvPart (rnP old name p) :: (l.drop (i + 1)).map pvPart := by
        rw [List.take_add_one, hgi]
        simp [← hA]
      have hst : A ++ (l.drop i).map pvPart = A ++ pvPart p :: (l.drop (i + 1)).map pvPart := by rw [hdr]; rfl
      rw [hst]
      have hix : vIndex 2 (.sref σ.length 0 2 0 l.length) (.int .i64 i) = some (.ptr σ.length 0 i 0) := by
        simp [vIndex, hlt]
      have hblk : ∀ q : PV, (σ ++ [Blk.arr 0 2 (A ++ q :: (l.drop (i + 1)).map pvPart)])[σ.length]? = some (.arr 0 2 (A ++ q :: (l.drop (i + 1)).map pvPart)) := fun q => by simp
      have hat : ∀ q : PV, (A ++ q :: (l.drop (i + 1)).map pvPart)[i]? = some q := fun q => by
        rw [List.getElem?_append_right (by omega), hAl]
        simp
      have hld : vLoad true 2 (.ptr σ.length 0 i 0) (σ ++ [.arr 0 2 (A ++ pvPart p :: (l.drop (i + 1)).map pvPart)]) = some (pvPart p) := by
        simp only [vLoad, hblk, hat]
        rfl
      have hput : vPut 2 (.agg [.bool false, .str []]) 0 (pvPart p) = some (pvPart p) := rfl
      have hp0 : vPart false 1 (pvPart p) 0 = some (.bool p.1) := rfl
      have hp1 : vPart false 1 (pvPart p) 1 = some (.str p.2) := rfl
      have hfin : rnP old name p = p → Φ (lookP [(1, .ptr a 0 0 0), (2, .ptr b 0 0 0), (5, .sref σ.length 0 2 0 l.length), (10, .sref σ.length 0 2 0 l.length), (11, .int .i64 l.length), (12, .int .i64 ((i + 1 : Nat) : Int))]) (σ ++ [.arr 0 2 (A ++ pvPart p :: (l.drop (i + 1)).map pvPart)]) := fun he => by
        refine next _ _ hlt ⟨rfl, ?_⟩
        rw [hnx, he]
      simp only [hlt, zz, Nat.reduceEqDiff, if_true, if_false, decide_true, decide_false, eq_self]
      refine CutW_of ?_
      simp only [hix, hld, hput, hp0, hp1, zz, Nat.reduceEqDiff, if_true, if_false, decide_true, decide_false, eq_self]
      cases hpm : p.1 with
      | false =>
        have he : rnP old name p = p := by simp [rnP, hpm]
        simp only [zz, Nat.reduceEqDiff, if_true, if_false, decide_true, decide_false, eq_self]
        rw [vBin_add _ (by omega) (by omega)]
        exact hfin he
      | true =>
        simp only [ha', zz, Nat.reduceEqDiff, if_true, if_false, decide_true, decide_false, eq_self]
        refine (c39 (by omega) _).callC ?_
        simp only [zz, Nat.reduceEqDiff, if_true, if_false, decide_true, decide_false, eq_self]
        cases ho : (trimD p.2 == old) with
        | false =>
          have he : rnP old name p = p := by simp [rnP, hpm, ho]
          simp only [zz, Nat.reduceEqDiff, if_true, if_false, decide_true, decide_false, eq_self]
          rw [vBin_add _ (by omega) (by omega)]
          exact hfin he
        | true =>
          have hole : old.length ≤ p.2.length := by
            have := trimD_le p.2
            rw [beq_iff_eq.1 ho] at this
            exact this
          have hsub : vSubStr (.str p.2) (some (.int .i64 old.length)) none = some (.str (p.2.drop old.length)) := by
            simp [vSubStr, bound, hole]
          have hrn : rnP old name p = (true, name ++ p.2.drop old.length) := by simp [rnP, hpm, ho]
          have hsto : vStore 1 (.ptr σ.length 0 i (0 + 1)) (.str (name ++ p.2.drop old.length)) (σ ++ [.arr 0 2 (A ++ pvPart p :: (l.drop (i + 1)).map pvPart)]) = some (σ ++ [.arr 0 2 (A ++ pvPart (rnP old name p) :: (l.drop (i + 1)).map pvPart)]) := by
            have hpp : vPut 1 (pvPart p) (0 + 1) (.str (name ++ p.2.drop old.length)) = some (pvPart (rnP old name p)) := by
              rw [hrn]
              show vPut 1 (.agg [.bool p.1, .str p.2]) 1 _ = some (.agg [.bool true, .str (name ++ p.2.drop old.length)])
              rw [hpm]
              rfl
            simp only [vStore, hblk, hat, if_true, hpp]
            have : (A ++ pvPart p :: (l.drop (i + 1)).map pvPart).set i (pvPart (rnP old name p)) = A ++ pvPart (rnP old name p) :: (l.drop (i + 1)).map pvPart := by
              rw [List.set_append_right _ _ (by omega), hAl]
              simp
            rw [this]
            simp
          have hsto' : vStore 1 (.ptr σ.length 0 i 1) (.str (name ++ p.2.drop old.length)) (σ ++ [.arr 0 2 (A ++ pvPart p :: (l.drop (i + 1)).map pvPart)]) = some (σ ++ [.arr 0 2 (A ++ pvPart (rnP old name p) :: (l.drop (i + 1)).map pvPart)]) := hsto
          simp only [hb', hp1, ha', hsub, zz, Nat.reduceEqDiff, if_true, if_false, decide_true, decide_false, eq_self]
          rw [vBin_add_str _ (by simp; omega)]
          simp only [hix, hsto', zz, Nat.reduceEqDiff, if_true, if_false, decide_true, decide_false, eq_self]
          rw [vBin_add _ (by omega) (by omega)]
          exact next _ _ hlt ⟨by simp, by rw [hnx]⟩
    · obtain rfl : i = l.length := by omega
      simp only [hlt, zz, Nat.reduceEqDiff, if_true, if_false, decide_true, decide_false, eq_self]
      refine weakW_clean ⟨_, rfl⟩ ?_ hR
      have hv : pvParts (chL old name (k, l)) = .list .part ((l.map (rnP old name)).map pvPart) := by
        simp [pvParts, pvSl, chL, hkn, hne]
      rw [hv]
      refine .sref σ.length 0 2 0 l.length 0 2 (((l.take l.length).map (rnP old name)).map pvPart ++ (l.drop l.length).map pvPart) _ (by simp) rfl (Nat.le_refl _) (by simp) (by simp) fun i x y hi hx hy => ?_
      have : x = y := by
        simp only [List.take_length, List.drop_length, List.map_nil, List.append_nil, Nat.zero_add] at hx
        rw [hx] at hy
        exact Option.some.inj hy
      subst this
      obtain ⟨q, _, rfl⟩ := List.mem_map.1 (List.mem_of_getElem? hy)
      exact .base _ (underPart _ q)

end Go.Proofs.YtiniifbmeobmgaaGreatDoor

/- The law. -/
set_option linter.unusedVariables false
set_option linter.unusedSimpArgs false
namespace Go.Proofs.YtiniifbmeobmgaaGreatDoor
open Go Go.Abs

/-- A nil slice is empty. -/
structure KGram (g : Gram) : Prop where
  metas : ∀ m ∈ g.1.2, ∀ l ∈ m.2.2, l.1 = .nil → l.2 = []
  left : ∀ r ∈ g.2.2, r.1.1 = .nil → r.1.2 = []
  right : ∀ r ∈ g.2.2, ∀ l ∈ r.2.2, l.1 = .nil → l.2 = []

abbrev Two (old name : Str) : St := [.arr 0 1 [.str old], .arr 0 1 [.str name]]

theorem flatTwo (old name : Str) : FlatSt (Two old name) := by
  intro b k hb
  match b, hb with
  | 0, hb => simp at hb; subst hb; exact ⟨_, _, _, rfl, fun x hx => by simp at hx; subst hx; exact .str _⟩
  | 1, hb => simp at hb; subst hb; exact ⟨_, _, _, rfl, fun x hx => by simp at hx; subst hx; exact .str _⟩
  | b + 2, hb => simp at hb

theorem hb36 : hasBody 36 = true := by kernel_rfl
theorem hb37 : hasBody 37 = true := by kernel_rfl

abbrev p39 : PV := .ptr 0 0 0 0
abbrev p44 : PV := .ptr 1 0 0 0

theorem two_left {old name : Str} {σ : St} (h : Two old name <+: σ) : σ[0]? = some (.arr 0 1 [.str old]) ∧ σ[1]? = some (.arr 0 1 [.str name]) := by
  obtain ⟨t, rfl⟩ := h
  exact ⟨rfl, rfl⟩

theorem two_ld {old name : Str} {σ : St} (h : Two old name <+: σ) : vLoad false 1 p39 σ = some (.str old) ∧ vLoad false 1 p44 σ = some (.str name) := by
  obtain ⟨h1, h2⟩ := two_left h
  constructor
  · simp only [vLoad, h1]
    rfl
  · simp only [vLoad, h2]
    rfl

theorem free_low (D : Nat → Prop) (h0 : ¬ D 0) (h1 : ¬ D 1) : Free D (.func 37 [p39, p44]) := .func _ _ fun i x hx => by
  match i, hx with
  | 0, hx => simp at hx; subst hx; exact .ptr _ _ _ _ h0
  | 1, hx => simp at hx; subst hx; exact .ptr _ _ _ _ h1
  | i + 2, hx => simp at hx

theorem rn_pair {σ : St} {D : Nat → Prop} {a b a' b' : PV} (h1 : FrzD σ D a a') (h2 : FrzD σ D b b') : FrzD σ D (.agg [a, b]) (.agg [a', b']) := .agg _ _ rfl fun i x y hx hy => by
  match i, hx, hy with
  | 0, hx, hy => simp at hx hy; subst hx hy; exact h1
  | 1, hx, hy => simp at hx hy; subst hx hy; exact h2
  | i + 2, hx, _ => simp at hx

theorem len_two {old name : Str} {σ : St} (h : Two old name <+: σ) : 2 ≤ σ.length := h.length_le

set_option maxHeartbeats 4000000 in
theorem c10 (hawake : ∀ σ : St, σ = [] → Ret W 13 [] σ (.bool true)) {g : Gram} (hg : OkGram g) (hk : KGram g) {s : Str} (hs : s.length ≤ 1048576) {ix : Int} (hix0 : 0 ≤ ix) (hix1 : ix < 256) : Ret W 10 [pvGram g, .str s, .int .u8 ix] [] (.bool true) := by
  refine ret_of fun R hR => ?_
  rw [fn10_eq]
  unfold fn10
  have hbox : opC.vBoxAny (pvGram g) = some (2, pvGram g) := rfl
  have hpt : ∀ g : Gram, vPart true 2 (pvGram g) 0 = some (pvGram g) := fun _ => rfl
  have hp0 : ∀ g : Gram, vPart false 1 (pvGram g) 0 = some (.list g.1.1 (g.1.2.map pvMeta)) := fun _ => rfl
  have hp1 : ∀ g : Gram, vPart false 1 (pvGram g) 1 = some (.list g.2.1 (g.2.2.map pvRule)) := fun _ => rfl
  have fin : ∀ σ' : St, weakW [] (.bool true) σ' fun v σ => R (.ret v) σ := fun σ' => weakW_clean List.nil_prefix (.base _ (.bool _)) hR
  simp only [hbox, zz, Nat.reduceEqDiff, if_true, if_false, decide_true, decide_false, eq_self]
  refine (hawake [] rfl).callB ?_
  simp only [hpt, zz, Nat.reduceEqDiff, if_true, if_false, decide_true, decide_false, eq_self]
  refine (c14 hg []).callB ?_
  cases hsm : smallG g with
  | false =>
    simp only [zz, Nat.reduceEqDiff, if_true, if_false, decide_true, decide_false, eq_self]
    exact fin _
  | true =>
  simp only [zz, Nat.reduceEqDiff, if_true, if_false, decide_true, decide_false, eq_self]
  cases h60 : decide ((s.length : Int) > 60) with
  | true =>
    simp only [zz, Nat.reduceEqDiff, if_true, if_false, decide_true, decide_false, eq_self]
    exact fin _
  | false =>
  simp only [hp0, List.length_map, zz, Nat.reduceEqDiff, if_true, if_false, decide_true, decide_false, eq_self]
  cases hml : ((g.1.2.length : Int) == 0) with
  | true =>
    simp only [zz, Nat.reduceEqDiff, if_true, if_false, decide_true, decide_false, eq_self]
    exact fin _
  | false =>
  simp only [hpt, zz, Nat.reduceEqDiff, if_true, if_false, decide_true, decide_false, eq_self]
  refine (c15 hg []).callB ?_
  by_cases hck : checkG g ≠ 0
  · have hne : (checkG g != 0) = true := by simp [hck]
    simp only [hne, zz, Nat.reduceEqDiff, if_true, if_false, decide_true, decide_false, eq_self]
    exact fin _
  have hck : checkG g = 0 := Decidable.not_not.1 hck
  have h00 : ((0 : Int) != 0) = false := rfl
  have hpos : 0 < g.1.2.length := by
    rw [beq_eq_false_iff_ne] at hml
    omega
  have hwr : vConv .i64 (.int .u8 ix) = some (.int .i64 ix) := by
    simp only [vConv]
    rw [show IntKind.i64.wrap ix = ix from by simp [IntKind.wrap, IntKind.bits, IntKind.signed, Int.bmod]; omega]
  have hrem : vBin none .rem (.int .i64 ix) (.int .i64 (g.1.2.length : Nat)) = some (.int .i64 ((ix.toNat % g.1.2.length : Nat) : Int)) := by
    simp only [vBin, if_true, vArith]
    rw [if_neg (by omega)]
    congr 2
    obtain ⟨n, rfl⟩ : ∃ n : Nat, ix = n := ⟨ix.toNat, by omega⟩
    rw [Int.tmod_eq_emod_of_nonneg (by omega)]
    simp
  have hr : ix.toNat % g.1.2.length < g.1.2.length := Nat.mod_lt _ hpos
  generalize ix.toNat % g.1.2.length = r at hr hrem
  have hgr : g.1.2[r]? = some g.1.2[r] := by simp [hr]
  have hmr : g.1.2[r] ∈ g.1.2 := by simp
  generalize g.1.2[r] = m0 at hgr hmr
  obtain ⟨old, hold⟩ : ∃ old, old = m0.1 := ⟨_, rfl⟩
  have hpm0 : pvMeta m0 = .agg [.str old, pvLists m0.2] := by rw [hold]; rfl
  have hs1 : vStore 1 (.ptr ([] : St).length 0 0 0) (.str old) ([] ++ [.arr 0 1 [.str []]]) = some [.arr 0 1 [.str old]] := rfl
  have hs2 : vStore 1 (.ptr ([Blk.arr 0 1 [.str old]] : St).length 0 0 0) (.str Z38) ([.arr 0 1 [.str old]] ++ [.arr 0 1 [.str []]]) = some (Two old Z38) := rfl
  simp only [hck, h00, hp0, hwr, List.length_map, hrem, encMeta.index hgr, hpm0, newW_eq, hs1, zz, Nat.reduceEqDiff, if_true, if_false, decide_true, decide_false, eq_self]
  refine (c34 _).callB ?_
  simp only [hs2, hp0, zz, Nat.reduceEqDiff, if_true, if_false, decide_true, decide_false, eq_self]
  refine (c35 encMeta (fun m : Meta19 => m.1 == Z38) hb36 (Nat.lt_of_le_of_lt hg.ml (by decide)) fun m _ => c36 (b := 1) rfl).callB ?_
  cases hany : (g.1.2.any fun m => m.1 == Z38) with
  | true =>
    simp only [zz, Nat.reduceEqDiff, if_true, if_false, decide_true, decide_false, eq_self]
    exact fin _
  | false =>
  have hnm : isMeta Z38 = true := by decide
  have hnn : ∀ y ∈ names g, y ≠ Z38 := by
    intro y hy
    obtain ⟨m, hm, rfl⟩ := List.mem_map.1 hy
    have := List.any_eq_false.1 hany m hm
    simpa using this
  have hold_in : old ∈ names g := by rw [hold]; exact List.mem_map.2 ⟨m0, hmr, rfl⟩
  have hokR := rn_ok (old := old) hnm hck hg
  have hckR := rn_check (old := old) hnm hnn hck
  have hprR := rn_prod hnm hnn hold_in hck s
  have hT2 : (Two old Z38).length = 2 := rfl
  simp only [zz, Nat.reduceEqDiff, if_true, if_false, decide_true, decide_false, eq_self]
  refine CutW_weak (fun x σ' => ∃ mv, x = lookP [(1, .str s), (7, p39), (8, p44), (9, .func 37 [p39, p44]), (3, pvGram g), (10, .agg [mv, .list .nil []])] ∧ Grow (Two old Z38).length 2 σ' mv ((g.1.2.map (rnM old Z38)).map pvMeta) ∧ Two old Z38 <+: σ' ∧ FlatSt σ') (fun x σ' hx => ?_) ?_
  · -- the rules
    obtain ⟨mv, rfl, hmv, hp, hfl⟩ := hx
    refine ⟨lookP [(1, .str s), (7, p39), (8, p44), (9, .func 37 [p39, p44]), (3, pvGram g), (10, .agg [pvSl pvMeta (reK (g.1.2.map (rnM old Z38))), .list .nil []])], Two old Z38, ⟨_, kill_to hp (Nat.zero_le _) (flatTwo _ _), lookP_frz ⟨rfl, .base _ (.str _), rfl, .base _ (.ptr _ _ _ _ (by rw [hT2]; omega)), rfl, .base _ (.ptr _ _ _ _ (by rw [hT2]; omega)), rfl, .base _ (free_low _ (by rw [hT2]; omega) (by rw [hT2]; omega)), rfl, .base _ ?_, rfl, ?_, trivial⟩⟩, ?_⟩
    · exact Flat.free (.agg _ fun x h => by
        simp only [List.mem_cons, List.not_mem_nil, or_false] at h
        rcases h with rfl | rfl
        · exact flatSl flatMeta _
        · exact flatSl flatRule _) _
    · refine rn_pair ?_ (.base _ (.list _ _ fun i x hx => by simp at hx))
      rw [← growV_sl]
      exact grow_frzD hmv (fun b hb => hb) fun y hy => by
        obtain ⟨q, _, rfl⟩ := List.mem_map.1 hy
        exact flatMeta q
    clear hmv hp hfl mv σ'
    generalize hMV : pvSl pvMeta (reK (g.1.2.map (rnM old Z38))) = MV
    simp only [zz, Nat.reduceEqDiff, if_true, if_false, decide_true, decide_false, eq_self]
    refine CutW_weak (fun x σ' => ∃ rv, x = lookP [(1, .str s), (7, p39), (8, p44), (3, pvGram g), (10, .agg [MV, rv])] ∧ Grow (Two old Z38).length 2 σ' rv ((g.2.2.map (rnR old Z38)).map pvRule) ∧ Two old Z38 <+: σ' ∧ FlatSt σ') (fun x σ' hx => ?_) ?_
    · obtain ⟨rv, rfl, hrv, hp, hfl⟩ := hx
      refine ⟨lookP [(1, .str s), (7, p39), (8, p44), (3, pvGram g), (10, .agg [MV, pvSl pvRule (reK (g.2.2.map (rnR old Z38)))])], Two old Z38, ⟨_, kill_to hp (Nat.zero_le _) (flatTwo _ _), lookP_frz ⟨rfl, .base _ (.str _), rfl, .base _ (.ptr _ _ _ _ (by rw [hT2]; omega)), rfl, .base _ (.ptr _ _ _ _ (by rw [hT2]; omega)), rfl, .base _ ?_, rfl, ?_, trivial⟩⟩, ?_⟩
      · exact Flat.free (.agg _ fun x h => by
          simp only [List.mem_cons, List.not_mem_nil, or_false] at h
          rcases h with rfl | rfl
          · exact flatSl flatMeta _
          · exact flatSl flatRule _) _
      · refine rn_pair (.base _ (hMV ▸ (flatSl flatMeta _).free _)) ?_
        rw [← growV_sl]
        exact grow_frzD hrv (fun b hb => hb) fun y hy => by
          obtain ⟨q, _, rfl⟩ := List.mem_map.1 hy
          exact flatRule q
      obtain ⟨l1, l2⟩ := two_ld (List.prefix_refl (Two old Z38))
      have hgR : PV.agg [MV, pvSl pvRule (reK (g.2.2.map (rnR old Z38)))] = pvGram (rnG old Z38 g) := by rw [← hMV]; rfl
      have hbb : ∀ b : Bool, vBin (some .bool) .eql (.bool b) (.bool b) = some (.bool true) := fun b => by simp [vBin, vEq]
      have h000 : ((0 : Int) == 0) = true := rfl
      rw [hgR]
      simp only [hpt, l1, zz, Nat.reduceEqDiff, if_true, if_false, decide_true, decide_false, eq_self]
      refine (c18 hg hs _).callB ?_
      simp only [hpt, l2, zz, Nat.reduceEqDiff, if_true, if_false, decide_true, decide_false, eq_self]
      refine (c18 hokR hs _).callB ?_
      simp only [hpt, hprR, zz, Nat.reduceEqDiff, if_true, if_false, decide_true, decide_false, eq_self]
      refine (c15 hokR _).callB ?_
      simp only [hckR, h000, hbb, BEq.rfl, zz, Nat.reduceEqDiff, if_true, if_false, decide_true, decide_false, eq_self]
      exact fin _
    · -- the loop over the rules
      simp only [hp1, List.length_map, zz, Nat.reduceEqDiff, if_true, if_false, decide_true, decide_false, eq_self]
      refine Lfp_up g.2.2.length (fun i x σ' => ∃ rv, x = lookP [(1, .str s), (7, p39), (8, p44), (9, .func 37 [p39, p44]), (103, .list g.2.1 (g.2.2.map pvRule)), (104, .int .i64 g.2.2.length), (105, .int .i64 i), (3, pvGram g), (10, .agg [MV, rv])] ∧ Grow (Two old Z38).length 2 σ' rv (((g.2.2.take i).map (rnR old Z38)).map pvRule) ∧ Two old Z38 <+: σ' ∧ FlatSt σ') ?_ ⟨_, rfl, .nil _ _ _, List.prefix_rfl, flatTwo _ _⟩
      rintro Φ i x σ' hi ⟨rv, rfl, hrv, hp, hfl⟩ next
      simp only [zz, Nat.reduceEqDiff, if_true, if_false, decide_true, decide_false, eq_self]
      by_cases hlt : i < g.2.2.length
      · have hgi : g.2.2[i]? = some g.2.2[i] := by simp [hlt]
        have hmem : g.2.2[i] ∈ g.2.2 := by simp
        generalize g.2.2[i] = r at hgi hmem
        have hput : vPut 2 (.agg [.list .nil [], .list .nil []]) 0 (pvRule r) = some (pvRule r) := rfl
        have hor := hg.rules r hmem
        have hkl := hk.left r hmem
        have hkr := hk.right r hmem
        have hrl := hg.rl
        obtain ⟨lf, lk, ls⟩ := r
        have hpr : pvRule (lf, lk, ls) = .agg [pvParts lf, .list lk (ls.map pvParts)] := rfl
        have hq : vPart false 1 (PV.agg [pvParts lf, .list lk (ls.map pvParts)]) 0 = some (pvParts lf) := rfl
        obtain ⟨t1, t2⟩ := two_left hp
        simp only [hlt, encRule.index hgi, encRule.part, hput, zz, Nat.reduceEqDiff, if_true, if_false, decide_true, decide_false, eq_self]
        refine CutW_of ?_
        simp only [hpr, hq, callG_func hb37, List.cons_append, List.nil_append, zz, Nat.reduceEqDiff, if_true, if_false, decide_true, decide_false, eq_self]
        refine (c37 hkl hor.left.len hor.left.txt (by decide) t1 t2).callB ?_
        have hbd : vBuild [.list .nil [], .list .nil []] [(0, 1, pvParts (chL old Z38 lf))] = some [pvParts (chL old Z38 lf), .list .nil []] := rfl
        have hput2 : vPut 2 (.agg [.list .nil [], .list .nil []]) 0 (.agg [pvParts (chL old Z38 lf), .list .nil []]) = some (.agg [pvParts (chL old Z38 lf), .list .nil []]) := rfl
        have hll := hor.right.len
        have hlm := hor.right.mem
        simp only at hll hlm hkr
        simp only [hbd, hput2, List.length_map, zz, Nat.reduceEqDiff, if_true, if_false, decide_true, decide_false, eq_self]
        refine CutW_weak (fun x σ'' => ∃ v, x = lookP [(1, .str s), (7, p39), (8, p44), (9, .func 37 [p39, p44]), (103, .list g.2.1 (g.2.2.map pvRule)), (104, .int .i64 g.2.2.length), (105, .int .i64 i), (3, pvGram g), (10, .agg [MV, rv]), (18, .agg [pvParts (chL old Z38 lf), v])] ∧ Grow σ'.length 1 σ'' v ((ls.map (chL old Z38)).map pvParts) ∧ σ' <+: σ'') (fun x σ'' hx => ?_) ?_
        · obtain ⟨v, rfl, hv, hp2⟩ := hx
          have hl2 := len_two hp
          refine ⟨lookP [(1, .str s), (7, p39), (8, p44), (9, .func 37 [p39, p44]), (103, .list g.2.1 (g.2.2.map pvRule)), (104, .int .i64 g.2.2.length), (105, .int .i64 i), (3, pvGram g), (10, .agg [MV, rv]), (18, pvRule (rnR old Z38 (lf, lk, ls)))], σ', ⟨_, kill_to hp2 (Nat.zero_le _) hfl, lookP_frz ⟨rfl, .base _ (.str _), rfl, .base _ (.ptr _ _ _ _ (by omega)), rfl, .base _ (.ptr _ _ _ _ (by omega)), rfl, .base _ (free_low _ (by omega) (by omega)), rfl, .base _ ?_, rfl, .base _ (.int _ _), rfl, .base _ (.int _ _), rfl, .base _ ?_, rfl, ?_, rfl, ?_, trivial⟩⟩, ?_⟩
          · exact (flatSl flatRule g.2).free _
          · exact Flat.free (.agg _ fun x h => by
              simp only [List.mem_cons, List.not_mem_nil, or_false] at h
              rcases h with rfl | rfl
              · exact flatSl flatMeta _
              · exact flatSl flatRule _) _
          · refine rn_pair (.base _ (hMV ▸ (flatSl flatMeta _).free _)) (.base _ ?_)
            rcases hrv with ⟨rfl, _⟩ | ⟨b, g', hb0, rfl, hb, _⟩
            · exact .list _ _ fun i x hx => by simp at hx
            · exact .sref _ _ _ _ _ (by have := (List.getElem?_eq_some_iff.1 hb).1; omega)
          · show FrzD σ'' _ (.agg [pvParts (chL old Z38 lf), v]) (.agg [pvParts (chL old Z38 lf), pvSl pvParts (reK (ls.map (chL old Z38)))])
            refine rn_pair (.base _ ((flatParts _).free _)) ?_
            rw [← growV_sl]
            exact grow_frzD hv (fun b hb => hb) fun y hy => by
              obtain ⟨q, _, rfl⟩ := List.mem_map.1 hy
              exact flatParts q
          have htk : ((g.2.2.take (i + 1)).map (rnR old Z38)).map pvRule = ((g.2.2.take i).map (rnR old Z38)).map pvRule ++ [pvRule (rnR old Z38 (lf, lk, ls))] := by rw [List.take_add_one, hgi]; simp
          obtain ⟨rv', σ3, e1, e2, e3, e4⟩ := flat_app (by_ := 48) (k := .full) (zs := [pvRule (rnR old Z38 (lf, lk, ls))]) hrv hp (by simpa using sizedRule _) (by simp; omega) hfl (by simpa using flatRule _)
          have hprt : ∀ q : Rule19, vPart true 2 (pvRule q) 0 = some (pvRule q) := fun _ => rfl
          simp only [hprt, vBuildSl_one (sizedRule (rnR old Z38 (lf, lk, ls))), e1, vPut_snd (grow_cell e2), zz, Nat.reduceEqDiff, if_true, if_false, decide_true, decide_false, eq_self]
          rw [vBin_add _ (by omega) (by omega)]
          exact next _ _ hlt ⟨rv', by simp, by rw [htk]; exact e2, e3, e4⟩
        · refine Lfp_up ls.length (fun j x σ'' => ∃ v, x = lookP [(1, .str s), (7, p39), (8, p44), (9, .func 37 [p39, p44]), (103, .list g.2.1 (g.2.2.map pvRule)), (104, .int .i64 g.2.2.length), (105, .int .i64 i), (115, .list lk (ls.map pvParts)), (116, .int .i64 ls.length), (117, .int .i64 j), (3, pvGram g), (10, .agg [MV, rv]), (18, .agg [pvParts (chL old Z38 lf), v])] ∧ Grow σ'.length 1 σ'' v (((ls.take j).map (chL old Z38)).map pvParts) ∧ σ' <+: σ'') ?_ ⟨_, rfl, .nil _ _ _, List.prefix_rfl⟩
          rintro Φ2 j x σ2 hj ⟨v, rfl, hv, hp2⟩ next2
          simp only [zz, Nat.reduceEqDiff, if_true, if_false, decide_true, decide_false, eq_self]
          by_cases hlt2 : j < ls.length
          · have hgj : ls[j]? = some ls[j] := by simp [hlt2]
            have hmj : ls[j] ∈ ls := by simp
            generalize ls[j] = l at hgj hmj
            obtain ⟨u1, u2⟩ := two_left (hp.trans hp2)
            have hol := hlm l hmj
            simp only [hlt2, encParts.index hgj, encParts.part, callG_func hb37, List.cons_append, List.nil_append, zz, Nat.reduceEqDiff, if_true, if_false, decide_true, decide_false, eq_self]
            refine (c37 (hkr l hmj) hol.len hol.txt (by decide) u1 u2).callB ?_
            have htk : ((ls.take (j + 1)).map (chL old Z38)).map pvParts = ((ls.take j).map (chL old Z38)).map pvParts ++ [pvParts (chL old Z38 l)] := by rw [List.take_add_one, hgj]; simp
            obtain ⟨v', σ3, e1, e2, e3, _⟩ := hv.app (by_ := 24) (y := .list .full [pvParts (chL old Z38 l)]) hp2 rfl (by simpa using sizedParts _) (by simp; omega)
            have hpc : pvParts (chL old Z38 (l.1, l.2)) = pvParts (chL old Z38 l) := rfl
            simp only [hpc, vBuildSl_one (sizedParts (chL old Z38 l)), e1, vPut_snd (grow_cell e2), zz, Nat.reduceEqDiff, if_true, if_false, decide_true, decide_false, eq_self]
            rw [vBin_add _ (by omega) (by omega)]
            exact next2 _ _ hlt2 ⟨v', by simp, by rw [htk]; exact e2, e3⟩
          · obtain rfl : j = ls.length := by omega
            rw [List.take_length] at hv
            simp only [hlt2, zz, Nat.reduceEqDiff, if_true, if_false, decide_true, decide_false, eq_self]
            exact ⟨v, rfl, hv, hp2⟩
      · obtain rfl : i = g.2.2.length := by omega
        rw [List.take_length] at hrv
        simp only [hlt, zz, Nat.reduceEqDiff, if_true, if_false, decide_true, decide_false, eq_self]
        exact ⟨rv, rfl, hrv, hp, hfl⟩
  · -- the loop over the metarules
    simp only [hp0, List.length_map, zz, Nat.reduceEqDiff, if_true, if_false, decide_true, decide_false, eq_self]
    refine Lfp_up g.1.2.length (fun i x σ' => ∃ mv, x = lookP [(1, .str s), (7, p39), (8, p44), (9, .func 37 [p39, p44]), (64, .list g.1.1 (g.1.2.map pvMeta)), (65, .int .i64 g.1.2.length), (66, .int .i64 i), (3, pvGram g), (10, .agg [mv, .list .nil []])] ∧ Grow (Two old Z38).length 2 σ' mv (((g.1.2.take i).map (rnM old Z38)).map pvMeta) ∧ Two old Z38 <+: σ' ∧ FlatSt σ') ?_ ⟨_, rfl, .nil _ _ _, List.prefix_rfl, flatTwo _ _⟩
    rintro Φ i x σ' hi ⟨mv, rfl, hmv, hp, hfl⟩ next
    simp only [zz, Nat.reduceEqDiff, if_true, if_false, decide_true, decide_false, eq_self]
    by_cases hlt : i < g.1.2.length
    · have hgi : g.1.2[i]? = some g.1.2[i] := by simp [hlt]
      have hmem : g.1.2[i] ∈ g.1.2 := by simp
      generalize g.1.2[i] = m at hgi hmem
      have hput : vPut 2 (.agg [.str [], .list .nil []]) 0 (pvMeta m) = some (pvMeta m) := rfl
      have hom := hg.metas m hmem
      have hkm := hk.metas m hmem
      have hrl := hg.ml
      obtain ⟨nm, lk, ls⟩ := m
      have hpm : pvMeta (nm, lk, ls) = .agg [.str nm, .list lk (ls.map pvParts)] := rfl
      obtain ⟨d1, d2⟩ := two_ld hp
      have hbd : vBuild [.str [], .list .nil []] [(0, 1, .str nm)] = some [.str nm, .list .nil []] := rfl
      have hput2 : vPut 2 (.agg [.str [], .list .nil []]) 0 (.agg [.str nm, .list .nil []]) = some (.agg [.str nm, .list .nil []]) := rfl
      have hll := hom.alts.len
      have hlm := hom.alts.mem
      simp only at hll hlm hkm
      simp only [hlt, encMeta.index hgi, encMeta.part, hput, zz, Nat.reduceEqDiff, if_true, if_false, decide_true, decide_false, eq_self]
      refine CutW_of ?_
      simp only [hpm, hbd, hput2, zz, Nat.reduceEqDiff, if_true, if_false, decide_true, decide_false, eq_self]
      refine CutW_by (fun x σ'' => x = lookP [(1, .str s), (7, p39), (8, p44), (9, .func 37 [p39, p44]), (64, .list g.1.1 (g.1.2.map pvMeta)), (65, .int .i64 g.1.2.length), (66, .int .i64 i), (3, pvGram g), (10, .agg [mv, .list .nil []]), (12, .agg [.str nm, .list lk (ls.map pvParts)]), (13, .agg [.str (rnN old Z38 nm), .list .nil []])] ∧ σ'' = σ') ?_ ?_
      rotate_left
      · simp only [d1, zz, Nat.reduceEqDiff, if_true, if_false, decide_true, decide_false, eq_self]
        cases ho : (nm == old) with
        | true =>
          have hrn : rnN old Z38 nm = Z38 := by simp [rnN, ho]
          simp only [d2, vPut_fst (show (PV.str Z38).cells? = some [.str Z38] from rfl), zz, Nat.reduceEqDiff, if_true, if_false, decide_true, decide_false, eq_self]
          exact ⟨by rw [hrn], trivial⟩
        | false =>
          have hrn : rnN old Z38 nm = nm := by simp [rnN, ho]
          simp only [zz, Nat.reduceEqDiff, if_true, if_false, decide_true, decide_false, eq_self]
          exact ⟨by rw [hrn], trivial⟩
      rintro x σ0 ⟨rfl, rfl⟩
      simp only [List.length_map, zz, Nat.reduceEqDiff, if_true, if_false, decide_true, decide_false, eq_self]
      refine CutW_weak (fun x σ'' => ∃ v, x = lookP [(1, .str s), (7, p39), (8, p44), (9, .func 37 [p39, p44]), (64, .list g.1.1 (g.1.2.map pvMeta)), (65, .int .i64 g.1.2.length), (66, .int .i64 i), (3, pvGram g), (10, .agg [mv, .list .nil []]), (13, .agg [.str (rnN old Z38 nm), v])] ∧ Grow σ0.length 1 σ'' v ((ls.map (chL old Z38)).map pvParts) ∧ σ0 <+: σ'') (fun x σ'' hx => ?_) ?_
      · obtain ⟨v, rfl, hv, hp2⟩ := hx
        have hl2 := len_two hp
        refine ⟨lookP [(1, .str s), (7, p39), (8, p44), (9, .func 37 [p39, p44]), (64, .list g.1.1 (g.1.2.map pvMeta)), (65, .int .i64 g.1.2.length), (66, .int .i64 i), (3, pvGram g), (10, .agg [mv, .list .nil []]), (13, pvMeta (rnM old Z38 (nm, lk, ls)))], σ0, ⟨_, kill_to hp2 (Nat.zero_le _) hfl, lookP_frz ⟨rfl, .base _ (.str _), rfl, .base _ (.ptr _ _ _ _ (by omega)), rfl, .base _ (.ptr _ _ _ _ (by omega)), rfl, .base _ (free_low _ (by omega) (by omega)), rfl, .base _ ?_, rfl, .base _ (.int _ _), rfl, .base _ (.int _ _), rfl, .base _ ?_, rfl, ?_, rfl, ?_, trivial⟩⟩, ?_⟩
        · exact (flatSl flatMeta g.1).free _
        · exact Flat.free (.agg _ fun x h => by
            simp only [List.mem_cons, List.not_mem_nil, or_false] at h
            rcases h with rfl | rfl
            · exact flatSl flatMeta _
            · exact flatSl flatRule _) _
        · refine rn_pair (.base _ ?_) (.base _ (.list _ _ fun i x hx => by simp at hx))
          rcases hmv with ⟨rfl, _⟩ | ⟨b, g', hb0, rfl, hb, _⟩
          · exact .list _ _ fun i x hx => by simp at hx
          · exact .sref _ _ _ _ _ (by have := (List.getElem?_eq_some_iff.1 hb).1; omega)
        · show FrzD σ'' _ (.agg [.str (rnN old Z38 nm), v]) (.agg [.str (rnN old Z38 nm), pvSl pvParts (reK (ls.map (chL old Z38)))])
          refine rn_pair (.base _ (.str _)) ?_
          rw [← growV_sl]
          exact grow_frzD hv (fun b hb => hb) fun y hy => by
            obtain ⟨q, _, rfl⟩ := List.mem_map.1 hy
            exact flatParts q
        have htk : ((g.1.2.take (i + 1)).map (rnM old Z38)).map pvMeta = ((g.1.2.take i).map (rnM old Z38)).map pvMeta ++ [pvMeta (rnM old Z38 (nm, lk, ls))] := by rw [List.take_add_one, hgi]; simp
        obtain ⟨mv', σ3, e1, e2, e3, e4⟩ := flat_app (by_ := 40) (k := .full) (zs := [pvMeta (rnM old Z38 (nm, lk, ls))]) hmv hp (by simpa using sizedMeta _) (by simp; omega) hfl (by simpa using flatMeta _)
        have hprt : ∀ q : Meta19, vPart true 2 (pvMeta q) 0 = some (pvMeta q) := fun _ => rfl
        simp only [hprt, vBuildSl_one (sizedMeta (rnM old Z38 (nm, lk, ls))), e1, vPut_fst (grow_cell e2), zz, Nat.reduceEqDiff, if_true, if_false, decide_true, decide_false, eq_self]
        rw [vBin_add _ (by omega) (by omega)]
        exact next _ _ hlt ⟨mv', by simp, by rw [htk]; exact e2, e3, e4⟩
      · refine Lfp_up ls.length (fun j x σ'' => ∃ v, x = lookP [(1, .str s), (7, p39), (8, p44), (9, .func 37 [p39, p44]), (64, .list g.1.1 (g.1.2.map pvMeta)), (65, .int .i64 g.1.2.length), (66, .int .i64 i), (80, .list lk (ls.map pvParts)), (81, .int .i64 ls.length), (82, .int .i64 j), (3, pvGram g), (10, .agg [mv, .list .nil []]), (13, .agg [.str (rnN old Z38 nm), v])] ∧ Grow σ0.length 1 σ'' v (((ls.take j).map (chL old Z38)).map pvParts) ∧ σ0 <+: σ'') ?_ ⟨_, rfl, .nil _ _ _, List.prefix_rfl⟩
        rintro Φ2 j x σ2 hj ⟨v, rfl, hv, hp2⟩ next2
        simp only [zz, Nat.reduceEqDiff, if_true, if_false, decide_true, decide_false, eq_self]
        by_cases hlt2 : j < ls.length
        · have hgj : ls[j]? = some ls[j] := by simp [hlt2]
          have hmj : ls[j] ∈ ls := by simp
          generalize ls[j] = l at hgj hmj
          obtain ⟨u1, u2⟩ := two_left (hp.trans hp2)
          have hol := hlm l hmj
          simp only [hlt2, encParts.index hgj, encParts.part, callG_func hb37, List.cons_append, List.nil_append, zz, Nat.reduceEqDiff, if_true, if_false, decide_true, decide_false, eq_self]
          refine (c37 (hkm l hmj) hol.len hol.txt (by decide) u1 u2).callB ?_
          have htk : ((ls.take (j + 1)).map (chL old Z38)).map pvParts = ((ls.take j).map (chL old Z38)).map pvParts ++ [pvParts (chL old Z38 l)] := by rw [List.take_add_one, hgj]; simp
          obtain ⟨v', σ3, e1, e2, e3, _⟩ := hv.app (by_ := 24) (y := .list .full [pvParts (chL old Z38 l)]) hp2 rfl (by simpa using sizedParts _) (by simp; omega)
          have hpc : pvParts (chL old Z38 (l.1, l.2)) = pvParts (chL old Z38 l) := rfl
          simp only [hpc, vBuildSl_one (sizedParts (chL old Z38 l)), e1, vPut_snd (grow_cell e2), zz, Nat.reduceEqDiff, if_true, if_false, decide_true, decide_false, eq_self]
          rw [vBin_add _ (by omega) (by omega)]
          exact next2 _ _ hlt2 ⟨v', by simp, by rw [htk]; exact e2, e3⟩
        · obtain rfl : j = ls.length := by omega
          rw [List.take_length] at hv
          simp only [hlt2, zz, Nat.reduceEqDiff, if_true, if_false, decide_true, decide_false, eq_self]
          exact ⟨v, rfl, hv, hp2⟩
    · obtain rfl : i = g.1.2.length := by omega
      rw [List.take_length] at hmv
      simp only [hlt, zz, Nat.reduceEqDiff, if_true, if_false, decide_true, decide_false, eq_self]
      exact ⟨mv, rfl, hmv, hp, hfl⟩

end Go.Proofs.YtiniifbmeobmgaaGreatDoor
