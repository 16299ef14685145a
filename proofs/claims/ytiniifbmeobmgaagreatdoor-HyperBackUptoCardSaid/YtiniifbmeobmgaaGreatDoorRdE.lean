/- The package's reader: grammars. -/
import Derived.Test.YtiniifbmeobmgaaGreatDoorRdD
import Derived.Test.YtiniifbmeobmgaaGreatDoorFnG
set_option linter.unusedVariables false
set_option linter.unusedSimpArgs false
namespace Go.Proofs.YtiniifbmeobmgaaGreatDoor
open Go Go.Abs

theorem bind_ok {α β : Type} {e : Except Flt α} {k : α → Except Flt β} {b : β} (h : e.bind k = .ok b) : ∃ a, e = .ok a ∧ k a = .ok b := by
  cases e with
  | error e => cases h
  | ok a => exact ⟨a, rfl, h⟩

theorem some_spec {s : Str} {f : Option Flt} {d : Bool} {ts : List Tok} {l : List Part} {r : List Tok} (hv : Val s f ts) (h : someF s f d ts = .ok (l, r)) : Val s f r ∧ l.length + r.length ≤ ts.length ∧ l ≠ [] := by
  obtain ⟨q, h1, h2⟩ := bind_ok h
  split at h2
  · cases h2
  · rename_i hne
    cases h2
    obtain ⟨a, b, c⟩ := parts_spec hv h1
    exact ⟨a, b, hne⟩

theorem alt_spec {s : Str} {f : Option Flt} {d : Bool} {ts : List Tok} {l : List Part} {r : List Tok} (hv : Val s f ts) (h : altF s f d ts = .ok (l, r)) : Val s f r ∧ r.length < ts.length := by
  cases ts with
  | nil =>
    obtain ⟨a, b, c⟩ := some_spec hv (show someF s f d [] = .ok (l, r) from h)
    simp at b
    exact absurd b.1 c
  | cons t ts =>
    simp only [altF] at h
    split at h
    · obtain ⟨z, h1, h2⟩ := bind_ok h
      split at h2
      · cases h2
      · cases h2
        exact ⟨hv.tail h1, by simp⟩
    · obtain ⟨a, b, c⟩ := some_spec hv h
      have := List.length_pos_iff.2 c
      exact ⟨a, by omega⟩

theorem meta_spec {s : Str} {f : Option Flt} : ∀ {n : Nat} {ts : List Tok} {l : List (List Part)} {r : List Tok}, Val s f ts → metaF s f n ts = .ok (l, r) → Val s f r ∧ l.length + r.length < ts.length ∧ l ≠ []
  | 0, ts, l, r, hv, h => by simp [metaF] at h
  | n + 1, [], l, r, hv, h => by simp [metaF] at h
  | n + 1, t :: ts, l, r, hv, h => by
    simp only [metaF] at h
    obtain ⟨z, h1, h2⟩ := bind_ok h
    obtain ⟨q, h3, h4⟩ := bind_ok h2
    obtain ⟨a, b⟩ := alt_spec (hv.tail h1) h3
    split at h4
    · obtain ⟨p, h5, h6⟩ := bind_ok h4
      cases h6
      obtain ⟨c, d, _⟩ := meta_spec (l := p.1) (r := p.2) a h5
      exact ⟨c, by simp; omega, by simp⟩
    · cases h4
      exact ⟨a, by simp; omega, by simp⟩

theorem right_spec {s : Str} {f : Option Flt} : ∀ {n : Nat} {ts : List Tok} {l : List (List Part)} {r : List Tok}, Val s f ts → rightF s f n ts = .ok (l, r) → Val s f r ∧ l.length + r.length ≤ ts.length ∧ l ≠ []
  | 0, ts, l, r, hv, h => by simp [rightF] at h
  | n + 1, ts, l, r, hv, h => by
    simp only [rightF] at h
    obtain ⟨q, h3, h4⟩ := bind_ok h
    obtain ⟨a, b, c⟩ := some_spec hv h3
    have := List.length_pos_iff.2 c
    split at h4
    · rename_i hsg
      obtain ⟨t, us, hq⟩ := sgn_next hsg
      obtain ⟨z, h5, h6⟩ := bind_ok h4
      obtain ⟨p, h7, h8⟩ := bind_ok h6
      cases h8
      have hvt : Val s f q.2.tail := by
        rw [hq] at a h5 ⊢
        exact a.tail h5
      obtain ⟨a2, b2, c2⟩ := right_spec (l := p.1) (r := p.2) hvt h7
      exact ⟨a2, by rw [hq] at b b2; simp at b b2 ⊢; omega, by simp⟩
    · cases h4
      exact ⟨a, by simp; omega, by simp⟩

theorem side_spec {s : Str} {f : Option Flt} {n : Nat} {ts : List Tok} {l : List (List Part)} {r : List Tok} (hv : Val s f ts) (h : sideF s f n ts = .ok (l, r)) : Val s f r ∧ l.length + r.length ≤ ts.length := by
  cases ts with
  | nil =>
    obtain ⟨a, b, c⟩ := right_spec hv (show rightF s f n [] = .ok (l, r) from h)
    exact ⟨a, b⟩
  | cons t ts =>
    simp only [sideF] at h
    split at h
    · obtain ⟨z, h1, h2⟩ := bind_ok h
      split at h2
      · cases h2
      · cases h2
        exact ⟨hv.tail h1, by simp⟩
    · obtain ⟨a, b, c⟩ := right_spec hv h
      exact ⟨a, b⟩

theorem rules_spec {s : Str} {f : Option Flt} : ∀ {n : Nat} {ts : List Tok} {l : List (List (List Part))} {r : List Tok}, Val s f ts → rulesF s f n ts = .ok (l, r) → Val s f r ∧ l.length + r.length ≤ ts.length ∧ l ≠ []
  | 0, ts, l, r, hv, h => by simp [rulesF] at h
  | n + 1, [], l, r, hv, h => by simp [rulesF] at h
  | n + 1, t :: ts, l, r, hv, h => by
    simp only [rulesF] at h
    obtain ⟨z, h1, h2⟩ := bind_ok h
    obtain ⟨q, h3, h4⟩ := bind_ok h2
    obtain ⟨a, b⟩ := side_spec (hv.tail h1) h3
    split at h4
    · obtain ⟨p, h5, h6⟩ := bind_ok h4
      cases h6
      obtain ⟨c, d, _⟩ := rules_spec (l := p.1) (r := p.2) a h5
      exact ⟨c, by simp; omega, by simp⟩
    · cases h4
      exact ⟨a, by simp; omega, by simp⟩

theorem parts_txt {s : Str} {f : Option Flt} {d : Bool} : ∀ {ts : List Tok} {l : List Part} {r : List Tok}, Val s f ts → partsF f d ts = .ok (l, r) → ∀ p ∈ l, p.2.length ≤ s.length
  | [], l, r, hv, h => by
    simp only [partsF, Except.ok.injEq, Prod.mk.injEq] at h
    obtain ⟨rfl, rfl⟩ := h
    simp
  | t :: ts, l, r, hv, h => by
    simp only [partsF] at h
    split at h
    · split at h
      · cases h
      · split at h
        · cases h
        · obtain ⟨z, hg, h2⟩ := bind_ok h
          obtain ⟨q, h3, h4⟩ := bind_ok h2
          cases h4
          intro p hp
          rcases List.mem_cons.1 hp with rfl | hp
          · cases hv with
            | cons _ _ h1 h2 h3 h4 h5 => show t.2.length ≤ _; omega
          · exact parts_txt (hv.tail hg) h3 p hp
    · cases h
      simp

theorem app_at {n0 sz by_ : Nat} {σ σ' : St} {x y x' : PV} {ys zs : List PV} (h : Grow n0 sz σ x ys) (hy : vElems y σ = some zs) (ha : vAppend sz by_ x y σ = some (x', σ')) {c : Nat} (hc : AtB x' c) : AtB x c ∨ σ.length ≤ c := by
  simp only [vAppend, hy] at ha
  rcases h with ⟨rfl, rfl⟩ | ⟨b, g, hb0, rfl, hb, hne⟩
  · right
    simp only at ha
    split at ha
    · cases ha
      obtain ⟨_, _, _, _, hc⟩ := hc
      cases hc
    · split at ha
      · cases ha
        obtain ⟨_, _, _, _, hc⟩ := hc
        cases hc
        exact Nat.le_refl _
      · cases ha
  · simp only [hb] at ha
    split at ha
    · cases ha
      exact .inl hc
    · split at ha
      · cases ha
        obtain ⟨_, _, _, _, hc⟩ := hc
        cases hc
        exact .inl ⟨_, _, _, _, rfl⟩
      · cases ha

def mkGram (ms : List PMeta) (rs : List PRule) : Gram := (reK (ms.map mkMeta), reK (rs.map mkRule))

theorem hcells5 (s : Str) (ts : List Tok) : (hcells s ts)[5]? = some (.bool ts.isEmpty) := by cases ts <;> rfl

theorem c77 {s : Str} (hs : s.length < 4611686018427387903) {f : Option Flt} {ts : List Tok} (hn : ts.length ≤ 65536) {n : Nat} (hnf : ts.length < n) {σ : St} {P : Nat} {x2 x3 x4 x5 : PV} (h : Has σ P [.str s, .int .i64 0, x2, x3, x4, x5]) (hL : Lex s 0 ts f)
    {R : Res → St → Prop} (hR : ∀ ms rs, ((goF f ts).bind fun _ => gramF s f n [] [] ts) = .ok (ms, rs) → R (.ret (pvGram (mkGram ms rs))) (cd σ P (hcells s [])))
    (hX : ∀ e σ', ((goF f ts).bind fun _ => gramF s f n [] [] ts) = .error e → σ.take P <+: σ' → R (.pan (fpv e)) σ') : W 77 [.ptr P 0 0 0] σ R := by
  have hP := h.lt
  refine callW_fold ?_
  rw [fn77_eq]
  unfold fn77
  refine (c136 hs (Nat.zero_le _) hL (by exact h)).callB (fun v0 ts0 hh => ?_) fun e σ' hh hp => ?_
  rotate_left
  · refine hX e σ' ?_ hp
    cases hg : goF f ts with
    | error e' => rw [hg] at hh; cases hh; rfl
    | ok z => rw [hg] at hh; cases hh
  obtain ⟨z, hg, hh⟩ := bind_ok hh
  cases hh
  have hv := (hL.val (Nat.zero_le _) hg).2
  rw [hg] at hR hX
  have hR : ∀ ms rs, gramF s f n [] [] ts = .ok (ms, rs) → R (.ret (pvGram (mkGram ms rs))) (cd σ P (hcells s [])) := hR
  have hX : ∀ e σ', gramF s f n [] [] ts = .error e → σ.take P <+: σ' → R (.pan (fpv e)) σ' := hX
  refine Lfp_down (fun m x σ' => ∃ us mv rv ms rs, x = lookP [(0, .ptr P 0 0 0), (2, .agg [.list .nil [], .list .nil []]), (3, .agg [mv, rv])] ∧ us.length < m ∧ ms.length + rs.length + us.length ≤ ts.length ∧ Val s f us ∧ cd σ P (hcells s us) <+: σ' ∧
    Grow σ.length 2 σ' mv (ms.map (pvMeta ∘ mkMeta)) ∧ Grow σ.length 2 σ' rv (rs.map (pvRule ∘ mkRule)) ∧ (∀ c, AtB mv c → ¬ AtB rv c) ∧ gramF s f n [] [] ts = gramF s f m ms rs us) ?_ n
    ⟨ts, _, _, [], [], rfl, hnf, by simp, hv, List.prefix_refl _, Grow.nil _ _ _, Grow.nil _ _ _, fun c hc => (by obtain ⟨_, _, _, _, hc⟩ := hc; cases hc), rfl⟩
  rintro Φ m x σ1 ⟨us, mv, rv, ms, rs, rfl, hm, hlen, hv, hp, hG1, hG2, hap, hF⟩ hnext _
  obtain ⟨m, rfl⟩ : ∃ k, m = k + 1 := ⟨m - 1, by omega⟩
  have hc := pre_has hP hp
  have hd5 : ∀ K : PV → Prop, (bindO False (vNil (.ptr P 0 0 0)) fun v => bindO False (vField 5 v) fun w => bindO False (vLoad false 1 w σ1) K) = K (.bool us.isEmpty) := by
    intro K
    simp only [nil_ptr, hc.ld, hcells5, zz, Nat.reduceEqDiff, if_true, if_false, decide_true, decide_false, eq_self]
  simp only [zz, Nat.reduceEqDiff, if_true, if_false, decide_true, decide_false, eq_self]
  rw [hd5]
  cases us with
  | nil =>
    have hput : ∀ y : PV, vPut 2 (.agg [.list .nil [], .list .nil []]) 0 (.agg [mv, y]) = some (.agg [mv, y]) := fun y => vPut_agg rfl rfl
    simp only [List.isEmpty_nil, hput, resCons, vResults, zz, Nat.reduceEqDiff, if_true, if_false, decide_true, decide_false, eq_self]
    refine pre_cell (v' := pvGram (mkGram ms rs)) hP hp (hcells_flat _ _) (.agg _ _ rfl fun i a b ha hb => ?_) (hR ms rs hF)
    match i with
    | 0 =>
      cases ha
      cases hb
      have := Grow.frzD hG1 (D := fun b => σ.length ≤ b) (fun b hb => hb) (fun y hy => by obtain ⟨p, _, rfl⟩ := List.mem_map.1 hy; exact flatMeta _)
      rw [← List.map_map, growV_sl] at this
      exact this
    | 1 =>
      cases ha
      cases hb
      have := Grow.frzD hG2 (D := fun b => σ.length ≤ b) (fun b hb => hb) (fun y hy => by obtain ⟨p, _, rfl⟩ := List.mem_map.1 hy; exact flatRule _)
      rw [← List.map_map, growV_sl] at this
      exact this
    | i + 2 => cases ha
  | cons u us =>
    simp only [List.isEmpty_cons, zz, Nat.reduceEqDiff, if_true, if_false, decide_true, decide_false, eq_self]
    -- after a rule
    have tail : ∀ (mv' rv' : PV) (ms' : List PMeta) (rs' : List PRule) (r : List Tok) (σ3 : St), Val s f r → r.length < us.length + 1 → ms'.length + rs'.length + r.length ≤ ts.length → cd σ P (hcells s r) <+: σ3 → Grow σ.length 2 σ3 mv' (ms'.map (pvMeta ∘ mkMeta)) → Grow σ.length 2 σ3 rv' (rs'.map (pvRule ∘ mkRule)) → (∀ c, AtB mv' c → ¬ AtB rv' c) →
        gramF s f n [] [] ts = (if sgn r == [46] then (goF f r.tail).bind fun _ => gramF s f m ms' rs' r.tail else .error (wrongF s r)) →
        bindO False (vNil (.ptr P 0 0 0)) fun v49 =>
        bindO False (vField 4 v49) fun v50 =>
        bindO False (vLoad false 1 v50 σ3) fun v51 =>
        bindO False (vBin none .neq v51 (.str [46])) fun v52 =>
        condW v52 (
        callB W 140 [.ptr P 0 0 0] σ3 (fun v53 σ54 =>
        callB W 136 [.ptr P 0 0 0] σ54 (fun v55 σ56 =>
        Φ (lookP [(0, .ptr P 0 0 0), (2, .agg [.list .nil [], .list .nil []]), (3, .agg [mv', rv'])]) σ56) (fun e57 σ58 => R (.pan e57) σ58)) (fun e59 σ60 => R (.pan e59) σ60)) (
        callB W 136 [.ptr P 0 0 0] σ3 (fun v61 σ62 =>
        Φ (lookP [(0, .ptr P 0 0 0), (2, .agg [.list .nil [], .list .nil []]), (3, .agg [mv', rv'])]) σ62) (fun e63 σ64 => R (.pan e63) σ64)) := by
      intro mv' rv' ms' rs' r σ3 hvr hrl hl3 hp3 hg1 hg2 hap' hF3
      have hc3 := pre_has hP hp3
      simp only [nil_ptr, hc3.ld, hcells4, zz, Nat.reduceEqDiff, if_true, if_false, decide_true, decide_false, eq_self]
      cases hsg : sgn r == [46] with
      | false =>
        simp only [zz, Nat.reduceEqDiff, if_true, if_false, decide_true, decide_false, eq_self]
        refine wrongB hc3 fun σ' hp' => hX _ _ ?_ (pan_pre hP hp3 hp')
        rw [hF3, hsg]
        rfl
      | true =>
        simp only [zz, Nat.reduceEqDiff, if_true, if_false, decide_true, decide_false, eq_self]
        obtain ⟨b, bs, rfl⟩ := sgn_next hsg
        rw [hsg] at hF3
        refine nextB hs hvr hc3 (fun hv5 hg5 => ?_) fun e σ' hg5 hp' => hX _ _ ?_ (pan_pre hP hp3 hp')
        · refine hnext _ _ m (by omega) ⟨bs, mv', rv', ms', rs', rfl, by simp at hrl hm; omega, by simp at hl3 ⊢; omega, hv5, cd_pre _ hP hp3, grow_cd hg1 hP, grow_cd hg2 hP, hap', ?_⟩
          rw [hF3]
          simp only [List.tail_cons, hg5, if_true, Except.bind]
        · rw [hF3]
          simp only [List.tail_cons, hg5, if_true, Except.bind]
    simp only [gramF] at hF
    refine Rd.callM (vf := fun l => pvParts (reK l)) (c137 hs (by simp at hlen hn ⊢; omega) hc hv true) (fun left r hq => ?_) fun e σ' hq hp' => hX _ _ (by rw [hF, hq]; rfl) (pan_pre hP hp hp')
    obtain ⟨q1, q2, q3⟩ := parts_spec hv hq
    have hp2 := cd_pre (hcells s r) hP hp
    have hc2 := pre_has hP hp2
    have hg1 : Grow σ.length 2 (cd σ1 P (hcells s r)) mv (ms.map (pvMeta ∘ mkMeta)) := grow_cd hG1 hP
    have hg2 : Grow σ.length 2 (cd σ1 P (hcells s r)) rv (rs.map (pvRule ∘ mkRule)) := grow_cd hG2 hP
    generalize cd σ1 P (hcells s r) = σ2 at hp2 hc2 hg1 hg2
    rw [hq] at hF
    have hF : gramF s f n [] [] ts = (if isRuleM rs left r then (metaF s f m r).bind fun q => .ok (ms ++ [((left.map (·.2)).headD [], q.1)], rs, q.2)
       else if sgn r == [58] && !left.isEmpty then (rulesF s f m r).bind fun q => .ok (ms, rs ++ q.1.map fun x => (left, x), q.2)
       else .error (wrongF s r)).bind fun q => if sgn q.2.2 == [46] then (goF f q.2.2.tail).bind fun _ => gramF s f m q.1 q.2.1 q.2.2.tail else .error (wrongF s q.2.2) := hF
    have hvl : vLen .sl rv σ2 = some (.int .i64 (rs.length : Nat)) := by
      have := hg2.elems.len σ2
      rw [this]
      simp
    have hll : vLen .sl (pvParts (reK left)) σ2 = some (.int .i64 (left.length : Nat)) := by simp [pvParts, pvSl, vLen, reK_snd]
    have hd : ∀ K : PV → Prop, (bindO False (vNil (.ptr P 0 0 0)) fun v => bindO False (vField 4 v) fun w => bindO False (vLoad false 1 w σ2) K) = K (.str (sgn r)) := by
      intro K
      simp only [nil_ptr, hc2.ld, hcells4, zz, Nat.reduceEqDiff, if_true, if_false, decide_true, decide_false, eq_self]
    -- no metarule
    have other : isRuleM rs left r = false →
        bindO False (vNil (.ptr P 0 0 0)) fun v67 =>
        bindO False (vField 4 v67) fun v68 =>
        bindO False (vLoad false 1 v68 σ2) fun v69 =>
        bindO False (vBin none .eql v69 (.str [58])) fun v70 =>
        guardG False v70 true (fun J71 =>
        bindO False (vLen .sl (pvParts (reK left)) σ2) fun v74 =>
        bindO False (vBin none .gtr v74 (.int .i64 0)) fun v75 =>
        J71 (lookE [(60, (.v (pvParts (reK left)))), (61, (.v v74)), (62, (.v v75))]) σ2) σ2 (fun y72 σ73 =>
        bindO False (vPick v70 (y72 62).pv (.bool false)) fun v76 =>
        condW v76 (
        bindO False (vPart false 1 (.agg [mv, rv]) 1) fun v77 =>
        callB W 139 [.ptr P 0 0 0, pvParts (reK left)] σ73 (fun v78 σ79 =>
        bindS (vAppend 2 48 v77 v78 σ79) fun v80 σ81 =>
        bindO False (vPut 1 (.agg [mv, rv]) 1 v80) fun z82 =>
        bindO False (vNil (.ptr P 0 0 0)) fun v83 =>
        bindO False (vField 4 v83) fun v84 =>
        bindO False (vLoad false 1 v84 σ81) fun v85 =>
        bindO False (vBin none .neq v85 (.str [46])) fun v86 =>
        condW v86 (
        callB W 140 [.ptr P 0 0 0] σ81 (fun v87 σ88 =>
        callB W 136 [.ptr P 0 0 0] σ88 (fun v89 σ90 =>
        Φ (lookP [(0, .ptr P 0 0 0), (2, .agg [.list .nil [], .list .nil []]), (3, z82)]) σ90) (fun e91 σ92 => R (.pan e91) σ92)) (fun e93 σ94 => R (.pan e93) σ94)) (
        callB W 136 [.ptr P 0 0 0] σ81 (fun v95 σ96 =>
        Φ (lookP [(0, .ptr P 0 0 0), (2, .agg [.list .nil [], .list .nil []]), (3, z82)]) σ96) (fun e97 σ98 => R (.pan e97) σ98))) (fun e99 σ100 => R (.pan e99) σ100)) (
        callB W 140 [.ptr P 0 0 0] σ73 (fun v101 σ102 =>
        bindO False (vNil (.ptr P 0 0 0)) fun v103 =>
        bindO False (vField 4 v103) fun v104 =>
        bindO False (vLoad false 1 v104 σ102) fun v105 =>
        bindO False (vBin none .neq v105 (.str [46])) fun v106 =>
        condW v106 (
        callB W 140 [.ptr P 0 0 0] σ102 (fun v107 σ108 =>
        callB W 136 [.ptr P 0 0 0] σ108 (fun v109 σ110 =>
        Φ (lookP [(0, .ptr P 0 0 0), (2, .agg [.list .nil [], .list .nil []]), (3, .agg [mv, rv])]) σ110) (fun e111 σ112 => R (.pan e111) σ112)) (fun e113 σ114 => R (.pan e113) σ114)) (
        callB W 136 [.ptr P 0 0 0] σ102 (fun v115 σ116 =>
        Φ (lookP [(0, .ptr P 0 0 0), (2, .agg [.list .nil [], .list .nil []]), (3, .agg [mv, rv])]) σ116) (fun e117 σ118 => R (.pan e117) σ118))) (fun e119 σ120 => R (.pan e119) σ120))) := by
      intro hb
      rw [hd]
      rw [hb] at hF
      cases h1 : sgn r == [58] with
      | false =>
        simp only [h1, zz, Nat.reduceEqDiff, if_true, if_false, decide_true, decide_false, eq_self]
        refine wrongB hc2 fun σ' hp' => hX _ _ ?_ (pan_pre hP hp2 hp')
        rw [hF, h1]
        rfl
      | true =>
        rw [h1] at hF
        have hgt : ∀ n : Nat, decide (((n : Nat) : Int) > 0) = decide (0 < n) := fun n => by
          rw [decide_eq_decide]
          omega
        simp only [h1, hll, hgt, zz, Nat.reduceEqDiff, if_true, if_false, decide_true, decide_false, eq_self]
        by_cases hl0 : left = []
        · subst hl0
          simp only [List.length_nil, Nat.lt_irrefl, zz, Nat.reduceEqDiff, if_true, if_false, decide_true, decide_false, eq_self]
          refine wrongB hc2 fun σ' hp' => hX _ _ ?_ (pan_pre hP hp2 hp')
          rw [hF]
          rfl
        · have hpos := List.length_pos_iff.2 hl0
          have hie : left.isEmpty = false := by cases left with
            | nil => exact absurd rfl hl0
            | cons a l => rfl
          simp only [decide_eq_true hpos, zz, Nat.reduceEqDiff, if_true, if_false, decide_true, decide_false, eq_self]
          obtain ⟨b, bs, rfl⟩ := sgn_next h1
          have hF : gramF s f n [] [] ts = ((rulesF s f m (b :: bs)).bind fun q => .ok (ms, rs ++ q.1.map fun x => (left, x), q.2)).bind fun q => if sgn q.2.2 == [46] then (goF f q.2.2.tail).bind fun _ => gramF s f m q.1 q.2.1 q.2.2.tail else .error (wrongF s q.2.2) := by
            rw [hF, hie]
            rfl
          refine c139 hs (n := m) (by simp at q2 hlen hn ⊢; omega) (by simp at q2 hm; omega) hc2 q1 (by simp at q2 hlen hn ⊢; omega) hl0 (fun l r2 hq2 => ?_) (fun e σ' hq2 hp' => hX _ _ (by rw [hF, hq2]; rfl) (pan_pre hP hp2 hp')) (fun l r2 hq2 h46 hvr2 hl2 => ?_)
          · obtain ⟨a1, a2, a3⟩ := rules_spec q1 hq2
            have hp3 := cd_pre (hcells s r2) hP hp2
            have hg13 : Grow σ.length 2 (cd σ2 P (hcells s r2)) mv (ms.map (pvMeta ∘ mkMeta)) := grow_cd hg1 hP
            have hg23 : Grow σ.length 2 (cd σ2 P (hcells s r2)) rv (rs.map (pvRule ∘ mkRule)) := grow_cd hg2 hP
            generalize cd σ2 P (hcells s r2) = σ3 at hp3 hg13 hg23
            obtain ⟨rv', σ4, happ, hg24, hp4, hother⟩ := Grow.app (σ0 := cd σ P (hcells s r2)) (by_ := 48) (y := pvSl pvRule (reK (l.map fun x => mkRule (left, x)))) (zs := (l.map fun x => mkRule (left, x)).map pvRule) (by rw [cd_len]; exact hg23) hp3 (by simp [pvSl, vElems, reK_snd])
              (fun z hz => by obtain ⟨p, _, rfl⟩ := List.mem_map.1 hz; exact sizedRule p) (by simp at q2 a2 hlen hn ⊢; omega)
            rw [cd_len] at hg24
            have hstay : ∀ c, AtB mv c → σ4[c]? = σ3[c]? := fun c hc => hother c (fun b g z o l hb hcb => hap c hc (by rw [hb, hcb]; exact ⟨_, _, _, _, rfl⟩)) (grow_not hg13 hc).2
            simp only [happ, vPut_snd (grow_cell hg24), zz, Nat.reduceEqDiff, if_true, if_false, decide_true, decide_false, eq_self]
            refine tail mv rv' ms (rs ++ l.map fun x => (left, x)) r2 σ4 a1 (by simp at q2 a2; omega) (by simp at q2 a2 hlen ⊢; omega) hp4 (grow_stay hg13 hstay) ?_ (fun c hc hcv => ?_) ?_
            · rw [List.map_map] at hg24
              rw [List.map_append, List.map_map]
              exact hg24
            · rcases app_at (zs := (l.map fun x => mkRule (left, x)).map pvRule) hg23 (by simp [pvSl, vElems, reK_snd]) happ hcv with h1 | h1
              · exact hap c hc h1
              · have := (grow_not hg13 hc).2
                omega
            · rw [hF, hq2]
              rfl
          · have hp3 := cd_pre (hcells s r2) hP hp2
            have hg23 : Grow σ.length 2 (cd σ2 P (hcells s r2)) rv (rs.map (pvRule ∘ mkRule)) := grow_cd hg2 hP
            generalize cd σ2 P (hcells s r2) = σ3 at hp3 hg23
            obtain ⟨rv', σ4, happ, hg24, hp4, _⟩ := Grow.app (σ0 := cd σ P (hcells s r2)) (by_ := 48) (y := pvSl pvRule l) (zs := l.2.map pvRule) (by rw [cd_len]; exact hg23) hp3 rfl
              (fun z hz => by obtain ⟨p, _, rfl⟩ := List.mem_map.1 hz; exact sizedRule p) (by simp at q2 hlen hn hl2 ⊢; omega)
            have hc4 := pre_has hP hp4
            simp only [happ, vPut_snd (grow_cell hg24), nil_ptr, hc4.ld, hcells4, h46, zz, Nat.reduceEqDiff, if_true, if_false, decide_true, decide_false, eq_self]
            refine wrongB hc4 fun σ' hp' => hX _ _ ?_ (pan_pre hP hp4 hp')
            rw [hF, hq2]
            rfl
    rw [hd]
    cases h1 : sgn r == [58, 58] with
    | false =>
      simp only [h1, zz, Nat.reduceEqDiff, if_true, if_false, decide_true, decide_false, eq_self]
      exact other (by simp [isRuleM, h1])
    | true =>
      simp only [h1, hvl, zz, Nat.reduceEqDiff, if_true, if_false, decide_true, decide_false, eq_self]
      by_cases hr0 : rs = []
      rotate_left
      · have e0 : (((rs.length : Nat) : Int) == 0) = false := by
          have := List.length_pos_iff.2 hr0
          rw [beq_eq_false_iff_ne]
          omega
        simp only [e0, zz, Nat.reduceEqDiff, if_true, if_false, decide_true, decide_false, eq_self]
        refine other ?_
        cases rs with
        | nil => exact absurd rfl hr0
        | cons a rs => simp [isRuleM]
      · subst hr0
        have e0 : (((([] : List PRule).length : Nat) : Int) == 0) = true := rfl
        simp only [e0, hll, zz, Nat.reduceEqDiff, if_true, if_false, decide_true, decide_false, eq_self]
        match left, q2, hll, hq, other, hF with
        | [], q2, hll, hq, other, hF =>
          have e1 : (((([] : List Part).length : Nat) : Int) == 1) = false := rfl
          simp only [e1, zz, Nat.reduceEqDiff, if_true, if_false, decide_true, decide_false, eq_self]
          exact other (by simp [isRuleM])
        | a :: b :: l, q2, hll, hq, other, hF =>
          have e1 : ((((a :: b :: l).length : Nat) : Int) == 1) = false := by
            rw [beq_eq_false_iff_ne]
            simp
            omega
          simp only [e1, zz, Nat.reduceEqDiff, if_true, if_false, decide_true, decide_false, eq_self]
          exact other (by simp [isRuleM])
        | [p], q2, hll, hq, other, hF =>
          have e1 : (((([p] : List Part).length : Nat) : Int) == 1) = true := rfl
          have hix : vIndex 2 (pvParts (reK [p])) (.int .i64 0) = some (.eptr (pvPart p) 0) := rfl
          have hpt : vPart false 1 (pvPart p) 1 = some (.str p.2) := rfl
          simp only [e1, hix, hpt, zz, Nat.reduceEqDiff, if_true, if_false, decide_true, decide_false, eq_self]
          have hok : okS p.2 := by
            have := parts_txt hv hq p (by simp)
            show p.2.length < _
            omega
          refine (c57 hok _).callB ?_
          cases hmt : isMeta p.2 with
          | false =>
            simp only [zz, Nat.reduceEqDiff, if_true, if_false, decide_true, decide_false, eq_self]
            exact other (by simp [isRuleM, hmt])
          | true =>
            have hb : isRuleM [] [p] r = true := by simp [isRuleM, h1, hmt]
            rw [hb] at hF
            simp only [zz, Nat.reduceEqDiff, if_true, if_false, decide_true, decide_false, eq_self]
            obtain ⟨b, bs, rfl⟩ : ∃ t us, r = t :: us := by
              cases r with
              | nil => cases h1
              | cons t us => exact ⟨t, us, rfl⟩
            have hF : gramF s f n [] [] ts = ((metaF s f m (b :: bs)).bind fun q => .ok (ms ++ [(p.2, q.1)], [], q.2)).bind fun q => if sgn q.2.2 == [46] then (goF f q.2.2.tail).bind fun _ => gramF s f m q.1 q.2.1 q.2.2.tail else .error (wrongF s q.2.2) := hF
            refine Rd.callM (vf := fun l => pvMeta (p.2, mkLists l)) (c138 hs (n := m) (by simp at q2 hlen hn ⊢; omega) (by simp at q2 hm; omega) hc2 q1 p.2) (fun alts r2 hq2 => ?_) fun e σ' hq2 hp' => hX _ _ (by rw [hF, hq2]; rfl) (pan_pre hP hp2 hp')
            obtain ⟨a1, a2, a3⟩ := meta_spec q1 hq2
            have hp3 := cd_pre (hcells s r2) hP hp2
            have hg13 : Grow σ.length 2 (cd σ2 P (hcells s r2)) mv (ms.map (pvMeta ∘ mkMeta)) := grow_cd hg1 hP
            have hg23 : Grow σ.length 2 (cd σ2 P (hcells s r2)) rv (([] : List PRule).map (pvRule ∘ mkRule)) := grow_cd hg2 hP
            generalize cd σ2 P (hcells s r2) = σ3 at hp3 hg13 hg23
            obtain ⟨mv', σ4, happ, hg14, hp4, hother⟩ := Grow.app (σ0 := cd σ P (hcells s r2)) (by_ := 40) (y := .list .full [pvMeta (p.2, mkLists alts)]) (zs := [pvMeta (p.2, mkLists alts)]) (by rw [cd_len]; exact hg13) hp3 rfl
              (fun z hz => by simp at hz; subst hz; exact sizedMeta _) (by simp at q2 a2 hlen hn ⊢; omega)
            rw [cd_len] at hg14
            have hrn : rv = .list .nil [] := by
              rcases hg23 with ⟨h, _⟩ | ⟨_, _, _, _, _, h⟩
              · exact h
              · exact absurd rfl h
            subst hrn
            simp only [vBuildSl_one (sizedMeta _), happ, vPut_fst (grow_cell hg14), zz, Nat.reduceEqDiff, if_true, if_false, decide_true, decide_false, eq_self]
            refine tail mv' (.list .nil []) (ms ++ [(p.2, alts)]) [] r2 σ4 a1 (by simp at q2 a2; omega) (by simp at q2 a2 hlen ⊢; omega) hp4 ?_ (Grow.nil _ _ _) (fun c hc hcv => by obtain ⟨_, _, _, _, hcv⟩ := hcv; cases hcv) ?_
            · rw [List.map_append]
              exact hg14
            · rw [hF, hq2]
              rfl

end Go.Proofs.YtiniifbmeobmgaaGreatDoor
