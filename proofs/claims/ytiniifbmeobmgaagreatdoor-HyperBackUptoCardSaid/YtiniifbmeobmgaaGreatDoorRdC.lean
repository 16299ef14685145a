/- The package's reader: parts, metarules, rules. -/
import Derived.Test.YtiniifbmeobmgaaGreatDoorRdB
set_option linter.unusedVariables false
set_option linter.unusedSimpArgs false
namespace Go.Proofs.YtiniifbmeobmgaaGreatDoor
open Go Go.Abs

theorem Rd_of {α : Type} {f : FuncId} {args : List PV} {σ : St} {P : Nat} {s : Str} {e0 : Except Flt (α × List Tok)} {vf : α → PV}
    (h : ∀ R : Res → St → Prop, (∀ a ts, e0 = .ok (a, ts) → R (.ret (vf a)) (cd σ P (hcells s ts))) → (∀ e σ', e0 = .error e → σ.take P <+: σ' → R (.pan (fpv e)) σ') → W f args σ R) :
    Rd f args σ P s (e0.bind fun r => .ok (vf r.1, r.2)) := by
  intro R hR hX
  refine h R (fun a ts he => hR _ _ (by rw [he]; rfl)) (fun e σ' he hp => hX e σ' (by rw [he]; rfl) hp)

theorem Rd.callM {α : Type} {f : FuncId} {args : List PV} {σ : St} {P : Nat} {s : Str} {e0 : Except Flt (α × List Tok)} {vf : α → PV} (h : Rd f args σ P s (e0.bind fun r => .ok (vf r.1, r.2))) {K X : PV → St → Prop}
    (k : ∀ a ts, e0 = .ok (a, ts) → K (vf a) (cd σ P (hcells s ts))) (x : ∀ e σ', e0 = .error e → σ.take P <+: σ' → X (fpv e) σ') : Go.Abs.callB W f args σ K X := by
  refine h.callB (fun v ts hh => ?_) fun e σ' hh hp => ?_
  · cases he : e0 with
    | error e => rw [he] at hh; cases hh
    | ok r => rw [he] at hh; cases hh; exact k _ _ he
  · cases he : e0 with
    | error e => rw [he] at hh; cases hh; exact x _ _ he hp
    | ok r => rw [he] at hh; cases hh

theorem nextB {s : Str} (hs : s.length < 4611686018427387903) {σ : St} {P : Nat} {t : Tok} {ts : List Tok} {f : Option Flt} (hv : Val s f (t :: ts)) (h : Has σ P (hcells s (t :: ts))) {K X : PV → St → Prop}
    (k : Val s f ts → goF f ts = .ok ts → K (.tuple []) (cd σ P (hcells s ts))) (x : ∀ e σ', goF f ts = .error e → σ.take P <+: σ' → X (fpv e) σ') : callB W 136 [.ptr P 0 0 0] σ K X := by
  refine (c136' hs hv h).callB (fun v ts' hh => ?_) fun e σ' hh hp => ?_
  · cases he : goF f ts with
    | error e => rw [he] at hh; cases hh
    | ok r => rw [he] at hh; cases hh; exact k (hv.tail he) (by rw [goF_ok he] at he; exact he)
  · cases he : goF f ts with
    | error e => rw [he] at hh; cases hh; exact x _ _ he hp
    | ok r => rw [he] at hh; cases hh

theorem wrongB {s : Str} {ts : List Tok} {σ : St} {P : Nat} (h : Has σ P (hcells s ts)) {K X : PV → St → Prop} (x : ∀ σ', σ.take P <+: σ' → X (fpv (wrongF s ts)) σ') : callB W 140 [.ptr P 0 0 0] σ K X :=
  (c140 h).callB (fun v ts hh => by cases hh) fun e σ' he hp => by cases he; exact x _ hp

theorem failB (P : Nat) (s : Str) {at_ : Nat} {code : Int} {σ : St} {y : PV} {K X : PV → St → Prop} (x : ∀ σ', σ.take P <+: σ' → X (fpv (at_, code)) σ') : callB W 171 [y, .int .i64 at_, .int .i64 code] σ K X :=
  (c171 P s).callB (fun v ts hh => by cases hh) fun e σ' he hp => by cases he; exact x _ hp

/-- What stands in a variable that grows, one more. -/
theorem grow_one {α : Type} {enc : α → PV} {sz by_ : Nat} (hs : ∀ a, Sized sz (enc a)) {n0 : Nat} {σ0 σ : St} {x : PV} {acc : List α} (a : α) (z : PV) (h : Grow σ0.length sz σ x (acc.map enc)) (hp : σ0 <+: σ) (hr : (acc.length + 1) * by_ ≤ 140737488355328) :
    ∃ xs x' σ', vBuildSl sz (List.replicate 1 z) [(0, enc a)] = some xs ∧ vAppend sz by_ x (.list .full xs) σ = some (x', σ') ∧ Grow σ0.length sz σ' x' ((acc ++ [a]).map enc) ∧ σ0 <+: σ' := by
  obtain ⟨x', σ', h1, h2, h3, _⟩ := h.app (y := .list .full [enc a]) (zs := [enc a]) (by_ := by_) hp rfl (fun z hz => by simp at hz; subst hz; exact hs a) (by simpa using hr)
  exact ⟨_, x', σ', vBuildSl_one (hs a), h1, by rw [List.map_append]; exact h2, h3⟩

theorem c137 {s : Str} (hs : s.length < 4611686018427387903) {f : Option Flt} {ts : List Tok} (hn : ts.length ≤ 65536) {σ : St} {P : Nat} (h : Has σ P (hcells s ts)) (hv : Val s f ts) (d : Bool) :
    Rd 137 [.ptr P 0 0 0, .bool d] σ P s ((partsF f d ts).bind fun r => .ok (pvParts (reK r.1), r.2)) := by
  refine Rd_of (vf := fun l => pvParts (reK l)) fun R hR hX => ?_
  have hP := h.lt
  refine callW_fold ?_
  rw [fn137_eq]
  unfold fn137
  refine Lfp_down (fun m x σ' => ∃ us v acc, x = lookP [(0, .ptr P 0 0 0), (1, .bool d), (5, v)] ∧ us.length = m ∧ acc.length + us.length ≤ ts.length ∧ Val s f us ∧ cd σ P (hcells s us) <+: σ' ∧
    Grow σ.length 2 σ' v (acc.map pvPart) ∧ partsF f d ts = (partsF f d us).bind fun r => .ok (acc ++ r.1, r.2)) ?_ ts.length ⟨ts, _, [], rfl, rfl, by simp, hv, by rw [h.self]; exact List.prefix_refl _, Grow.nil _ _ _, by cases partsF f d ts <;> rfl⟩
  rintro Φ m x σ1 ⟨us, v, acc, rfl, rfl, hlen, hv, hp, hG, hF⟩ hnext _
  have hc := pre_has hP hp
  simp only [zz, Nat.reduceEqDiff, if_true, if_false, decide_true, decide_false, eq_self]
  refine (c172 hc hv).callB ?_
  cases hip : isPart us with
  | false =>
    simp only [zz, Nat.reduceEqDiff, if_true, if_false, decide_true, decide_false, eq_self]
    have hF' : partsF f d ts = .ok (acc, us) := by
      rw [hF]
      cases us with
      | nil => simp [partsF, Except.bind]
      | cons u us => simp only [isPart] at hip; simp [partsF, hip, Except.bind]
    refine pre_cell hP hp (hcells_flat _ _) (Grow.frzD hG (fun b hb => hb) (fun y hy => ?_)) ?_
    · obtain ⟨p, _, rfl⟩ := List.mem_map.1 hy
      exact flatPart p
    · rw [growV_sl]
      exact hR _ _ hF'
  | true =>
    cases us with
    | nil => cases hip
    | cons u us =>
      have hip' : isP u = true := hip
      have hb1 : vBuild [(.bool false), (.str [])] [(1, 1, .str u.2)] = some [.bool false, .str u.2] := rfl
      have hb2 : vPut 2 (.agg [.bool false, .str []]) 0 (.agg [.bool false, .str u.2]) = some (.agg [.bool false, .str u.2]) := rfl
      simp only [nil_ptr, hc.ld, hcells, hv.sub, hb1, hb2, zz, Nat.reduceEqDiff, if_true, if_false, decide_true, decide_false, eq_self]
      refine (c125 (hv.okw hs) _).callB ?_
      have hb3 : ∀ b : Bool, vPut 1 (.agg [.bool false, .str u.2]) 0 (.bool b) = some (.agg [.bool b, .str u.2]) := fun b => rfl
      simp only [hb3, zz, Nat.reduceEqDiff, if_true, if_false, decide_true, decide_false, eq_self]
      cases he : u.2 == [69, 77, 80, 84, 89] with
      | true =>
        simp only [zz, Nat.reduceEqDiff, if_true, if_false, decide_true, decide_false, eq_self]
        refine wrongB hc fun σ' hp' => ?_
        refine hX _ _ ?_ (pan_pre hP hp hp')
        rw [hF]
        simp [partsF, hip', he, Except.bind, wrongF]
      | false =>
        simp only [zz, Nat.reduceEqDiff, if_true, if_false, decide_true, decide_false, eq_self]
        -- a part that stands there
        have good : (!isWord u.2 && (!d && !isMeta u.2)) = false → ∀ σ2, σ2 = σ1 → ∃ xs x' σ', vBuildSl 2 (List.replicate 1 (.agg [(.bool false), (.str [])])) [(0, .agg [.bool (!isWord u.2), .str u.2])] = some xs ∧ vAppend 2 24 v (.list .full xs) σ2 = some (x', σ') ∧
            callB W 136 [.ptr P 0 0 0] σ' (fun _ σ52 => Φ (lookP [(0, .ptr P 0 0 0), (1, .bool d), (5, x')]) σ52) (fun e53 σ54 => R (.pan e53) σ54) := by
          rintro hbad _ rfl
          obtain ⟨xs, x', σ', h1, h2, h3, h4⟩ := grow_one sizedPart (n0 := 0) (a := ((!isWord u.2, u.2) : Part)) (.agg [(.bool false), (.str [])]) (by_ := 24) (σ0 := cd σ P (hcells s (u :: us))) (by rw [cd_len]; exact hG) hp (by simp at hlen; omega)
          refine ⟨xs, x', σ', h1, h2, nextB hs hv (pre_has hP h4) (fun hv' hg => ?_) fun e σ'' hg hp' => ?_⟩
          · refine hnext _ _ us.length (by simp) ⟨us, x', acc ++ [(!isWord u.2, u.2)], rfl, rfl, by simp at hlen ⊢; omega, hv', cd_pre _ hP h4, grow_cd (by rw [cd_len] at h3; exact h3) (by simpa using hP), ?_⟩
            rw [hF]
            have he' : (u.2 == EMPTY) = false := he
            simp only [partsF, hip', he', hbad, hg, Bool.false_eq_true, if_true, if_false, Except.bind]
            cases partsF f d us <;> simp
          · refine hX _ _ ?_ (pan_pre hP h4 hp')
            rw [hF]
            have he' : (u.2 == EMPTY) = false := he
            simp [partsF, hip', he', hbad, hg, Except.bind]
        cases hw : isWord u.2 with
        | true =>
          simp only [hw, zz, Nat.reduceEqDiff, if_true, if_false, decide_true, decide_false, eq_self] at good ⊢
          obtain ⟨xs, x', σ', h1, h2, h3⟩ := good rfl _ rfl
          simp only [h1, h2, zz, Nat.reduceEqDiff, if_true, if_false, decide_true, decide_false, eq_self]
          exact h3
        | false =>
          simp only [hw, zz, Nat.reduceEqDiff, if_true, if_false, decide_true, decide_false, eq_self] at good ⊢
          cases d with
          | true =>
            simp only [zz, Nat.reduceEqDiff, if_true, if_false, decide_true, decide_false, eq_self] at good ⊢
            obtain ⟨xs, x', σ', h1, h2, h3⟩ := good rfl _ rfl
            simp only [h1, h2, zz, Nat.reduceEqDiff, if_true, if_false, decide_true, decide_false, eq_self]
            exact h3
          | false =>
            simp only [zz, Nat.reduceEqDiff, if_true, if_false, decide_true, decide_false, eq_self] at good ⊢
            refine (c57 (hv.okw hs) _).callB ?_
            cases hm : isMeta u.2 with
            | true =>
              simp only [hm, zz, Nat.reduceEqDiff, if_true, if_false, decide_true, decide_false, eq_self] at good ⊢
              obtain ⟨xs, x', σ', h1, h2, h3⟩ := good rfl _ rfl
              simp only [h1, h2, zz, Nat.reduceEqDiff, if_true, if_false, decide_true, decide_false, eq_self]
              exact h3
            | false =>
              simp only [hm, hc.ld, hcells, zz, Nat.reduceEqDiff, if_true, if_false, decide_true, decide_false, eq_self]
              refine failB P s fun σ' hp' => ?_
              refine hX _ _ ?_ (pan_pre hP hp hp')
              rw [hF]
              have he' : (u.2 == EMPTY) = false := he
              simp [partsF, hip', he', hw, hm, Except.bind]


theorem parts_spec {s : Str} {f : Option Flt} {d : Bool} : ∀ {ts : List Tok} {l : List Part} {r : List Tok}, Val s f ts → partsF f d ts = .ok (l, r) → Val s f r ∧ l.length + r.length ≤ ts.length ∧ isPart r = false
  | [], l, r, hv, h => by
    simp only [partsF, Except.ok.injEq, Prod.mk.injEq] at h
    obtain ⟨rfl, rfl⟩ := h
    exact ⟨hv, by simp, rfl⟩
  | t :: ts, l, r, hv, h => by
    simp only [partsF] at h
    split at h
    · split at h
      · cases h
      · split at h
        · cases h
        · cases hg : goF f ts with
          | error e => rw [hg] at h; cases h
          | ok z =>
            rw [hg] at h
            simp only [Except.bind] at h
            cases hp : partsF f d ts with
            | error e => rw [hp] at h; cases h
            | ok q =>
              rw [hp] at h
              simp only [Except.ok.injEq, Prod.mk.injEq] at h
              obtain ⟨rfl, rfl⟩ := h
              obtain ⟨h1, h2, h3⟩ := parts_spec (l := q.1) (r := q.2) (hv.tail hg) hp
              exact ⟨h1, by simp; omega, h3⟩
    · rename_i hn
      simp only [Except.ok.injEq, Prod.mk.injEq] at h
      obtain ⟨rfl, rfl⟩ := h
      exact ⟨hv, by simp, by simpa [isPart] using hn⟩

def mkLists (ls : List (List Part)) : Lists := reK (ls.map reK)
def mkMeta (m : PMeta) : Meta19 := (m.1, mkLists m.2)
def mkRule (r : PRule) : Rule19 := (reK r.1, mkLists r.2)

theorem hcells4 (s : Str) (ts : List Tok) : (hcells s ts)[4]? = some (.str (sgn ts)) := by cases ts <;> rfl

theorem sgn_next {ts : List Tok} {c : UInt8} (h : sgn ts == [c]) : ∃ t us, ts = t :: us := by
  cases ts with
  | nil => cases h
  | cons t us => exact ⟨t, us, rfl⟩

theorem c138 {s : Str} (hs : s.length < 4611686018427387903) {f : Option Flt} {t0 : Tok} {ts : List Tok} (hn : (t0 :: ts).length ≤ 65536) {n : Nat} (hnf : ts.length < n) {σ : St} {P : Nat} (h : Has σ P (hcells s (t0 :: ts))) (hv : Val s f (t0 :: ts)) (name : Str) :
    Rd 138 [.ptr P 0 0 0, .str name] σ P s ((metaF s f n (t0 :: ts)).bind fun r => .ok (pvMeta (name, mkLists r.1), r.2)) := by
  refine Rd_of (vf := fun l => pvMeta (name, mkLists l)) fun R hR hX => ?_
  have hP := h.lt
  refine callW_fold ?_
  rw [fn138_eq]
  unfold fn138
  have hb1 : vBuild [(.str []), (.list .nil [])] [(0, 1, .str name)] = some [.str name, .list .nil []] := rfl
  have hb2 : vPut 2 (.agg [.str [], .list .nil []]) 0 (.agg [.str name, .list .nil []]) = some (.agg [.str name, .list .nil []]) := rfl
  simp only [hb1, hb2, zz, Nat.reduceEqDiff, if_true, if_false, decide_true, decide_false, eq_self]
  refine Lfp_down (fun m x σ' => ∃ u us v acc, x = lookP [(0, .ptr P 0 0 0), (4, .agg [.str [], .list .nil []]), (5, .agg [.str name, v])] ∧ us.length < m ∧ acc.length + (u :: us).length ≤ (t0 :: ts).length ∧ Val s f (u :: us) ∧ cd σ P (hcells s (u :: us)) <+: σ' ∧
    Grow σ.length 1 σ' v (acc.map (pvParts ∘ reK)) ∧ metaF s f n (t0 :: ts) = (metaF s f m (u :: us)).bind fun r => .ok (acc ++ r.1, r.2)) ?_ n ⟨t0, ts, _, [], rfl, hnf, by simp, hv, by rw [h.self]; exact List.prefix_refl _, Grow.nil _ _ _, by cases metaF s f n (t0 :: ts) <;> rfl⟩
  rintro Φ m x σ1 ⟨u, us, v, acc, rfl, hm, hlen, hv, hp, hG, hF⟩ hnext _
  obtain ⟨m, rfl⟩ : ∃ k, m = k + 1 := ⟨m - 1, by omega⟩
  have hc := pre_has hP hp
  have hcell := grow_cell hG
  simp only [metaF] at hF
  simp only [zz, Nat.reduceEqDiff, if_true, if_false, decide_true, decide_false, eq_self]
  refine nextB hs hv hc (fun hv1 hg => ?_) fun e σ' hg hp' => hX _ _ (by rw [hF, hg]; rfl) (pan_pre hP hp hp')
  rw [hg] at hF
  have hp1 : cd σ P (hcells s us) <+: cd σ1 P (hcells s us) := cd_pre _ hP hp
  have hc1 := pre_has hP hp1
  have hG1 : Grow σ.length 1 (cd σ1 P (hcells s us)) v (acc.map (pvParts ∘ reK)) := grow_cd hG hP
  generalize cd σ1 P (hcells s us) = σ2 at hp1 hc1 hG1
  -- one more alternative
  have good : ∀ (l : List Part) (r : List Tok) (σ3 : St), Val s f r → r.length ≤ us.length → cd σ P (hcells s r) <+: σ3 → Grow σ.length 1 σ3 v (acc.map (pvParts ∘ reK)) → altF s f false us = .ok (l, r) →
      ∃ xs x' σ', vBuildSl 1 (List.replicate 1 (.list .nil [])) [(0, pvParts (reK l))] = some xs ∧ vAppend 1 24 v (.list .full xs) σ3 = some (x', σ') ∧ Has σ' P (hcells s r) ∧ x'.cells? = some [x'] ∧
        ((sgn r == [59]) = false → weakW σ (.agg [.str name, x']) σ' fun v σ => R (.ret v) σ) ∧
        ((sgn r == [59]) = true → Φ (lookP [(0, .ptr P 0 0 0), (4, .agg [.str [], .list .nil []]), (5, .agg [.str name, x'])]) σ') := by
    intro l r σ3 hvr hrl hp3 hG3 hF3
    obtain ⟨xs, x', σ', h1, h2, h3, h4⟩ := grow_one (enc := pvParts ∘ reK) (fun a => sizedParts _) (n0 := 0) (a := l) (.list .nil []) (by_ := 24) (σ0 := cd σ P (hcells s r)) (by rw [cd_len]; exact hG3) hp3 (by simp at hlen hn; omega)
    have hr2 : metaF s f n (t0 :: ts) = (if sgn r == [59] then (metaF s f m r).bind fun q => .ok (l :: q.1, q.2) else .ok ([l], r)).bind fun r => .ok (acc ++ r.1, r.2) := by
      rw [hF, hF3]
      rfl
    refine ⟨xs, x', σ', h1, h2, pre_has hP h4, grow_cell h3, fun hs => ?_, fun hs => ?_⟩
    · rw [hs] at hr2
      have := hR (acc ++ [l]) r hr2
      refine pre_cell (v' := pvMeta (name, mkLists (acc ++ [l]))) hP h4 (hcells_flat _ _) (.agg _ _ rfl fun i a b ha hb => ?_) this
      match i with
      | 0 => cases ha; cases hb; exact (Flat.str _).frz _ _
      | 1 =>
        cases ha
        cases hb
        rw [cd_len] at h3
        have hfr := Grow.frzD h3 (D := fun b => σ.length ≤ b) (fun b hb => hb) (fun y hy => by
          obtain ⟨p, _, rfl⟩ := List.mem_map.1 hy
          exact flatParts _)
        have e : ((acc ++ [l]).map (pvParts ∘ reK)) = ((acc ++ [l]).map reK).map pvParts := by simp
        rw [e, growV_sl] at hfr
        exact hfr
      | i + 2 => cases ha
    · obtain ⟨w, ws, rfl⟩ := sgn_next hs
      rw [hs] at hr2
      refine hnext _ _ m (by omega) ⟨w, ws, x', acc ++ [l], rfl, by simp at hrl; omega, by simp at hlen hrl ⊢; omega, hvr, h4, by rw [cd_len] at h3; exact h3, ?_⟩
      rw [hr2]
      simp only [if_true]
      cases metaF s f m (w :: ws) <;> simp [Except.bind]
  have step : ∀ (l : List Part) (r : List Tok) (σ3 : St), Val s f r → r.length ≤ us.length → cd σ P (hcells s r) <+: σ3 → Grow σ.length 1 σ3 v (acc.map (pvParts ∘ reK)) → altF s f false us = .ok (l, r) →
      bindO False (vPart false 1 (.agg [.str name, v]) 1) fun v29 =>
      bindO False (vBuildSl 1 (List.replicate 1 (.list .nil [])) [(0, pvParts (reK l))]) fun v30 =>
      bindS (vAppend 1 24 v29 (.list .full v30) σ3) fun v31 σ32 =>
      bindO False (vPut 1 (.agg [.str name, v]) 1 v31) fun z33 =>
      bindO False (vNil (.ptr P 0 0 0)) fun v34 =>
      bindO False (vField 4 v34) fun v35 =>
      bindO False (vLoad false 1 v35 σ32) fun v36 =>
      bindO False (vBin none .neq v36 (.str [59])) fun v37 =>
      condW v37 (
      bindO False (vPart true 2 z33 0) fun v38 =>
      bindO False (vPut 2 (.agg [.str [], .list .nil []]) 0 v38) fun z39 =>
      bindO False (resCons (vPart true 2 z39 0) (some [])) fun vs => weakW σ (vResults vs) σ32 fun v σ => R (.ret v) σ) (
      Φ (lookP [(0, .ptr P 0 0 0), (4, .agg [.str [], .list .nil []]), (5, z33)]) σ32) := by
    intro l r σ3 hvr hrl hp3 hG3 hF3
    obtain ⟨xs, x', σ', h1, h2, h3, h4, h5, h6⟩ := good l r σ3 hvr hrl hp3 hG3 hF3
    have hput : ∀ y : PV, vPut 2 (.agg [.str [], .list .nil []]) 0 (.agg [.str name, y]) = some (.agg [.str name, y]) := fun y => vPut_agg rfl rfl
    simp only [h1, h2, vPut_snd h4, nil_ptr, h3.ld, hcells4, zz, Nat.reduceEqDiff, if_true, if_false, decide_true, decide_false, eq_self]
    cases hz : sgn r == [59] with
    | false =>
      simp only [hput, resCons, vResults, zz, Nat.reduceEqDiff, if_true, if_false, decide_true, decide_false, eq_self]
      exact h5 hz
    | true =>
      simp only [zz, Nat.reduceEqDiff, if_true, if_false, decide_true, decide_false, eq_self]
      exact h6 hz
  refine (c173 hs hc1 hv1).callB (fun bv r0 hh => ?_) fun e σ' hh hp' => ?_
  · by_cases hnot : (isPart us && txt us == EMPTY) = true
    · rw [if_pos hnot] at hh
      cases us with
      | nil => cases hnot
      | cons w us =>
      simp only [List.tail_cons] at hh
      cases hg2 : goF f us with
      | error e => rw [hg2] at hh; cases hh
      | ok z =>
        rw [hg2] at hh
        simp only [Except.bind, Except.ok.injEq, Prod.mk.injEq] at hh
        obtain ⟨rfl, rfl⟩ := hh
        have hv2 := hv1.tail hg2
        have hp2 := cd_pre (hcells s us) hP hp1
        have hc2 := pre_has hP hp2
        have hG2 : Grow σ.length 1 (cd σ2 P (hcells s us)) v (acc.map (pvParts ∘ reK)) := grow_cd hG1 hP
        generalize cd σ2 P (hcells s us) = σ4 at hp2 hc2 hG2 ⊢
        have halt : altF s f false (w :: us) = if isPart us then .error (if !(txt us == EMPTY) && (!isWord (txt us) && (!false && !isMeta (txt us))) then ((wrongF s us).1, 8) else wrongF s us) else .ok ([], us) := by
          have h1 : (isP w && w.2 == EMPTY) = true := hnot
          simp only [altF, h1, hg2, if_true]
          rfl
        simp only [zz, Nat.reduceEqDiff, if_true, if_false, decide_true, decide_false, eq_self]
        refine (c172 hc2 hv2).callB ?_
        cases hip : isPart us with
        | false =>
          simp only [zz, Nat.reduceEqDiff, if_true, if_false, decide_true, decide_false, eq_self]
          exact step [] us _ hv2 (by simp) hp2 hG2 (by rw [halt, hip]; rfl)
        | true =>
          cases us with
          | nil => cases hip
          | cons z us =>
          rw [hip] at halt
          simp only [if_true, txt, Bool.not_false, Bool.true_and] at halt
          have err : ∀ e σ', altF s f false (w :: z :: us) = .error e → σ4.take P <+: σ' → R (.pan (fpv e)) σ' := fun e σ' h1 h2 => hX _ _ (by rw [hF, h1]; rfl) (pan_pre hP hp2 h2)
          have hok := hv2.okw hs
          simp only [nil_ptr, hc2.ld, hcells, hv2.sub, zz, Nat.reduceEqDiff, if_true, if_false, decide_true, decide_false, eq_self]
          cases he : z.2 == [69, 77, 80, 84, 89] with
          | true =>
            simp only [zz, Nat.reduceEqDiff, if_true, if_false, decide_true, decide_false, eq_self]
            refine wrongB hc2 fun σ' hp' => err _ _ (by rw [halt]; simp [he]) hp'
          | false =>
            simp only [zz, Nat.reduceEqDiff, if_true, if_false, decide_true, decide_false, eq_self]
            refine (c125 hok _).callB ?_
            cases hw : isWord z.2 with
            | true =>
              simp only [zz, Nat.reduceEqDiff, if_true, if_false, decide_true, decide_false, eq_self]
              refine wrongB hc2 fun σ' hp' => err _ _ (by rw [halt]; simp [hw]) hp'
            | false =>
              simp only [zz, Nat.reduceEqDiff, if_true, if_false, decide_true, decide_false, eq_self]
              refine (c57 hok _).callB ?_
              cases hmt : isMeta z.2 with
              | true =>
                simp only [zz, Nat.reduceEqDiff, if_true, if_false, decide_true, decide_false, eq_self]
                refine wrongB hc2 fun σ' hp' => err _ _ (by rw [halt]; simp [hmt]) hp'
              | false =>
                simp only [hc2.ld, hcells, zz, Nat.reduceEqDiff, if_true, if_false, decide_true, decide_false, eq_self]
                refine failB P s fun σ' hp' => err _ _ (by rw [halt]; simp [he, hw, hmt, wrongF]) hp'
    · rw [if_neg hnot] at hh
      cases hh
      rw [hc1.self]
      have halt : altF s f false us = someF s f false us := by
        cases us with
        | nil => rfl
        | cons w us =>
          have h1 : (isP w && w.2 == EMPTY) = false := Bool.eq_false_iff.2 hnot
          simp only [altF, h1]
          rfl
      simp only [zz, Nat.reduceEqDiff, if_true, if_false, decide_true, decide_false, eq_self]
      refine Rd.callM (vf := fun l => pvParts (reK l)) (c137 hs (by simp at hlen hn ⊢; omega) hc1 hv1 false) (fun l r hq => ?_) fun e σ' hq hp' => ?_
      · obtain ⟨q1, q2, q3⟩ := parts_spec hv1 hq
        have hp2 := cd_pre (hcells s r) hP hp1
        have hG2 : Grow σ.length 1 (cd σ2 P (hcells s r)) v (acc.map (pvParts ∘ reK)) := grow_cd hG1 hP
        have hlenv : vLen .sl (pvParts (reK l)) (cd σ2 P (hcells s r)) = some (.int .i64 (l.length : Nat)) := by simp [pvParts, pvSl, vLen, reK_snd]
        simp only [hlenv, zz, Nat.reduceEqDiff, if_true, if_false, decide_true, decide_false, eq_self]
        cases l with
        | nil =>
          have e0 : (((([] : List Part).length : Nat) : Int) == 0) = true := rfl
          simp only [e0, zz, Nat.reduceEqDiff, if_true, if_false, decide_true, decide_false, eq_self]
          refine wrongB (pre_has hP hp2) fun σ' hp' => hX _ _ ?_ (pan_pre hP hp2 hp')
          rw [hF, halt, someF, hq]
          rfl
        | cons a l =>
          have e0 : ((((a :: l).length : Nat) : Int) == 0) = false := by simp; omega
          simp only [e0, zz, Nat.reduceEqDiff, if_true, if_false, decide_true, decide_false, eq_self]
          exact step (a :: l) r _ q1 (by omega) hp2 hG2 (by rw [halt, someF, hq]; rfl)
      · refine hX _ _ ?_ (pan_pre hP hp1 hp')
        rw [hF, halt, someF, hq]
        rfl
  · by_cases hnot : (isPart us && txt us == EMPTY) = true
    · rw [if_pos hnot] at hh
      cases us with
      | nil => cases hnot
      | cons w us =>
      simp only [List.tail_cons] at hh
      cases hg2 : goF f us with
      | ok z => rw [hg2] at hh; cases hh
      | error e' =>
        rw [hg2] at hh
        cases hh
        refine hX _ _ ?_ (pan_pre hP hp1 hp')
        have h1 : (isP w && w.2 == EMPTY) = true := hnot
        rw [hF]
        simp only [altF, h1, hg2, if_true]
        rfl
    · rw [if_neg hnot] at hh
      cases hh

end Go.Proofs.YtiniifbmeobmgaaGreatDoor
