import Derived.Test.YtgghfcchanilpaaGreatDoorSpZc
import Derived.Test.YtgghfcchanilpaaGreatDoorFnF
import Derived.Test.YtgghfcchanilpaaGreatDoorPlH
import Derived.Test.YtgghfcchanilpaaGreatDoorPlI
set_option linter.unusedVariables false
set_option linter.unusedSimpArgs false
namespace Go.Proofs.YtgghfcchanilpaaGreatDoor
open Go Go.Abs
theorem firstAt_all {e : Nat → Int} : ∀ {n : Nat}, (firstAt e n).2 = 0 → ∀ k, k < n → e k = 0
 | 0, _, k, hk => by omega
 | n + 1, h, k, hk => by
  simp only [firstAt] at h
  by_cases h1 : (firstAt e n).2 = 0
  ·rw [if_neg (by simpa using h1)] at h
   rcases Nat.lt_succ_iff_lt_or_eq.1 hk with hk | rfl
   ·exact firstAt_all h1 k hk
   ·by_cases h2 : e k = 0
    ·exact h2
    ·rw [if_pos h2] at h
     exact h
  ·rw [if_pos h1] at h
   exact absurd h h1
structure Right (c : CodeS) : Prop where
 head : ∀ k, k < 5 → headE c k = 0
 inst : ∀ k, k < c.insts.2.length → atE c 470 49 k = 0
theorem right_of {c : CodeS} (h : (checkS c 470 49).2 = 0) : Right c := by
 unfold checkS at h
 split at h
 ·rename_i h1
  exact absurd h h1
 ·rename_i h1
  exact ⟨firstE_all (by simpa using h1), firstAt_all h⟩
theorem Right.fit {c : CodeS} (h : Right c) : Fit c ∧ c.routs.2.length ≠ 0 := fit_of (h.head 3 (by omega))
theorem inst_ok {c : CodeS} {a b : Int} {i : InstS} {r : Int} (h : instE c a b i r = 0) : knownS i.op = true ∧ secondS c a b i (lf i.op 4) r = true ∧ tableS c i r = 0 := by
 unfold instE at h
 split at h
 ·omega
 ·rename_i hk
  split at h
  ·omega
  ·split at h
   ·omega
   ·rename_i hn
    refine ⟨by simpa using hk, ?_, h⟩
    simp only [numBad, Bool.or_eq_true, Bool.not_eq_true', not_or, Bool.not_eq_false] at hn
    exact hn.2
def jumpsOf (c : CodeS) (i : InstS) : Sl Int := atI (.nil, []) c.jumps i.k
theorem Right.jumps {c : CodeS} (h : Right c) {k : Nat} (hk : k < c.insts.2.length) (ho : (iAt c k).op = 11 ∨ (iAt c k).op = 12 ∨ (iAt c k).op = 19) :
  0 ≤ (iAt c k).k ∧ (iAt c k).k < len c.jumps ∧ (jumpsOf c (iAt c k)).2 ≠ [] := by
 obtain ⟨-, h2, h3⟩ := inst_ok (h.inst k hk)
 rw [lf_c ho] at h2
 have h4 : inS (iAt c k).k (len c.jumps) = true := h2
 simp only [inS, Bool.and_eq_true, decide_eq_true_eq] at h4
 refine ⟨h4.1, h4.2, fun he => ?_⟩
 unfold tableS at h3
 rw [if_pos ho] at h3
 have : jumpB c (iAt c k) (idxOf (inR k) c.routs.2 0) = true := by
  unfold jumpB
  have : len (atI (.nil, []) c.jumps (iAt c k).k) = 0 := by
   unfold len
   unfold jumpsOf at he
   rw [he]
   rfl
  rw [this]
  rfl
 rw [this] at h3
 simp at h3
theorem ints_map : ∀ l : List Int, ints? (l.map (PV.int .i64)) = some l
 | [] => rfl
 | x :: l => by simp [ints?, ints_map l]
def RowI (σ τ : St) (v : PV) (L : List Int) : Prop := σ <+: τ ∧ ((∃ n, v = .list .full [pvI n] ∧ L = [n]) ∨ Grow σ.length 1 τ v (L.map pvI))
theorem RowI.one {σ : St} (n : Int) : RowI σ σ (.list .full [.int .i64 n]) [n] := ⟨List.prefix_refl _, .inl ⟨n, rfl, rfl⟩⟩
theorem RowI.none {σ : St} : RowI σ σ (.list .nil []) [] := ⟨List.prefix_refl _, .inr (.inl ⟨rfl, rfl⟩)⟩
theorem sized_i (n : Int) : Sized 1 (pvI n) := by simp [Sized, PV.cells?, pvI]
theorem RowI.push {σ τ : St} {v : PV} {L : List Int} (h : RowI σ τ v L) (hl : L.length ≤ 2097152) (n : Int) : ∃ v' τ', vAppend 1 8 v (.list .full [.int .i64 n]) τ = some (v', τ') ∧ σ <+: τ' ∧ Grow σ.length 1 τ' v' ((L ++ [n]).map pvI) := by
 obtain ⟨hp, ⟨m, rfl, rfl⟩ | hg⟩ := h
 ·refine ⟨.sref τ.length 0 1 0 2, τ ++ [.arr 0 1 [pvI m, .int .i64 n]], ?_, hp.trans (List.prefix_append _ _), .inr ⟨τ.length, 0, hp.length_le, by simp, by simp [pvI], by simp⟩⟩
  have hr : roomy 2 8 = true := by decide
  simp [vAppend, vElems, hr, headSized, PV.cells?, pvI]
 ·obtain ⟨x', σ', h1, h2, h3, -⟩ := Grow.app (by_ := 8) hg hp (y := .list .full [.int .i64 n]) (zs := [.int .i64 n]) rfl (fun z hz => by simp at hz; subst hz; exact sized_i n) (by simp; omega)
  refine ⟨x', σ', h1, h3, ?_⟩
  rw [List.map_append]
  exact h2
theorem RowI.grow {σ τ : St} {v : PV} {L : List Int} (hp : σ <+: τ) (h : Grow σ.length 1 τ v (L.map pvI)) : RowI σ τ v L := ⟨hp, .inr h⟩
theorem intRow_grow {n0 : Nat} {σ : St} {v : PV} {L : List Int} (h : Grow n0 1 σ v (L.map pvI)) (hl : L.length ≤ 2097153) :
  (v = .list .nil [] ∧ L = []) ∨ ∃ b g, n0 ≤ b ∧ v = .sref b g 1 0 L.length ∧ intRow v σ = some (b, g, L) ∧ b < σ.length ∧ L ≠ [] := by
 rcases h with ⟨rfl, h2⟩ | ⟨b, g, h1, rfl, h3, h4⟩
 ·exact .inl ⟨rfl, by simpa using h2⟩
 ·refine .inr ⟨b, g, h1, by simp, ?_, (List.getElem?_eq_some_iff.1 h3).1, by simpa using h4⟩
  have hm : L.map pvI = L.map (PV.int .i64) := rfl
  simp only [intRow, h3]
  rw [if_pos ⟨trivial, trivial, trivial, trivial, trivial, by simp; omega⟩, hm, ints_map]
theorem sort_one' (n : Int) : sortI [n] = [n] := by simp [sortI]
theorem c71 {t : Sl Int} (h0 : t.2 ≠ []) (hl : t.2.length ≤ 1048576) (σ : St) {R : Res → St → Prop} (k : R (.ret (PV.sref σ.length 0 1 0 t.2.length)) (σ ++ [Blk.arr 0 1 (t.2.map pvI)])) : W 71 [pvInts t] σ R := by
 refine callW_fold ?_
 have hb : ∀ v, bodyC (algP W) Tryz.prog annF 71 [v] σ R = bindO False (extClone [v] σ) (fun r => R (.ret r.1) r.2) := fun v => by kernel_rfl
 rw [hb]
 obtain ⟨lk, l⟩ := t
 cases l with
 | nil => exact absurd rfl h0
 | cons x l =>
  have hm := ints_map (x :: l)
  have hlen : (x :: l).length * 8 ≤ 140737488355328 := by
   simp only at hl
   omega
  have he : extClone [pvInts (lk, x :: l)] σ = some (PV.sref σ.length 0 1 0 (x :: l).length, σ ++ [Blk.arr 0 1 ((x :: l).map pvI)]) := by
   show (match ints? ((x :: l).map (PV.int .i64)) with
    | some ss => if ss.length * 8 ≤ 140737488355328 then some (PV.sref σ.length 0 1 0 ss.length, σ ++ [Blk.arr 0 1 (ss.map (PV.int .i64))]) else none
    | none => none) = _
   rw [hm]
   simp only [hlen, if_true]
   rfl
  rw [he]
  exact k
theorem c73 {σ τ : St} {v : PV} {L : List Int} (h : RowI σ τ v L) (hl : L.length ≤ 2097153) {R : Res → St → Prop} (k : ∀ τ', RowI σ τ' v (sortI L) → R (.ret (.tuple [])) τ') : W 73 [v] τ R := by
 refine callW_fold ?_
 have hb : bodyC (algP W) Tryz.prog annF 73 [v] τ R = bindO False (extSort [v] τ) (fun r => R (.ret r.1) r.2) := by kernel_rfl
 rw [hb]
 obtain ⟨hp, ⟨m, rfl, rfl⟩ | hg⟩ := h
 ·refine k τ ⟨hp, .inl ⟨m, rfl, sort_one' m⟩⟩
 ·rcases intRow_grow hg hl with ⟨rfl, rfl⟩ | ⟨b, g, h1, rfl, h3, h4, h5⟩
  ·refine k τ ⟨hp, .inr (.inl ⟨rfl, ?_⟩)⟩
   simp [sortI]
  ·have he : extSort [.sref b g 1 0 L.length] τ = some (.tuple [], τ.set b (.arr g 1 ((sortI L).map (PV.int .i64)))) := by
    simp only [extSort, h3]
   rw [he]
   refine k _ ⟨pre_set hp h1 _, .inr (.inr ⟨b, g, h1, by simp [sortI_length], by simp only [List.getElem?_set_self h4]; rfl, ?_⟩)⟩
   intro e
   have := congrArg List.length e
   simp [sortI_length] at this
   exact h5 this
theorem c74 {σ τ : St} {v : PV} {L : List Int} (h : RowI σ τ v L) (hl : L.length ≤ 2097153) {R : Res → St → Prop} (k : ∀ v' τ' lk, σ <+: τ' → Frz τ' σ.length v' (.list lk ((compI L).map pvI)) → R (.ret v') τ') : W 74 [v] τ R := by
 refine callW_fold ?_
 have hb : bodyC (algP W) Tryz.prog annF 74 [v] τ R = bindO False (extCompact [v] τ) (fun r => R (.ret r.1) r.2) := by kernel_rfl
 rw [hb]
 obtain ⟨hp, ⟨m, rfl, rfl⟩ | hg⟩ := h
 ·refine k _ τ .full hp ?_
  rw [compI_one]
  exact .base _ (.list _ _ fun i x hx => by have := List.mem_of_getElem? hx; simp at this; subst this; exact .int _ _)
 ·rcases intRow_grow hg hl with ⟨rfl, rfl⟩ | ⟨b, g, h1, rfl, h3, h4, h5⟩
  ·refine k _ τ .nil hp ?_
   exact .list _ _ _ rfl (by simp)
  ·have he : extCompact [.sref b g 1 0 L.length] τ = some (.sref b g 1 0 (compI L).length, τ.set b (.arr g 1 ((compI L ++ List.replicate (L.length - (compI L).length) 0).map (PV.int .i64)))) := by
    simp only [extCompact, h3]
   rw [he]
   refine k _ _ .part (pre_set hp h1 _) ?_
   refine .sref b g 1 0 _ g 1 ((compI L ++ List.replicate (L.length - (compI L).length) 0).map (PV.int .i64)) _ (by simp [h4]) rfl h1 (by simp) (by simp) fun i x y hi hx hy => ?_
   rw [Nat.zero_add, List.map_append, List.getElem?_append_left (by simpa using hi)] at hx
   have hy' : ((compI L).map (PV.int .i64))[i]? = some y := hy
   rw [hx] at hy'
   cases hy'
   rw [List.getElem?_map, Option.map_eq_some_iff] at hx
   obtain ⟨s, _, rfl⟩ := hx
   exact .base _ (.int _ _)
def nextL (c : CodeS) (i : InstS) : List Int := if i.op = 9 ∨ i.op = 10 then [i.k] else if i.op = 11 ∨ i.op = 12 ∨ i.op = 19 then (jumpsOf c i).2 else if i.op = 18 ∧ i.s.b = 0 then [i.k] else []
def behindB (i : InstS) : Bool := !(decide (i.op = 9 ∨ i.op = 11 ∨ i.op = 12 ∨ i.op = 17 ∨ i.op = 18 ∨ i.op = 20))
def nextS (c : CodeS) (pc : Int) : List Int :=
 (nextL c (iAt c pc) ++ (if behindB (iAt c pc) && decide (pc + 1 < (rAt c (idxOf (inR pc) c.routs.2 0)).to) then [pc + 1] else [])).foldl putI []
theorem nl1 {c : CodeS} {i : InstS} (h : i.op = 9 ∨ i.op = 10) : nextL c i = [i.k] := by
 unfold nextL
 rw [if_pos h]
theorem nl3 {c : CodeS} {i : InstS} (h : i.op = 18 ∧ i.s.b = 0) : nextL c i = [i.k] := by
 unfold nextL
 rw [if_neg (by omega), if_neg (by omega), if_pos h]
theorem nl4 {c : CodeS} {i : InstS} (h : ¬ i.op = 9 ∧ ¬ i.op = 10 ∧ ¬ i.op = 11 ∧ ¬ i.op = 12 ∧ ¬ i.op = 19 ∧ ¬ (i.op = 18 ∧ i.s.b = 0)) : nextL c i = [] := by
 unfold nextL
 rw [if_neg (by omega), if_neg (by omega), if_neg (by omega)]
theorem bT {i : InstS} (h : ¬ (i.op = 9 ∨ i.op = 11 ∨ i.op = 12 ∨ i.op = 17 ∨ i.op = 18 ∨ i.op = 20)) : behindB i = true := by
 unfold behindB
 rw [decide_eq_false h]
 rfl
theorem bF {i : InstS} (h : i.op = 9 ∨ i.op = 11 ∨ i.op = 12 ∨ i.op = 17 ∨ i.op = 18 ∨ i.op = 20) : behindB i = false := by
 unfold behindB
 rw [decide_eq_true h]
 rfl
theorem b1_int (n : Int) : vBuildSl 1 (List.replicate 1 (.int .i64 0)) [(0, .int .i64 n)] = some [.int .i64 n] := rfl
theorem chk_build0 (c : CodeS) : vBuild [(.list .nil []), (.list .nil []), (.list .nil []), (.list .nil []), (.list .nil []), (.list .nil []), (.list .nil []), (.list .nil []), (.list .nil []), (.list .nil []), (.int .i64 0), (.int .i64 0)] [(0, 10, pvCode c)] = some (codeCells c ++ [.int .i64 0, .int .i64 0]) := rfl
theorem sig_fld (p : Int × Int) : vFieldV false 1 (pvSig p) 1 = some (.int .i64 p.2) := rfl
theorem c26 {c : CodeS} (hc : Okay c) (hn : Nums c) (pc : Int) (hpc : InI pc) (σ : St) {R : Res → St → Prop}
  (hR : ∀ (lk : LK) (e : Int), (e = if (checkS c 470 49).2 ≠ 0 then 2 else if inS pc (len c.insts) then 0 else 11) → R (.ret (.tuple [.list lk ((if e = 0 then nextS c pc else []).map pvI), .int .i64 e])) σ) : W 26 [pvCode c, .int .i64 pc] σ R := by
 refine callW_fold ?_
 rw [fn26_eq]
 unfold fn26
 have hil := hc.insts
 simp only [code_parts, zz, Nat.reduceEqDiff]
 refine (c24 hc hn _).callB ?_
 simp only [sig_fld, flt_ne, zz, Nat.reduceEqDiff]
 refine condB (fun hb => ?_) (fun hb => ?_)
 ·have hne : (checkS c 470 49).2 ≠ 0 := by simpa using hb
  have := hR .nil 2 (by rw [if_pos hne])
  exact weakW_keep this
 have hz : (checkS c 470 49).2 = 0 := by simpa using hb
 have hright := right_of hz
 rw [if_neg (by simpa using hz)] at hR
 simp only [sl_len, zz, Nat.reduceEqDiff]
 refine (c42 _ _ _).callB ?_
 simp only [zz, Nat.reduceEqDiff]
 refine condB (fun hb2 => ?_) (fun hb2 => ?_)
 ·have hin : inS pc (len c.insts) = false := by simpa using hb2
  have := hR .nil 11 (by rw [hin, if_neg (by simp)])
  exact weakW_keep this
 have hin : inS pc (len c.insts) = true := by simpa using hb2
 have hR0 := fun lk => hR lk 0 (by rw [hin, if_pos rfl])
 clear hR hb hb2
 simp only [inS, Bool.and_eq_true, decide_eq_true_eq] at hin
 have hix : vIndex 12 (pvSl pvInst c.insts) (.int .i64 pc) = some (.eptr (pvInst (iAt c pc)) 0) := idxI encInst zInst hin.1 hin.2
 obtain ⟨k, rfl⟩ := Int.eq_ofNat_of_zero_le hin.1
 have hkl : k < c.insts.2.length := by unfold len at hin; omega
 have hjs := fun ho => hright.jumps hkl ho
 obtain ⟨hf, hr0⟩ := hright.fit
 obtain ⟨r, hr, -, hto, hri⟩ := fit_rout_of hf hr0 (k := k) (by omega) hin.2
 have hns : nextS c k = (nextL c (iAt c k) ++ (if behindB (iAt c k) && decide ((k : Int) + 1 < (rAt c r).to) then [(k : Int) + 1] else [])).foldl putI [] := by
  unfold nextS
  rw [hri]
 have hll : (nextL c (iAt c k)).length ≤ 1048576 := by
  have hjl : (jumpsOf c (iAt c k)).2.length ≤ 1048576 := by
   unfold jumpsOf atI
   rw [List.getD_eq_getElem?_getD]
   cases hq : c.jumps.2[(iAt c k).k.toNat]? with
   | none => simp
   | some m => exact hc.jump m (List.mem_of_getElem? hq)
  unfold nextL
  split
  ·simp
  ·split
   ·exact hjl
   ·split <;> simp
 have hfr := Nat.le_refl 0
 generalize iAt c k = i at hix hjs hns hll
 simp only [hix, encInst.part, put_inst, inst_parts3, zz, Nat.reduceEqDiff]
 refine CutW_by (fun x τ => x 1 = .int .i64 k ∧ x 2 = pvCode c ∧ x 8 = .bool (behindB i) ∧ RowI σ τ (x 7) (nextL c i)) (fun x τ hx => ?_) ?_
 ·obtain ⟨q1, q2, q8, hrow⟩ := hx
  have hixr : vIndex 9 (pvSl pvRout c.routs) (.int .i64 r) = some (.eptr (pvRout (rAt c r)) 0) := idxI encRout zRout (by omega) (by unfold len; omega)
  simp only [q1, q2, q8, code_parts, chk_build0, chk_put, chk_parts, zz, Nat.reduceEqDiff]
  refine CutW_by (fun x' τ' => RowI σ τ' (x' 7) (nextL c i ++ (if behindB i && decide ((k : Int) + 1 < (rAt c r).to) then [(k : Int) + 1] else []))) (fun x' τ' hrow' => ?_) ?_
  ·have hlen : (nextL c i ++ (if behindB i && decide ((k : Int) + 1 < (rAt c r).to) then [(k : Int) + 1] else [])).length ≤ 2097152 := by
    rw [List.length_append]
    split <;> simp <;> omega
   refine c73 hrow' (by omega) fun τ1 hrow1 => ?_
   refine c74 hrow1 (by rw [sortI_length]; omega) fun v' τ2 lk hp hfz => ?_
   rw [sort_puts, ← hns] at hfz
   have := hR0 lk
   simp only [if_true] at this
   refine weakW_clean hp ?_ this
   refine .tuple _ _ rfl fun j x y hx hy => ?_
   match j with
   | 0 => simp at hx hy; subst hx hy; exact hfz
   | 1 => simp at hx hy; subst hx hy; exact .base _ (.int _ _)
   | j + 2 => simp at hx
  ·have hadd : vBin none .add (.int .i64 k) (.int .i64 1) = some (.int .i64 ((k : Int) + 1)) := vBin_add _ (by omega) (by omega)
   refine andG (decide ((k : Int) + 1 < (rAt c r).to)) (fun _ J hJ => ?_) ?_
   ·simp only [hadd, zz, Nat.reduceEqDiff]
    refine (c72 hc 0 0 k _).callB ?_
    rw [hri]
    simp only [hixr, fldE, rout_parts, zz, Nat.reduceEqDiff, Nat.reduceAdd]
    exact hJ _ rfl
   refine condB (fun hb => ?_) (fun hb => ?_)
   ·obtain ⟨v', τ', e1, p1, g1⟩ := hrow.push (by omega) ((k : Int) + 1)
    simp only [hadd, b1_int, e1, zz, Nat.reduceEqDiff]
    rw [hb, if_pos rfl]
    exact .grow p1 g1
   ·rw [hb, if_neg (by simp), List.append_nil]
    exact hrow
 have leaf : ∀ (b : Bool) (v : PV) (L : List Int) (τ : St), nextL c i = L → behindB i = b → RowI σ τ v L → ∀ x : Nat → PV, x 1 = .int .i64 k → x 7 = v → x 8 = .bool b → x 2 = pvCode c → x 1 = .int .i64 k ∧ x 2 = pvCode c ∧ x 8 = .bool (behindB i) ∧ RowI σ τ (x 7) (nextL c i) := by
  rintro b v L τ rfl rfl h x h1 h7 h8 h2
  exact ⟨h1, h2, h8, by rw [h7]; exact h⟩
 have hjump : ∀ {K X : PV → St → Prop} (ho : i.op = 11 ∨ i.op = 12 ∨ i.op = 19), (∀ v τ, RowI σ τ v (nextL c i) → K v τ) → callB W 71 [pvInts (jumpsOf c i)] σ K X := by
  intro K X ho hk
  obtain ⟨j0, j1, j2⟩ := hjs ho
  have hnl : nextL c i = (jumpsOf c i).2 := by
   unfold nextL
   rw [if_neg (by omega), if_pos ho]
  rw [hnl] at hk hll
  refine c71 j2 hll σ (hk _ _ ⟨List.prefix_append _ _, .inr (.inr ⟨σ.length, 0, Nat.le_refl _, by simp, by simp, by simpa using j2⟩)⟩)
 have hjix : ∀ ho : i.op = 11 ∨ i.op = 12 ∨ i.op = 19, vIndex 1 (pvSl pvInts c.jumps) (.int .i64 i.k) = some (.eptr (pvInts (jumpsOf c i)) 0) := fun ho => idxI encInts (.nil, []) (hjs ho).1 (hjs ho).2.1
 repeat' first
  | contradiction
  | refine condL (fun hl => ?_) (fun hl => ?_)
 all_goals first
  | exact leaf false _ _ σ (nl1 (by omega)) (bF (by omega)) (.one i.k) _ rfl rfl rfl rfl
  | exact leaf true _ _ σ (nl1 (by omega)) (bT (by omega)) (.one i.k) _ rfl rfl rfl rfl
  | exact leaf false _ _ σ (nl3 (by omega)) (bF (by omega)) (.one i.k) _ rfl rfl rfl rfl
  | exact leaf false _ _ σ (nl4 (by omega)) (bF (by omega)) .none _ rfl rfl rfl rfl
  | exact leaf true _ _ σ (nl4 (by omega)) (bT (by omega)) .none _ rfl rfl rfl rfl
  | (simp only [hjix (by omega), encInts.part, zz, Nat.reduceEqDiff]
     first
       | exact hjump (by omega) fun v τ h => ⟨trivial, trivial, (congrArg PV.bool (bF (by omega))).symm, h⟩
       | exact hjump (by omega) fun v τ h => ⟨trivial, trivial, (congrArg PV.bool (bT (by omega))).symm, h⟩)
end Go.Proofs.YtgghfcchanilpaaGreatDoor
