/- strings.Builder as it is used; the written form of a grammar; its bounds. -/
import Derived.Test.YtiniifbmeobmgaaGreatDoorSpcD
import Derived.Test.YtiniifbmeobmgaaGreatDoorFnI
set_option linter.unusedVariables false
set_option linter.unusedSimpArgs false
namespace Go.Proofs.YtiniifbmeobmgaaGreatDoor
open Go Go.Abs

/-! ### The builder -/

def byteP (b : UInt8) : PV := .int .u8 b.toNat

def Buf (n0 : Nat) (σ : St) (buf : PV) (bs : Str) : Prop :=
  (buf = .list .nil [] ∧ bs = []) ∨ ∃ c g, n0 ≤ c ∧ buf = .sref c g 1 0 bs.length ∧ σ[c]? = some (.arr g 1 (bs.map byteP)) ∧ g % 4194304 = 23 ∧ bs ≠ []

structure BldAt (τ σ : St) (P : Nat) (a buf : PV) (bs : Str) : Prop where
  pre : τ <+: σ
  lo : τ.length ≤ P
  cell : σ[P]? = some (.arr 717 2 [.agg [a, buf]])
  buf : Buf τ.length σ buf bs

def Bld (τ σ : St) (P : Nat) (bs : Str) : Prop := ∃ a buf, (a = .nilptr ∨ a = .ptr P 717 0 0) ∧ BldAt τ σ P a buf bs

theorem Bld.mk (τ : St) : Bld τ (τ ++ [.arr 717 2 [.agg [.nilptr, .list .nil []]]]) τ.length [] :=
  ⟨_, _, .inl rfl, ⟨⟨_, rfl⟩, Nat.le_refl _, by simp, .inl ⟨rfl, rfl⟩⟩⟩

theorem get_pre {σ σ' : St} (hp : σ <+: σ') {c : Nat} {k : Blk} (h : σ[c]? = some k) : σ'[c]? = some k := by
  obtain ⟨t, rfl⟩ := hp
  rw [List.getElem?_append_left (List.getElem?_eq_some_iff.1 h).1]
  exact h

theorem Bld.pre {τ σ σ' : St} {P : Nat} {bs : Str} (h : Bld τ σ P bs) (hp : σ <+: σ') : Bld τ σ' P bs := by
  obtain ⟨a, buf, ha, h1, h2, h3, h4⟩ := h
  refine ⟨a, buf, ha, h1.trans hp, h2, get_pre hp h3, ?_⟩
  rcases h4 with h4 | ⟨c, g, q1, q2, q3, q4, q5⟩
  · exact .inl h4
  · exact .inr ⟨c, g, q1, q2, get_pre hp q3, q4, q5⟩

theorem c148 {τ σ : St} {P : Nat} {bs : Str} (h : Bld τ σ P bs) {R : Res → St → Prop} (hR : ∀ σ1 buf, BldAt τ σ1 P (.ptr P 717 0 0) buf bs → R (.ret (.tuple [])) σ1) : W 148 [.ptr P 717 0 0] σ R := by
  refine callW_fold ?_
  show bindO False (extCopy 179 [.ptr P 717 0 0] σ) (fun r => R (.ret r.1) r.2)
  obtain ⟨a, buf, ha, h1, h2, h3, h4⟩ := h
  have hb : bldAt 179 P 717 σ = some (2, a, buf) := by simp [bldAt, h3, tyG]
  rcases ha with rfl | rfl
  · simp only [extCopy, hb, zz, Nat.reduceEqDiff, if_true, if_false, decide_true, decide_false, eq_self]
    have hPl : P < σ.length := (List.getElem?_eq_some_iff.1 h3).1
    refine hR _ buf ⟨pre_set h1 h2 _, h2, by simp [hPl], ?_⟩
    rcases h4 with h4 | ⟨c, g, q1, q2, q3, q4, q5⟩
    · exact .inl h4
    · refine .inr ⟨c, g, q1, q2, ?_, q4, q5⟩
      rw [List.getElem?_set, if_neg (fun e => ?_)]
      · exact q3
      · subst e
        rw [h3] at q3
        simp at q3
  · simp only [extCopy, hb, zz, Nat.reduceEqDiff, if_true, if_false, decide_true, decide_false, eq_self]
    simp only [and_self, if_true, zz, Nat.reduceEqDiff, if_true, if_false, decide_true, decide_false, eq_self]
    exact hR _ buf ⟨h1, h2, h3, h4⟩

theorem buf_app {n0 : Nat} {σ : St} {buf : PV} {bs : Str} (h : Buf n0 σ buf bs) (hn : n0 ≤ σ.length) (s : Str) (hl : bs.length + s.length ≤ 140737488355328) :
    ∃ buf' σ2, vAppendT 23 1 1 buf (.str s) σ = some (buf', σ2) ∧ Buf n0 σ2 buf' (bs ++ s) ∧ (∀ τ : St, τ.length ≤ n0 → τ <+: σ → τ <+: σ2) ∧ ∀ (P g : Nat) x, σ[P]? = some (.arr g 2 x) → σ2[P]? = some (.arr g 2 x) := by
  have hy : vElems (.str s) σ = some (s.map byteP) := rfl
  cases s with
  | nil =>
    have he : vAppendT 23 1 1 buf (.str []) σ = some (buf, σ) := by
      rcases h with ⟨rfl, rfl⟩ | ⟨c, g, _, rfl, _⟩ <;> rfl
    exact ⟨buf, σ, he, by simpa using h, fun _ _ h => h, fun _ _ _ h => h⟩
  | cons b s =>
    have hsz : ∀ l : Str, headSized 1 (l.map byteP) = true := fun l => by cases l <;> rfl
    rcases h with ⟨rfl, rfl⟩ | ⟨c, g, hc0, rfl, hb, hg, hne⟩
    · refine ⟨.sref σ.length 23 1 0 (b :: s).length, σ ++ [.arr 23 1 ((b :: s).map byteP)], ?_, .inr ⟨σ.length, 23, hn, by simp, by simp, rfl, by simp⟩, fun τ _ hp => pre_app hp _, fun P g x hx => by rw [List.getElem?_append_left (List.getElem?_eq_some_iff.1 hx).1]; exact hx⟩
      simp only [vAppendT, hy]
      have hr : roomy (([] : List PV).length + ((b :: s).map byteP).length) 1 = true := by
        simp only [roomy, List.length_map, List.length_nil, Nat.mul_one, decide_eq_true_eq]
        simpa using hl
      rw [if_neg (by simp), if_pos ⟨by simp, hr, rfl, hsz _⟩]
      simp
    · have hcl : c < σ.length := (List.getElem?_eq_some_iff.1 hb).1
      refine ⟨.sref c (g + 4194304) 1 0 (bs ++ b :: s).length, σ.set c (.arr (g + 4194304) 1 ((bs ++ b :: s).map byteP)), ?_, .inr ⟨c, g + 4194304, hc0, rfl, by simp [hcl], by omega, by simp⟩, fun τ hτ hp => pre_set hp (by omega) _, fun P g' x hx => ?_⟩
      · simp only [vAppendT, hy, hb]
        have hr : roomy (bs.length + ((b :: s).map byteP).length) 1 = true := by
          simp only [roomy, List.length_map, Nat.mul_one, decide_eq_true_eq]
          exact hl
        have hnt : nextT 23 g 0 = g + 4194304 := by
          unfold nextT
          rw [if_pos ⟨by decide, hg, rfl⟩]
        rw [if_neg (by simp), if_pos ⟨trivial, trivial, by simp, hr, hsz _⟩, hnt]
        have htk : (bs.map byteP).take bs.length = bs.map byteP := List.take_of_length_le (by simp)
        simp [htk]
      · rw [List.getElem?_set, if_neg (fun e => ?_)]
        · exact hx
        · subst e
          rw [hb] at hx
          simp at hx

theorem c104 {τ σ : St} {P : Nat} {bs s : Str} (h : Bld τ σ P bs) (hl : bs.length + s.length ≤ 140737488355328) {R : Res → St → Prop}
    (hR : ∀ σ1, Bld τ σ1 P (bs ++ s) → R (.ret (.tuple [.int .i64 s.length, .nilIface])) σ1) : W 104 [.ptr P 717 0 0, .str s] σ R := by
  refine callW_fold ?_
  rw [fn104_eq]
  unfold fn104
  refine c148 h fun σ1 buf h1 => ?_
  obtain ⟨buf', σ2, e1, e2, e3, e4⟩ := buf_app h1.buf (Nat.le_trans h1.lo (Nat.le_of_lt (List.getElem?_eq_some_iff.1 h1.cell).1)) s hl
  have hn : ∀ (b g i o : Nat), vNil (.ptr b g i o) = some (.ptr b g i o) := fun _ _ _ _ => rfl
  have hld : vLoad false 1 (.ptr P 717 0 (0 + 1)) σ1 = some buf := by
    simp [vLoad, h1.cell, vPart]
    rfl
  have hc2 := e4 P 717 _ h1.cell
  have hcell : buf'.cells? = some [buf'] := by rcases e2 with ⟨rfl, _⟩ | ⟨c, g, _, rfl, _⟩ <;> rfl
  have hst : vStore 1 (.ptr P 717 0 (0 + 1)) buf' σ2 = some (σ2.set P (.arr 717 2 [.agg [.ptr P 717 0 0, buf']])) := by
    simp only [vStore, hc2]
    simp [vPut_snd hcell]
  have hld' : vLoad false 1 (.ptr P 717 0 1) σ1 = some buf := hld
  have hst' : vStore 1 (.ptr P 717 0 1) buf' σ2 = some (σ2.set P (.arr 717 2 [.agg [.ptr P 717 0 0, buf']])) := hst
  simp only [hn, hld', e1, hst', zz, Nat.reduceEqDiff, if_true, if_false, decide_true, decide_false, eq_self]
  refine weakW_keep (hR _ ⟨.ptr P 717 0 0, buf', .inr rfl, pre_set (e3 τ (Nat.le_refl _) h1.pre) h1.lo _, h1.lo, by simp [(List.getElem?_eq_some_iff.1 hc2).1], ?_⟩)
  rcases e2 with h4 | ⟨c, g, q1, q2, q3, q4, q5⟩
  · exact .inl h4
  · refine .inr ⟨c, g, q1, q2, ?_, q4, q5⟩
    rw [List.getElem?_set, if_neg (fun e => ?_)]
    · exact q3
    · subst e
      rw [hc2] at q3
      simp at q3

theorem bytes_map : ∀ bs : Str, bytes? (bs.map byteP) = some bs
  | [] => rfl
  | b :: bs => by
    have hb := b.toNat_lt
    have := bytes_map bs
    show (if 0 ≤ (b.toNat : Int) ∧ (b.toNat : Int) < 256 then (match bytes? (bs.map byteP) with
      | some r => some ((b.toNat : Int).toNat.toUInt8 :: r)
      | none => none) else none) = some (b :: bs)
    rw [if_pos (by omega), this]
    simp

theorem c105 {τ σ : St} {P : Nat} {bs : Str} (h : Bld τ σ P bs) (hl : bs.length ≤ 140737488355328) {R : Res → St → Prop} (hR : ∀ σ1, τ <+: σ1 → R (.ret (.str bs)) σ1) : W 105 [.ptr P 717 0 0] σ R := by
  refine callW_fold ?_
  show bindO False (extStr 179 5 [.ptr P 717 0 0] σ) (fun r => R (.ret r.1) r.2)
  obtain ⟨a, buf, ha, h1, h2, h3, h4⟩ := h
  have hb : bldAt 179 P 717 σ = some (2, a, buf) := by simp [bldAt, h3, tyG]
  rcases h4 with ⟨rfl, rfl⟩ | ⟨c, g, q1, rfl, q3, q4, q5⟩
  · simp only [extStr, hb, zz, Nat.reduceEqDiff, if_true, if_false, decide_true, decide_false, eq_self]
    exact hR _ h1
  · simp only [extStr, hb, q3]
    have hpos : 0 < bs.length := List.length_pos_iff.2 q5
    have ht : tyG g = 5 := by unfold tyG; omega
    rw [if_pos ⟨trivial, by omega, ht, hpos, by simp, hl⟩]
    have : (bs.map byteP).take bs.length = bs.map byteP := by rw [List.take_of_length_le (by simp)]
    rw [this, bytes_map]
    simp only [zz, Nat.reduceEqDiff, if_true, if_false, decide_true, decide_false, eq_self]
    exact hR _ (pre_set h1 q1 _)

/-! ### The form -/

abbrev EMPTYw : Str := [69, 77, 80, 84, 89]
def orE (s : Str) : Str := if s == [] then EMPTYw else s
def txtP (l : List Part) : Str := joinB [32] (l.map (·.2))
def metaT (m : Meta19) : Str := m.1 ++ [32, 58, 58, 32] ++ joinB [32, 59, 32] (m.2.2.map fun l => orE (txtP l.2)) ++ [32, 46, 10]
def ruleT (r : Rule19) : Str := txtP r.1.2 ++ [32, 58, 32] ++ orE (joinB [44, 32] (r.2.2.map fun l => txtP l.2)) ++ [32, 46, 10]
def formG (g : Gram) : Str := (g.1.2.map metaT).flatten ++ (g.2.2.map ruleT).flatten
def writeG (g : Gram) : Str := if checkG g = 0 then formG g else []

theorem joinB_le (sep : Str) (m : Nat) : ∀ xs : List Str, (∀ x ∈ xs, x.length ≤ m) → (joinB sep xs).length ≤ xs.length * (m + sep.length)
  | [], _ => by simp [joinB]
  | [x], h => by
    have := h x (by simp)
    simp [joinB]
    omega
  | x :: y :: r, h => by
    have h1 := h x (by simp)
    have ih := joinB_le sep m (y :: r) fun z hz => h z (by simp [hz])
    simp only [joinB, List.length_append, List.length_cons, Nat.add_mul] at *
    omega

theorem flatten_le {α : Type} (f : α → Str) (m : Nat) : ∀ xs : List α, (∀ x ∈ xs, (f x).length ≤ m) → ((xs.map f).flatten).length ≤ xs.length * m
  | [], _ => by simp
  | x :: r, h => by
    have h1 := h x (by simp)
    have ih := flatten_le f m r fun z hz => h z (by simp [hz])
    simp only [List.map_cons, List.flatten_cons, List.length_append, List.length_cons, Nat.add_mul]
    omega

/-! ### A right grammar is small -/

structure TameL (l : Sl Part) : Prop where
  len : l.2.length ≤ 64
  txt : ∀ p ∈ l.2, p.2.length ≤ 41 ∧ p.2 ≠ []
structure TameM (m : Meta19) : Prop where
  name : m.1.length ≤ 41
  len : m.2.2.length ≤ 64
  mem : ∀ l ∈ m.2.2, TameL l
structure TameR (r : Rule19) : Prop where
  left : TameL r.1
  lne : r.1.2 ≠ []
  len : r.2.2.length ≤ 64
  mem : ∀ l ∈ r.2.2, TameL l ∧ l.2 ≠ []
structure Tame (g : Gram) : Prop where
  ml : g.1.2.length ≤ 100
  rl : g.2.2.length ≤ 500
  metas : ∀ m ∈ g.1.2, TameM m
  rules : ∀ r ∈ g.2.2, TameR r

theorem within_len {a b : Int} {s : Str} (h : within a b s = true) : s.length ≤ 40 ∧ s ≠ [] := by
  simp only [within, Bool.and_eq_true, decide_eq_true_eq] at h
  exact ⟨h.2.2, fun e => by subst e; simp at h⟩

theorem meta_len {s : Str} (h : isMeta s = true) : s.length ≤ 40 ∧ s ≠ [] := by
  simp only [isMeta, Bool.and_eq_true] at h
  exact within_len h.2

theorem param_len {s : Str} (h : isParam s = true) : s.length ≤ 41 ∧ s ≠ [] := by
  unfold isParam metaOf at h
  split at h
  · obtain ⟨h1, h2⟩ := meta_len h
    simp at h1
    exact ⟨by omega, fun e => by subst e; simp at h2⟩
  · obtain ⟨h1, h2⟩ := meta_len h
    exact ⟨by omega, h2⟩

theorem part_len {d : Bool} {p : Part} (h : badPart d p = false) : p.2.length ≤ 41 ∧ p.2 ≠ [] := by
  unfold badPart at h
  cases hp : p.1 with
  | false =>
    simp [hp] at h
    obtain ⟨h1, h2⟩ := within_len (s := p.2) (a := 97) (b := 122) h
    exact ⟨by omega, h2⟩
  | true =>
    simp [hp] at h
    cases hm : isMeta p.2 with
    | true =>
      obtain ⟨h1, h2⟩ := meta_len hm
      exact ⟨by omega, h2⟩
    | false => exact param_len (h hm).2

theorem tameL_of {d : Bool} {l : Sl Part} (h1 : longL l = false) (h2 : badL d l = false) : TameL l := by
  unfold longL at h1
  unfold badL at h2
  rw [List.any_eq_false] at h2
  exact ⟨by simp at h1; omega, fun p hp => part_len (Bool.eq_false_iff.2 (h2 p hp))⟩

theorem metas_tame : ∀ (ms : List Meta19) (seen : List Str), metasErr ms seen = 0 → (∀ m ∈ ms, longM m = false) → ∀ m ∈ ms, TameM m
  | [], _, _, _, m, hm => by simp at hm
  | a :: ms, seen, h, hl, m, hm => by
    simp only [metasErr] at h
    split at h
    · omega
    · rename_i hM
      split at h
      · omega
      · split at h
        · omega
        · split at h
          · omega
          · rename_i hB
            rcases List.mem_cons.1 hm with rfl | hm
            · have hlm := hl m (by simp)
              unfold longM at hlm
              simp only [Bool.or_eq_false_iff, decide_eq_false_iff_not] at hlm
              have hnm := meta_len (s := m.1) (by simpa using hM)
              refine ⟨by omega, by omega, fun l hl2 => ?_⟩
              have h1 := List.any_eq_false.1 hlm.2 l hl2
              have hB' : (m.2.2.any (badL false)) = false := Bool.eq_false_iff.2 hB
              have h2 := List.any_eq_false.1 hB' l hl2
              exact tameL_of (Bool.eq_false_iff.2 h1) (Bool.eq_false_iff.2 h2)
            · exact metas_tame ms _ h (fun m hm => hl m (by simp [hm])) m hm

theorem lists_tame : ∀ (ls : List (Sl Part)), listsErr ls = 0 → (∀ l ∈ ls, longL l = false) → ∀ l ∈ ls, TameL l ∧ l.2 ≠ []
  | [], _, _, l, hl => by simp at hl
  | a :: ls, h, hg, l, hl => by
    simp only [listsErr] at h
    split at h
    · omega
    · rename_i hn
      split at h
      · omega
      · rename_i hb
        rcases List.mem_cons.1 hl with rfl | hl
        · exact ⟨tameL_of (hg l (by simp)) (Bool.eq_false_iff.2 hb), fun e => hn (by simp [e])⟩
        · exact lists_tame ls h (fun l hl => hg l (by simp [hl])) l hl

theorem rules_tame : ∀ (rs : List Rule19), rulesErr rs = 0 → (∀ r ∈ rs, longR r = false) → ∀ r ∈ rs, TameR r
  | [], _, _, r, hr => by simp at hr
  | a :: rs, h, hg, r, hr => by
    simp only [rulesErr] at h
    split at h
    · rename_i h0
      rcases List.mem_cons.1 hr with rfl | hr
      · have hlr := hg r (by simp)
        unfold longR at hlr
        simp only [Bool.or_eq_false_iff, decide_eq_false_iff_not] at hlr
        have hall := lists_tame (ruleAll r) h0 fun l hl => by
          rcases List.mem_cons.1 hl with rfl | hl
          · unfold longL; simpa using hlr.2.1
          · exact Bool.eq_false_iff.2 (List.any_eq_false.1 hlr.2.2 l hl)
        have hl := hall r.1 (by simp [ruleAll])
        exact ⟨hl.1, hl.2, by omega, fun l hl => hall l (by simp [ruleAll, hl])⟩
      · exact rules_tame rs h (fun r hr => hg r (by simp [hr])) r hr
    · omega

theorem tame_of {g : Gram} (h : checkG g = 0) : Tame g := by
  unfold checkG at h
  split at h
  · omega
  · rename_i hT
    have hT := Bool.eq_false_iff.2 hT
    unfold tooLong at hT
    simp only [Bool.or_eq_false_iff, decide_eq_false_iff_not] at hT
    obtain ⟨h1, h2, h3, h4⟩ := hT
    split at h
    · rename_i hM
      split at h
      · rename_i hR
        exact ⟨by omega, by omega, metas_tame _ _ hM fun m hm => Bool.eq_false_iff.2 (List.any_eq_false.1 h3 m hm), rules_tame _ hR fun r hr => Bool.eq_false_iff.2 (List.any_eq_false.1 h4 r hr)⟩
      · rename_i hR; exact absurd h hR
    · rename_i hM; exact absurd h hM

theorem txtP_le {l : Sl Part} (h : TameL l) : (txtP l.2).length ≤ 2688 := by
  have := joinB_le [32] 41 (l.2.map (·.2)) fun x hx => by
    obtain ⟨p, hp, rfl⟩ := List.mem_map.1 hx
    exact (h.txt p hp).1
  have h2 := h.len
  simp only [List.length_map] at this
  unfold txtP
  have h3 : l.2.length * (41 + [(32 : UInt8)].length) ≤ 64 * 42 := Nat.mul_le_mul h2 (by simp)
  omega

theorem orE_le {s : Str} {n : Nat} (h : s.length ≤ n) (hn : 5 ≤ n) : (orE s).length ≤ n := by
  unfold orE
  split
  · simpa using hn
  · exact h

theorem metaT_le {m : Meta19} (h : TameM m) : (metaT m).length ≤ 180000 := by
  have h1 := joinB_le [32, 59, 32] 2688 (m.2.2.map fun l => orE (txtP l.2)) fun x hx => by
    obtain ⟨l, hl, rfl⟩ := List.mem_map.1 hx
    exact orE_le (txtP_le (h.mem l hl)) (by omega)
  simp only [List.length_map] at h1
  have h2 : m.2.2.length * (2688 + ([32, 59, 32] : Str).length) ≤ 64 * 2691 := Nat.mul_le_mul h.len (by simp)
  have h3 := h.name
  unfold metaT
  simp only [List.length_append, List.length_cons, List.length_nil]
  omega

theorem ruleT_le {r : Rule19} (h : TameR r) : (ruleT r).length ≤ 180000 := by
  have h1 := joinB_le [44, 32] 2688 (r.2.2.map fun l => txtP l.2) fun x hx => by
    obtain ⟨l, hl, rfl⟩ := List.mem_map.1 hx
    exact txtP_le (h.mem l hl).1
  simp only [List.length_map] at h1
  have h2 : r.2.2.length * (2688 + ([44, 32] : Str).length) ≤ 64 * 2690 := Nat.mul_le_mul h.len (by simp)
  have h3 := txtP_le h.left
  have h4 := orE_le (s := joinB [44, 32] (r.2.2.map fun l => txtP l.2)) (n := 172160) (by omega) (by omega)
  unfold ruleT
  simp only [List.length_append, List.length_cons, List.length_nil]
  omega

theorem metas_le {ms : List Meta19} (hl : ms.length ≤ 100) (h : ∀ m ∈ ms, TameM m) (i : Nat) : (((ms.take i).map metaT).flatten).length ≤ 18000000 := by
  have := flatten_le metaT 180000 (ms.take i) fun m hm => metaT_le (h m (List.mem_of_mem_take hm))
  have h2 : (ms.take i).length ≤ 100 := by simp; omega
  have h3 : (ms.take i).length * 180000 ≤ 100 * 180000 := Nat.mul_le_mul_right _ h2
  omega

theorem rules_le {rs : List Rule19} (hl : rs.length ≤ 500) (h : ∀ r ∈ rs, TameR r) (i : Nat) : (((rs.take i).map ruleT).flatten).length ≤ 90000000 := by
  have := flatten_le ruleT 180000 (rs.take i) fun m hm => ruleT_le (h m (List.mem_of_mem_take hm))
  have h2 : (rs.take i).length ≤ 500 := by simp; omega
  have h3 : (rs.take i).length * 180000 ≤ 500 * 180000 := Nat.mul_le_mul_right _ h2
  omega

/-! ### Small texts -/

theorem c98' {xs : List Str} {sep : Str} (hn : xs.length ≤ 1048576) (ht : (joinB sep xs).length ≤ 140737488355328) {x : PV} {σ : St} (hx : Elems σ 1 x (xs.map .str)) : Ret W 98 [x, .str sep] σ (.str (joinB sep xs)) := by
  refine ret_of fun R hR => ?_
  show bindO False (extJoin _ _) _
  simp only [extJoin, listOf_elems hx, strs_map]
  rw [if_pos ⟨by omega, ht⟩]
  exact hR

theorem c102 (s : Str) (σ : St) : Ret W 102 [.str s] σ (.str (orE s)) := by
  refine ret_of fun R hR => ?_
  rw [fn102_eq]
  unfold fn102
  simp only [zz, Nat.reduceEqDiff, if_true, if_false, decide_true, decide_false, eq_self]
  cases h : (s == []) with
  | true =>
    have : orE s = EMPTYw := by simp [orE, h]
    rw [this] at hR
    simp only [zz, Nat.reduceEqDiff, if_true, if_false, decide_true, decide_false, eq_self]
    exact weakW_keep hR
  | false =>
    have : orE s = s := by simp [orE, h]
    rw [this] at hR
    simp only [zz, Nat.reduceEqDiff, if_true, if_false, decide_true, decide_false, eq_self]
    exact weakW_keep hR

theorem c103 {l : Sl Part} (hl : TameL l) (σ : St) : Ret W 103 [pvParts l] σ (.str (txtP l.2)) := by
  refine ret_of fun R hR => ?_
  rw [fn103_eq]
  unfold fn103
  obtain ⟨k, l⟩ := l
  have hlen := hl.len
  simp only at hlen
  have hv : pvParts (k, l) = .list k (l.map pvPart) := rfl
  rw [hv]
  simp only [List.length_map, zz, Nat.reduceEqDiff, if_true, if_false, decide_true, decide_false, eq_self]
  refine Lfp_up l.length (fun i x σ' => ∃ v, x = lookP [(3, v), (6, .list k (l.map pvPart)), (7, .int .i64 l.length), (8, .int .i64 i)] ∧ Grow σ.length 1 σ' v (((l.take i).map (·.2)).map PV.str) ∧ σ <+: σ') ?_ ⟨_, rfl, .nil _ _ _, List.prefix_rfl⟩
  rintro Φ i x σ' hi ⟨v, rfl, hg, hp⟩ next
  simp only [zz, Nat.reduceEqDiff, if_true, if_false, decide_true, decide_false, eq_self]
  by_cases hlt : i < l.length
  · have hgi : l[i]? = some l[i] := by simp [hlt]
    generalize l[i] = p at hgi
    have hput : vPut 2 (.agg [.bool false, .str []]) 0 (pvPart p) = some (pvPart p) := rfl
    have hpp : pvPart p = .agg [.bool p.1, .str p.2] := rfl
    simp only [hlt, encPart.index hgi, encPart.part, hput, zz, Nat.reduceEqDiff, if_true, if_false, decide_true, decide_false, eq_self]
    rw [hpp]
    have htk : ((l.take (i + 1)).map (·.2)).map PV.str = ((l.take i).map (·.2)).map PV.str ++ [PV.str p.2] := by rw [List.take_add_one, hgi]; simp
    obtain ⟨v', σ'', e1, e2, e3, _⟩ := hg.app (by_ := 16) (y := .list .full [.str p.2]) hp rfl (by simpa using sizedStr _) (by simp; omega)
    simp only [vBuildSl_one (sizedStr p.2), e1, zz, Nat.reduceEqDiff, if_true, if_false, decide_true, decide_false, eq_self]
    rw [vBin_add _ (by omega) (by omega)]
    exact next _ _ hlt ⟨v', by simp, by rw [htk]; exact e2, e3⟩
  · obtain rfl : i = l.length := by omega
    rw [List.take_length] at hg
    simp only [hlt, zz, Nat.reduceEqDiff, if_true, if_false, decide_true, decide_false, eq_self]
    have hb : (joinB [32] (l.map (·.2))).length ≤ 2688 := txtP_le hl
    refine (c98' (by simp; omega) (by omega) hg.elems).callB ?_
    exact weakW_clean hp (.base _ (.str _)) hR

end Go.Proofs.YtiniifbmeobmgaaGreatDoor
