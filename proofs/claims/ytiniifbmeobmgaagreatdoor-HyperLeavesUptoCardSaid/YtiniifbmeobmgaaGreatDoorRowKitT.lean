/- Trees as arguments of rows. -/
import Derived.Test.YtiniifbmeobmgaaGreatDoorRowKitG
import Derived.Test.YtiniifbmeobmgaaGreatDoorTrA
set_option linter.unusedVariables false
set_option linter.unusedSimpArgs false
namespace Go.Proofs.YtiniifbmeobmgaaGreatDoor
open Go Go.Abs Go.ChangeShapes Go.WideShapes Go.ChangeAt Go.RowKit

section
variable {H : Type} {encH : TypeId × Value → H} {W : World}

theorem trod_struct4 {P : Program} {t t0 t1 t2 t3 : TypeId} {f0 f1 f2 f3 : Field} {fuel : Nat} {c0 c1 c2 c3 : Value} {x : DataW H × List MemPlace} (ht : P.underlying t = some (.struct #[f0, f1, f2, f3]))
    (a0 : f0.type = t0) (a1 : f1.type = t1) (a2 : f2.type = t2) (a3 : f3.type = t3) (o0 : f0.offset = 0) (o1 : f1.offset = 1) (o2 : f2.offset = 2) (o3 : f3.offset = 3) (k0 : P.cellsOf t0 = 1) (k1 : P.cellsOf t1 = 1) (k2 : P.cellsOf t2 = 1) (k3 : P.cellsOf t3 = 1)
    (h : DataW.trod encH P W 0 (fun _ => true) true fuel t [c0, c1, c2, c3] = some x) :
    ∃ y0 y1 y2 y3 n, fuel = n + 1 ∧ x = (.agg [y0.1, y1.1, y2.1, y3.1], y0.2 ++ (y1.2 ++ (y2.2 ++ y3.2))) ∧ DataW.trod encH P W 0 (fun _ => true) true n t0 [c0] = some y0 ∧ DataW.trod encH P W 0 (fun _ => true) true n t1 [c1] = some y1 ∧
      DataW.trod encH P W 0 (fun _ => true) true n t2 [c2] = some y2 ∧ DataW.trod encH P W 0 (fun _ => true) true n t3 [c3] = some y3 := by
  obtain ⟨xs, n, rfl, rfl, _, hlen, hf⟩ := DataW.trod_struct ht h
  match xs, hlen with
  | [y0, y1, y2, y3], _ =>
    have h0 := hf 0 f0 rfl
    have h1 := hf 1 f1 rfl
    have h2 := hf 2 f2 rfl
    have h3 := hf 3 f3 rfl
    rw [a0, o0, k0] at h0
    rw [a1, o1, k1] at h1
    rw [a2, o2, k2] at h2
    rw [a3, o3, k3] at h3
    exact ⟨y0, y1, y2, y3, n, rfl, by simp, h0, h1, h2, h3⟩

mutual
def dTree : PTree → DataW H → Prop
  | .node r n b k ks, d => ∃ x0 x1 x2 x3, d = .agg [x0, x1, x2, x3] ∧ (x0 = .lit (.int .i64 r) ∧ (Lit.int .i64 r).wf = true) ∧ dStr n x1 ∧ datSl dBind b x2 ∧ ((x3 = .nil ∧ k = .nil ∧ ks = []) ∨ ∃ es sp, x3 = .slice es sp ∧ k = .part ∧ dTrees ks es)
def dTrees : List PTree → List (DataW H) → Prop
  | [], [] => True
  | t :: ts, e :: es => dTree t e ∧ dTrees ts es
  | [], _ :: _ => False
  | _ :: _, [] => False
end

theorem dTrees_of : ∀ {ks : List PTree} {es : List (DataW H)}, ks.length = es.length → (∀ (i : Nat) a e, ks[i]? = some a → es[i]? = some e → dTree a e) → dTrees ks es
  | [], [], _, _ => trivial
  | t :: ts, e :: es, hl, h => ⟨h 0 t e rfl rfl, dTrees_of (by simpa using hl) fun i a e ha he => h (i + 1) a e (by simpa using ha) (by simpa using he)⟩
  | [], _ :: _, hl, _ => by simp at hl
  | _ :: _, [], hl, _ => by simp at hl

theorem openTree : ∀ (fuel : Nat) (cs : List Value) (x : DataW H × List MemPlace), cs.length = 4 → DataW.trod encH Tryz.prog W 0 (fun _ => true) true fuel 89 cs = some x →
    ∃ a v, v.cells.toList = cs ∧ RelV (Gh.all W) (pvT a) v ∧ (∀ u ∈ cs, u.oneCell' = true) ∧ dTree a x.1 := by
  intro fuel
  induction fuel using Nat.strongRecOn with
  | ind fuel ih =>
    intro cs x hl h
    match cs, hl with
    | [c0, c1, c2, c3], _ =>
    have k0 : Tryz.prog.cellsOf 3 = 1 := by kernel_rfl
    have k1 : Tryz.prog.cellsOf 9 = 1 := by kernel_rfl
    have k2 : Tryz.prog.cellsOf 59 = 1 := by kernel_rfl
    have k3 : Tryz.prog.cellsOf 87 = 1 := by kernel_rfl
    have k4 : Tryz.prog.cellsOf 89 = 4 := by kernel_rfl
    obtain ⟨y0, y1, y2, y3, n, rfl, rfl, h0, h1, h2, h3⟩ := trod_struct4 Tryz.underlying89 (t0 := 3) (t1 := 9) (t2 := 59) (t3 := 87) rfl rfl rfl rfl rfl rfl rfl rfl k0 k1 k2 k3 h
    obtain ⟨r, v0, e0, r0, o0, d0⟩ := (opens_int (encH := encH) (P := Tryz.prog) (W := W) (t := 3) (k := .i64) Tryz.underlying3 k0).open_ n [c0] y0 rfl h0
    obtain ⟨nm, v1, e1, r1, o1, d1⟩ := (opens_str (encH := encH) (P := Tryz.prog) (W := W) (t := 9) Tryz.underlying9 k1).open_ n [c1] y1 rfl h1
    obtain ⟨bs, v2, e2, r2, o2, d2⟩ := (opensBinds (encH := encH) (W := W)).open_ n [c2] y2 rfl h2
    obtain ⟨⟨k, ks⟩, v3, e3, r3, o3, d3⟩ := slice_open (enc := pvT) (dat := dTree) Tryz.underlying87 (by decide) k4 n (fun m hm cs x hc hx => ih m (by omega) cs x hc hx) _ _ rfl h3
    refine ⟨.node r nm bs k ks, .agg ((v0.cells ++ v1.cells) ++ (v2.cells ++ v3.cells)), ?_, ?_, ?_, ?_⟩
    · show ((v0.cells ++ v1.cells) ++ (v2.cells ++ v3.cells)).toList = _
      rw [Array.toList_append, Array.toList_append, Array.toList_append, e0, e1, e2, e3]
      rfl
    · have := rel_pair (rel_pair r0 r1 rfl rfl) (rel_pair r2 r3 rfl rfl) rfl rfl
      unfold pvT
      rw [pvTs_map]
      exact this
    · intro u hu
      simp only [List.mem_cons, List.not_mem_nil, or_false] at hu
      rcases hu with rfl | rfl | rfl | rfl
      · exact o0 _ (by simp)
      · exact o1 _ (by simp)
      · exact o2 _ (by simp)
      · exact o3 _ (by simp)
    · refine ⟨y0.1, y1.1, y2.1, y3.1, rfl, d0, d1, d2, ?_⟩
      rcases d3 with ⟨h, h'⟩ | ⟨es, sp, h, hk, hlk, hr⟩
      · cases h'
        exact .inl ⟨h, rfl, rfl⟩
      · exact .inr ⟨es, sp, h, hk, dTrees_of hlk hr⟩

theorem opensTree : Opens encH Tryz.prog W pvT dTree 89 4 := ⟨by kernel_rfl, fun t => by cases t; exact ⟨_, rfl, rfl⟩, openTree⟩

abbrev dGiven (p : Str × PTree) (d : DataW H) : Prop := ∃ x y, d = .agg [x, y] ∧ dStr p.1 x ∧ dTree p.2 y
theorem opensGiven : Opens encH Tryz.prog W (encPair PV.str pvT) dGiven 91 5 :=
  opens_pair (e0 := PV.str) (e1 := pvT) (t0 := 9) (t1 := 89) (s0 := 1) (s1 := 4) Tryz.underlying91 (by kernel_rfl) rfl rfl rfl rfl (opens_str Tryz.underlying9 (by kernel_rfl)) opensTree

theorem pvGiven_eq (n : Str) (t : PTree) : encPair PV.str pvT (n, t) = pvGiven (n, t) := by cases t; rfl

theorem bulk_four {a b c e : DataW H} {n : Nat} (hb : Rows.uptoBulk (.agg [a, b, c, e] : DataW H) ≤ n) : Rows.uptoBulk a ≤ n ∧ Rows.uptoBulk b ≤ n ∧ Rows.uptoBulk c ≤ n ∧ Rows.uptoBulk e + 1 ≤ n := by
  have := bulk_one a
  simp only [Rows.uptoBulk, Rows.uptoBulkAll] at hb
  omega

theorem tree_bulkL {n : Nat} : ∀ (ks : List PTree) (es : List (DataW H)), (∀ t ∈ ks, ∀ (d : DataW H) n, dTree t d → Rows.uptoBulk d ≤ n → n ≤ 1048576 → sizeT t ≤ n ∧ okT t) → dTrees ks es → Rows.uptoBulkAll es ≤ n → n ≤ 1048576 → sizeTs ks ≤ n ∧ okTs ks
  | [], [], _, _, _, _ => ⟨Nat.zero_le _, trivial⟩
  | t :: ts, e :: es, h, hd, hb, hn => by
    simp only [Rows.uptoBulkAll] at hb
    obtain ⟨h1, h2⟩ := h t (by simp) e (Rows.uptoBulk e) hd.1 (Nat.le_refl _) (by omega)
    obtain ⟨h3, h4⟩ := tree_bulkL (n := Rows.uptoBulkAll es) ts es (fun t ht => h t (by simp [ht])) hd.2 (Nat.le_refl _) (by omega)
    refine ⟨?_, h2, h4⟩
    simp only [sizeTs]
    omega
  | [], _ :: _, _, hd, _, _ => hd.elim
  | _ :: _, [], _, hd, _, _ => hd.elim

theorem tree_bulk : ∀ (t : PTree) (d : DataW H) (n : Nat), dTree t d → Rows.uptoBulk d ≤ n → n ≤ 1048576 → sizeT t ≤ n ∧ okT t := PTree.ind fun r nm b k ks ih d n hd hb hn => by
  obtain ⟨x0, x1, x2, x3, rfl, _, h1, h2, h3⟩ := hd
  obtain ⟨b0, b1, b2, b3⟩ := bulk_four hb
  obtain ⟨m1, m2⟩ := bulk_sl h2 b2
  have hbs : ∀ x ∈ b.2, x.1.length ≤ 1048576 ∧ x.2.length ≤ 1048576 := fun x hx => by
    obtain ⟨e, ⟨y, z, rfl, hy, hz⟩, he⟩ := m2 x hx
    obtain ⟨q1, q2⟩ := bulk_two he
    have := bulk_str hy q1
    have := bulk_str hz q2
    omega
  have hnm := bulk_str h1 b1
  rcases h3 with ⟨rfl, rfl, rfl⟩ | ⟨es, sp, rfl, rfl, h3⟩
  · have := bulk_one x0
    refine ⟨by simp only [sizeT, sizeTs]; omega, by omega, by omega, hbs, trivial⟩
  · obtain ⟨m, rfl⟩ : ∃ m, n = m + 1 := ⟨n - 1, by omega⟩
    simp only [Rows.uptoBulk] at b3
    obtain ⟨h5, h6⟩ := tree_bulkL (n := m) ks es ih h3 (by omega) (by omega)
    refine ⟨by simp only [sizeT]; omega, by omega, by omega, hbs, h6⟩

theorem given_bulk {p : Str × PTree} {d : DataW H} (h : dGiven p d) (hb : Rows.uptoBulk d ≤ 1048576) : p.1.length ≤ 1048576 ∧ sizeT p.2 ≤ 1048576 ∧ okT p.2 := by
  obtain ⟨x, y, rfl, hx, hy⟩ := h
  obtain ⟨b1, b2⟩ := bulk_two hb
  exact ⟨bulk_str hx b1, tree_bulk p.2 y _ hy b2 (Nat.le_refl _)⟩
end

end Go.Proofs.YtiniifbmeobmgaaGreatDoor
