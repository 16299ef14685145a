/- Insertion into bindings, by the reference. -/
import Derived.KernelRfl
import Derived.Test.YtiniifbmeobmgaaGreatDoorMatA
import Derived.Test.YtiniifbmeobmgaaGreatDoorAnn
import Derived.Test.YtiniifbmeobmgaaGreatDoorProg
import Derived.Test.YtiniifbmeobmgaaGreatDoorSpecS
set_option linter.unusedVariables false
set_option linter.unusedSimpArgs false
namespace Go.Proofs.YtiniifbmeobmgaaGreatDoor
open Go Go.Abs

/-! ### What has been found -/

theorem ins_len (b : Bind) : ∀ B : Binds, (ins b B).length = B.length + 1
  | [] => rfl
  | a :: B => by
    unfold ins
    split
    · simp [ins_len b B]
    · simp

end Go.Proofs.YtiniifbmeobmgaaGreatDoor

/- The reference's search for bindings. -/
set_option linter.unusedVariables false
set_option linter.unusedSimpArgs false
namespace Go.Proofs.YtiniifbmeobmgaaGreatDoor
open Go Go.Abs

/-- Binds, wherever they lie. -/
def BAt (σ : St) (e : PV) (B : Binds) : Prop := (∃ k, e = .list k (B.map pvBind)) ∨ ∃ b g, e = .sref b g 2 0 B.length ∧ σ[b]? = some (.arr g 2 (B.map pvBind))

theorem BAt.elems {σ : St} {e : PV} {B : Binds} (h : BAt σ e B) : Elems σ 2 e (B.map pvBind) := by
  rcases h with ⟨k, rfl⟩ | ⟨b, g, rfl, hb⟩
  · exact .list _ _
  · have := Elems.sref (σ := σ) (sz := 2) b g 0 2 (B.map pvBind) (B.map pvBind) hb (by simp) (by simp [List.take_of_length_le])
    simpa using this

structure OutAt (n0 : Nat) (σ : St) (ov : PV) (out : List Binds) (es : List PV) : Prop where
  grow : Grow n0 1 σ ov es
  len : es.length = out.length
  mem : ∀ (i : Nat) e B, es[i]? = some e → out[i]? = some B → BAt σ e B

theorem OutAt.nil (n0 : Nat) (σ : St) : OutAt n0 σ (.list .nil []) [] [] := ⟨.nil _ _ _, rfl, fun i e B h => by simp at h⟩

/-- Where nothing of it has changed. -/
theorem OutAt.keep {n0 : Nat} {σ σ' : St} {ov : PV} {out : List Binds} {es : List PV} (h : OutAt n0 σ ov out es) (hs : ∀ c < σ.length, σ'[c]? = σ[c]?) : OutAt n0 σ' ov out es := by
  have hget : ∀ {c : Nat} {k : Blk}, σ[c]? = some k → σ'[c]? = some k := fun {c k} hk => by rw [hs c (List.getElem?_eq_some_iff.1 hk).1]; exact hk
  refine ⟨?_, h.len, fun i e B h1 h2 => ?_⟩
  · rcases h.grow with hh | ⟨b, g, h1, h2, h3, h4⟩
    · exact .inl hh
    · exact .inr ⟨b, g, h1, h2, hget h3, h4⟩
  · rcases h.mem i e B h1 h2 with hh | ⟨b, g, h3, h4⟩
    · exact .inl hh
    · exact .inr ⟨b, g, h3, hget h4⟩

/-- One more is found. -/
theorem OutAt.app {n0 : Nat} {σ0 : St} (hn : σ0.length = n0) {σ : St} {ov e : PV} {out : List Binds} {es : List PV} {B : Binds} (h : OutAt n0 σ ov out es) (hp : σ0 <+: σ) (he : BAt σ e B) (hl : out.length ≤ 1000) :
    ∃ ov' σ', vAppend 1 24 ov (.list .full [e]) σ = some (ov', σ') ∧ OutAt n0 σ' ov' (out ++ [B]) (es ++ [e]) ∧ σ0 <+: σ' := by
  have hsz : Sized 1 e := by
    rcases he with ⟨k, rfl⟩ | ⟨b, g, rfl, _⟩
    · exact ⟨_, rfl, rfl⟩
    · exact ⟨_, rfl, rfl⟩
  subst hn
  have hel := h.len
  obtain ⟨v', σ', e1, e2, e3, e4⟩ := h.grow.app (by_ := 24) (y := .list .full [e]) hp rfl (by simpa using hsz) (by simp; omega)
  have hbk : ∀ {c g : Nat} {ys : List PV}, σ[c]? = some (.arr g 2 ys) → σ'[c]? = some (.arr g 2 ys) := fun {c g ys} hc => by
    rw [e4 c (fun b g' z o l ho hcb => ?_) (List.getElem?_eq_some_iff.1 hc).1]
    · exact hc
    · subst hcb
      rcases h.grow with ⟨hh, _⟩ | ⟨b, g2, h1, h2, h3, h4⟩
      · rw [ho] at hh; cases hh
      · rw [ho] at h2
        cases h2
        rw [h3] at hc
        simp at hc
  have hmem : ∀ {x : PV} {Y : Binds}, BAt σ x Y → BAt σ' x Y := fun {x Y} hx => by
    rcases hx with hh | ⟨b, g, h3, h4⟩
    · exact .inl hh
    · exact .inr ⟨b, g, h3, hbk h4⟩
  refine ⟨v', σ', e1, ⟨e2, by simp [hel], fun i x Y h1 h2 => ?_⟩, e3⟩
  by_cases hi : i < es.length
  · rw [List.getElem?_append_left hi] at h1
    rw [List.getElem?_append_left (by omega)] at h2
    exact hmem (h.mem i x Y h1 h2)
  · rw [List.getElem?_append_right (by omega)] at h1
    rw [List.getElem?_append_right (by omega)] at h2
    have : i - es.length = 0 := by
      cases hh : i - es.length with
      | zero => rfl
      | succ j => rw [hh] at h1; simp at h1
    rw [this] at h1
    rw [show i - out.length = 0 by omega] at h2
    simp at h1 h2
    subst h1 h2
    exact hmem he

theorem tot_sub (ws : List Str) (a n : Nat) : tot ((ws.drop a).take n) ≤ tot ws := by
  have h1 := tot_take (ws.drop a) n
  have h2 := tot_app (ws.take a) (ws.drop a)
  rw [List.take_append_drop] at h2
  omega

theorem drop_take_eq (ws : List Str) (a b : Nat) : (ws.take b).drop a = (ws.drop a).take (b - a) := by
  rw [List.drop_take]

end Go.Proofs.YtiniifbmeobmgaaGreatDoor

/- The reference's search finds all bindings, up to one more than may be. -/
set_option linter.unusedVariables false
set_option linter.unusedSimpArgs false
namespace Go.Proofs.YtiniifbmeobmgaaGreatDoor
open Go Go.Abs

theorem head_strs (l : List Str) : headSized 1 (l.map PV.str) = true := headSized_of fun z hz => by
  obtain ⟨b, _, rfl⟩ := List.mem_map.1 hz
  exact sizedStr b
theorem sub_words (wk : LK) (ws : List Str) {a b : Nat} (h1 : a ≤ b) (h2 : b ≤ ws.length) : ∃ k, vSubSl 1 (.list wk (ws.map .str)) (some (.int .i64 (a : Nat))) (some (.int .i64 (b : Nat))) = some (.list k (((ws.drop a).take (b - a)).map .str)) := by
  refine ⟨wk.sub (b == ws.length), ?_⟩
  rw [← drop_take_eq]
  simp [vSubSl, bound, h1, h2, head_strs, List.map_take, List.map_drop]

/-- What a part's turn adds. -/
def addB (ws : List Str) (fp : Part → Nat → Nat → Bool) (p : Part) (l : List Part) (a : Nat) (B : Binds) (n : Nat) : List Binds := if fp p a (a + n) then (match stepA p (jn ws a n) B with
    | some B' => allB ws fp l (a + n) B'
    | none => []) else []

theorem allB_cons (ws : List Str) (fp : Part → Nat → Nat → Bool) (p : Part) (l : List Part) (a : Nat) (B : Binds) : allB ws fp (p :: l) a B = (List.range (ws.length + 1 - a)).flatMap (addB ws fp p l a B) := by
  rw [allB]
  rfl

section
variable {σ0 : St} {A : Nat} {bm : Nat → Nat} {bc : Nat → Nat → Nat} {g : Gram} {ws : List Str} {wk : LK} {T : Tab}

end

end Go.Proofs.YtiniifbmeobmgaaGreatDoor
