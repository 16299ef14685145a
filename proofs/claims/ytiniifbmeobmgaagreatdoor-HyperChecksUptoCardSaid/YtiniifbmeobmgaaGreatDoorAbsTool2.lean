/- Slices, wherever they lie; slices that grow. -/
import Derived.Test.YtiniifbmeobmgaaGreatDoorAbsTool
set_option linter.unusedVariables false
set_option linter.unusedSimpArgs false
namespace Go.Abs

/-- What a slice holds. -/
inductive Elems (σ : St) (sz : Nat) : PV → List PV → Prop where
  | list (k xs) : Elems σ sz (.list k xs) xs
  | sref (b g off z ys xs) : σ[b]? = some (.arr g z ys) → off + xs.length ≤ ys.length → xs = (ys.drop off).take xs.length → Elems σ sz (.sref b g sz off xs.length) xs

theorem Elems.len {σ : St} {sz : Nat} {x : PV} {xs : List PV} (h : Elems σ sz x xs) (σ' : St) : vLen .sl x σ' = some (.int .i64 xs.length) := by
  cases h <;> rfl

/-- A member of a slice. -/
theorem Elems.at_ {σ : St} {sz : Nat} {x : PV} {xs : List PV} (h : Elems σ sz x xs) {i : Nat} {e : PV} {cs : List PV} {k : IntKind} (he : xs[i]? = some e) (hc : e.cells? = some cs) (hl : cs.length = sz) :
    ∃ p, vIndex sz x (.int k i) = some p ∧ (∀ ag s, vLoad ag s p σ = vPart ag s e 0) ∧ ∀ o, ∃ q, vField o p = some q ∧ ∀ ag s, vLoad ag s q σ = vPart ag s e o := by
  cases h with
  | list k' xs =>
    exact ⟨_, vIndex_list k he hc hl, fun _ _ => rfl, fun o => ⟨_, rfl, fun ag s => by rw [Nat.zero_add]; rfl⟩⟩
  | sref b g off z ys xs hb hfit hxs =>
    have hil : i < xs.length := (List.getElem?_eq_some_iff.1 he).1
    have hy : ys[off + i]? = some e := by
      rw [hxs, List.getElem?_take, if_pos hil, List.getElem?_drop] at he
      exact he
    refine ⟨.ptr b g (off + i) 0, ?_, fun ag s => by simp [vLoad, hb, hy], fun o => ⟨.ptr b g (off + i) o, by simp [vField], fun ag s => by simp [vLoad, hb, hy]⟩⟩
    simp only [vIndex]
    rw [if_pos ⟨by omega, by omega, trivial⟩]
    simp

theorem Elems.elems {σ : St} {sz : Nat} {x : PV} {xs : List PV} (h : Elems σ sz x xs) : vElems x σ = some xs := by
  cases h with
  | list => rfl
  | sref b g off z ys xs hb hfit hxs =>
    simp only [vElems, hb]
    rw [if_pos ⟨trivial, hfit⟩, ← hxs]

/-- A slice stays what it is where its block stays. -/
theorem Elems.pre {σ σ' : St} {sz : Nat} {x : PV} {xs : List PV} (h : Elems σ sz x xs) (hp : σ <+: σ') : Elems σ' sz x xs := by
  cases h with
  | list => exact .list _ _
  | sref b g off z ys xs hb hfit hxs =>
    obtain ⟨t, rfl⟩ := hp
    exact .sref b g off z ys xs (by rw [List.getElem?_append_left (List.getElem?_eq_some_iff.1 hb).1]; exact hb) hfit hxs

def Sized (sz : Nat) (x : PV) : Prop := ∃ cs, x.cells? = some cs ∧ cs.length = sz

theorem headSized_of {sz : Nat} {xs : List PV} (h : ∀ x ∈ xs, Sized sz x) : headSized sz xs = true := by
  cases xs with
  | nil => rfl
  | cons x xs =>
    obtain ⟨cs, h1, h2⟩ := h x (by simp)
    simp [headSized, h1, h2]

/-- A slice that grows: it is nil, or a block of its own. -/
def Grow (n0 sz : Nat) (σ : St) (x : PV) (ys : List PV) : Prop :=
  (x = .list .nil [] ∧ ys = []) ∨ ∃ b g, n0 ≤ b ∧ x = .sref b g sz 0 ys.length ∧ σ[b]? = some (.arr g sz ys) ∧ ys ≠ []

theorem Grow.nil (n0 sz : Nat) (σ : St) : Grow n0 sz σ (.list .nil []) [] := .inl ⟨rfl, rfl⟩

theorem Grow.elems {n0 sz : Nat} {σ : St} {x : PV} {ys : List PV} (h : Grow n0 sz σ x ys) : Elems σ sz x ys := by
  rcases h with ⟨rfl, rfl⟩ | ⟨b, g, _, rfl, hb, _⟩
  · exact .list _ _
  · exact .sref b g 0 sz ys ys hb (by omega) (by simp)

theorem pre_set {σ0 σ : St} (h : σ0 <+: σ) {b : Nat} (hb : σ0.length ≤ b) (k : Blk) : σ0 <+: σ.set b k := by
  obtain ⟨t, rfl⟩ := h
  rw [List.set_append_right _ _ hb]
  exact ⟨_, rfl⟩

theorem pre_app {σ0 σ : St} (h : σ0 <+: σ) (g : St) : σ0 <+: σ ++ g := h.trans ⟨g, rfl⟩

theorem Grow.app {σ0 : St} {sz by_ : Nat} {σ : St} {x y : PV} {ys zs : List PV} (h : Grow σ0.length sz σ x ys) (hp : σ0 <+: σ) (hy : vElems y σ = some zs) (hz : ∀ z ∈ zs, Sized sz z) (hr : (ys.length + zs.length) * by_ ≤ 140737488355328) :
    ∃ x' σ', vAppend sz by_ x y σ = some (x', σ') ∧ Grow σ0.length sz σ' x' (ys ++ zs) ∧ σ0 <+: σ' ∧ ∀ c, (∀ b g z o l, x = .sref b g z o l → c ≠ b) → c < σ.length → σ'[c]? = σ[c]? := by
  have hroom : roomy (ys.length + zs.length) by_ = true := by simp [roomy, hr]
  rcases h with ⟨rfl, rfl⟩ | ⟨b, g, hb0, rfl, hb, hne⟩
  · cases zs with
    | nil => exact ⟨.list .nil [], σ, by simp [vAppend, hy], .inl ⟨rfl, rfl⟩, hp, fun _ _ _ => rfl⟩
    | cons z zs =>
      refine ⟨.sref σ.length 0 sz 0 (z :: zs).length, σ ++ [.arr 0 sz (z :: zs)], ?_, .inr ⟨σ.length, 0, hp.length_le, by simp, by simp, by simp⟩, pre_app hp _, fun c _ hc => by rw [List.getElem?_append_left hc]⟩
      simp only [List.length_nil] at hroom
      simp only [vAppend, hy]
      simp only [List.isEmpty_cons, Bool.false_eq_true, if_false, List.length_nil]
      rw [if_pos ⟨by simp, hroom, rfl, headSized_of hz⟩]
      simp
  · have hbl : b < σ.length := (List.getElem?_eq_some_iff.1 hb).1
    cases zs with
    | nil => exact ⟨_, σ, by simp [vAppend, hy]; rfl, .inr ⟨b, g, hb0, by simp, by simpa using hb, by simpa using hne⟩, hp, fun _ _ _ => rfl⟩
    | cons z zs =>
      refine ⟨.sref b (g + 1) sz 0 (ys.length + (z :: zs).length), σ.set b (.arr (g + 1) sz (ys ++ z :: zs)), ?_, .inr ⟨b, g + 1, hb0, by simp, by simp [hbl], by simp⟩, pre_set hp hb0 _, fun c hc _ => ?_⟩
      · simp only [vAppend, hy, hb]
        simp only [List.isEmpty_cons, Bool.false_eq_true, if_false]
        rw [if_pos ⟨trivial, trivial, by omega, hroom, headSized_of hz⟩]
        simp
      · rw [List.getElem?_set, if_neg (Ne.symm (hc b g sz 0 ys.length rfl))]

/-- What a slice that grew is when it is handed back. -/
def growV (ys : List PV) : PV := match ys with
  | [] => .list .nil []
  | _ => .list .part ys

theorem growV_list (ys : List PV) : ∃ k, growV ys = .list k ys := by
  cases ys with
  | nil => exact ⟨_, rfl⟩
  | cons y ys => exact ⟨_, rfl⟩

theorem Grow.frz {n0 sz : Nat} {σ : St} {x : PV} {ys : List PV} (h : Grow n0 sz σ x ys) (hu : ∀ y ∈ ys, Frz σ n0 y y) : Frz σ n0 x (growV ys) := by
  rcases h with ⟨rfl, rfl⟩ | ⟨b, g, hb0, rfl, hb, hne⟩
  · exact .list _ _ _ rfl (by simp)
  · cases ys with
    | nil => exact absurd rfl hne
    | cons y ys =>
      refine .sref b g sz 0 _ g sz _ _ hb rfl hb0 rfl (by omega) fun i a c hi ha hc => ?_
      rw [Nat.zero_add, hc] at ha
      cases ha
      exact hu a (List.mem_of_getElem? hc)

theorem newW_eq (sz : Nat) (z : PV) (σ : St) (K : PV → St → Prop) : newW sz z σ K = K (.ptr σ.length 0 0 0) (σ ++ [.arr 0 sz [z]]) := rfl

/-- A variable that has just been made. -/
theorem new_get (σ : St) (k : Blk) : (σ ++ [k])[σ.length]? = some k := by simp

theorem new_store {σ : St} {sz sz' : Nat} {z x : PV} {cs zs : List PV} (hx : x = .agg cs) (hz : z = .agg zs) (hl : cs.length = sz') (hl' : zs.length = sz') : vStore sz' (.ptr σ.length 0 0 0) x (σ ++ [.arr 0 sz [z]]) = some (σ ++ [.arr 0 sz [x]]) := by
  subst hx hz
  simp [vStore, vPut, PV.cells?, hl, hl', setRange]

theorem vPut_agg {sz : Nat} {zs cs : List PV} (h1 : zs.length = sz) (h2 : cs.length = sz) : vPut sz (.agg zs) 0 (.agg cs) = some (.agg cs) := by
  simp [vPut, PV.cells?, h1, h2, setRange]

theorem vBuildSl_one {sz : Nat} {z x : PV} (h : Sized sz x) : vBuildSl sz (List.replicate 1 z) [(0, x)] = some [x] := by
  obtain ⟨cs, h1, h2⟩ := h
  simp [vBuildSl, h1, h2]

end Go.Abs
