import Derived.Test.YteikomnahelckaaGreatDoorAbsExtOk
set_option linter.unusedVariables false
set_option linter.unusedSimpArgs false
namespace Go.Proofs.YteikomnahelckaaGreatDoor
open Go Go.Abs Go.RowKit Go.Shelf
def But (w w' : World) (C : Nat) : Prop := w'.os = w.os ∧ w'.tape = w.tape ∧ w'.output = w.output ∧ w'.heap.size = w.heap.size ∧ ∀ k,k ≠ C → w'.heap[k]? = w.heap[k]?
theorem But.freeze (w : World) (g n : Nat) : But w (w.drew.freeze ⟨g,0,none⟩ n) g := by
 unfold World.freeze
 split
 ·exact ⟨rfl,rfl,rfl,rfl,fun _ _ => rfl⟩
 ·refine ⟨rfl,rfl,rfl,?_,fun k hk => ?_⟩
  ·show (w.heap.modify _ _).size = _
   simp
  simp only [Array.getElem?_modify]
  rw [if_neg (by omega)]
  rfl
theorem But.setCell (w : World) (g o : Nat) (v : Value) : But w (w.setCell ⟨g,o,none⟩ v) g := by
 unfold World.setCell
 refine ⟨rfl,rfl,rfl,by simp,fun k hk => ?_⟩
 simp only [Array.getElem?_modify]
 rw [if_neg (by omega)]
theorem dead_sound {G : Gh} {N : Base} {σ : St} {w w' : World} {c C : Nat} {k : Blk} (hi : Inv G N σ w) (hc : σ[c]? = some k) (hC : baseOf G c k = some C) (hw : But w w' C) :
  Inv G N (σ.set c .dead) w' ∧ Ext G σ w G (σ.set c .dead) w' := by
 obtain ⟨h1,h2,h3,h4,h5⟩ := hw
 have hcl : c < σ.length := (List.getElem?_eq_some_iff.1 hc).1
 have hlt := hi.lt_of_own ⟨c,k,hc,hC⟩
 have hget : ∀ b k',(σ.set c .dead)[b]? = some k' → k' = .dead ∨ (b ≠ c ∧ σ[b]? = some k') := by
  intro b k' hb
  rw [List.getElem?_set] at hb
  split at hb
  ·rename_i he
   first
    | exact .inl (Option.some.inj hb).symm
    | (split at hb
       · exact .inl (Option.some.inj hb).symm
       · simp at hb)
  ·rename_i hne; exact .inr ⟨fun e => hne e.symm,hb⟩
 have hown : ∀ B,ownB G (σ.set c .dead) B → ownB G σ B ∧ B ≠ C := by
  rintro B ⟨b,k',hb,hB⟩
  rcases hget b k' hb with rfl | ⟨hne,hb⟩
  ·simp [baseOf] at hB
  ·exact ⟨⟨b,k',hb,hB⟩,fun e => hne (hi.inj b c k' k C hb hc (e ▸ hB) hC)⟩
 refine ⟨⟨?_,?_,?_,?_,?_,?_,?_,?_,?_,?_,hi.bas⟩,⟨.refl G,h1,h2,h3,by omega,?_,fun B hB => .inl (hown B hB).1,fun B o v hv => .inl hv,by simp⟩⟩
 ·intro B o v hv
  have hne : B ≠ C := fun e => by
   have := hi.sep B o (e ▸ ⟨c,k,hc,hC⟩)
   rw [this] at hv
   cases hv
  rw [cell_of_heap_eq (h5 B hne)]
  exact hi.imm B o v hv
 ·intro b g y hy
  simpa using hi.dom b g y hy
 ·intro b k' hb
  rcases hget b k' hb with rfl | ⟨hne,hb⟩
  ·trivial
  ·exact (hi.blk b k' hb).step (.refl G) fun B hB => h5 B fun e => hne (hi.inj b c k' k C hb hc (e ▸ hB) hC)
 ·intro b b' k1 k2 B hb hb' hB hB'
  rcases hget b k1 hb with rfl | ⟨_,hb⟩
  ·simp [baseOf] at hB
  rcases hget b' k2 hb' with rfl | ⟨_,hb'⟩
  ·simp [baseOf] at hB'
  exact hi.inj b b' k1 k2 B hb hb' hB hB'
 ·intro B o hB
  exact hi.sep B o (hown B hB).1
 ·rw [h4]; exact hi.big
 ·intro b g z xs hb
  rcases hget b _ hb with h | ⟨_,hb⟩
  ·cases h
  ·exact hi.gen b g z xs hb
 ·intro b n y hy
  simpa using hi.domH b n y hy
 ·intro b v es hb
  rcases hget b _ hb with h | ⟨_,hb⟩
  ·cases h
  ·exact hi.genH b v es hb
 ·intro k' hk
  rw [h5 k' (by have := hlt.2; omega)]
  exact hi.old k' hk
 ·intro k' hk hn _
  exact h5 k' fun e => hn (e ▸ ⟨c,k,hc,hC⟩)
theorem copy_fresh (b : Nat) (w : World) (h0 : w.cell? ⟨b,0,none⟩ = some (.pointer none)) (hsh : w.shape? b = some (133,2)) (hfz : w.frozen? ⟨b,0,none⟩ = false) :
  Calls Tryz.prog 125 #[.pointer (some ⟨b,0,none⟩)] w fun e w' => e = .returned (.tuple #[]) ∧ w' = w.setCell ⟨b,0,none⟩ (.pointer (some ⟨b,0,none⟩)) :=
 Any.Builder_copyCheck_fresh { Tryz.lays156 with } Tryz.Builder_Extra_156.toX72 b w h0 hsh hfz
theorem cellAt {w : World} {g o : Nat} {cs : Array Value} {t : TypeId} {fz : Nat × Nat} (h : w.heap[g]? = some (.cells cs t fz)) : w.cell? ⟨g,o,none⟩ = cs[o]? := by
 simp [World.cell?,h]
theorem notFrozen {w : World} {g o : Nat} {cs : Array Value} {t : TypeId} {fz : Nat × Nat} {n : Nat} (h : w.heap[g]? = some (.cells cs t fz)) (hf : FzOk fz n) (ho : o < n) : w.frozen? ⟨g,o,none⟩ = false := by
 rcases hf with rfl | hf
 ·simp [World.frozen?,h]
 ·simp [World.frozen?,h]
  omega
theorem copy_used (b : Nat) (w : World) (h0 : w.cell? ⟨b,0,none⟩ = some (.pointer (some ⟨b,0,none⟩))) :
  Calls Tryz.prog 125 #[.pointer (some ⟨b,0,none⟩)] w fun e w' => e = .returned (.tuple #[]) ∧ w' = w :=
 Any.Builder_copyCheck_used { Tryz.lays156 with } Tryz.Builder_Extra_156.toX72 b w h0
set_option maxHeartbeats 1000000 in
set_option maxRecDepth 100000 in
theorem string_nil (b : Nat) (w : World) (h1 : w.cell? ⟨b,1,none⟩ = some (.slice none 0 0)) :
  Calls Tryz.prog 83 #[.pointer (some ⟨b,0,none⟩)] w fun e w' => e = .returned (.string ⟨#[]⟩) ∧ Below w.heap.size w w' := by
 have c1 : w.drew.cell? ⟨b,1,none⟩ = some (.slice none 0 0) := h1
 have hSD : (Builtin.unsafeSliceData_ #[51] 188 #[.slice none 0 0]).run Tryz.prog w.drew = .ok (.pointer none) w.drew := Lib.run_unsafeSliceData_nil _ _ _ _ _
 have hUS : (Builtin.unsafeString_ #[188,3] 9 #[.pointer none,.int .i64 0]).run Tryz.prog w.drew = .ok (.string .empty) w.drew := Lib.run_unsafeString_none _ _ _ _ _
 go_enter Tryz.func83,Tryz.ntmps83
 go_wp2
 go_region
 all_goals (go_wp2; go_ret; exact ⟨rfl,below_drewN w 1⟩)
set_option maxHeartbeats 1000000 in
set_option maxRecDepth 100000 in
theorem string_row (b g cap : Nat) (cur : Array Value) (fz : Nat × Nat) (l : List UInt8) (w : World) (hbk : w.cell? ⟨b,1,none⟩ = some (.slice (some ⟨g,0,none⟩) l.length cap))
  (hg : w.heap[g]? = some (.cells cur 5 fz)) (h0 : l ≠ []) (hcap : l.length ≤ cap) (hcur : l.length ≤ cur.size) (hmax : l.length ≤ 140737488355328)
  (hcell : ∀ (j : Nat) (x : UInt8),l[j]? = some x → cur[j]? = some (Value.int .u8 x.toNat)) :
  Calls Tryz.prog 83 #[.pointer (some ⟨b,0,none⟩)] w fun e w' => e = .returned (.string ⟨l.toArray⟩) ∧ But w w' g := by
 have hl0 : l.length ≠ 0 := by simpa using h0
 have c1 : w.drew.cell? ⟨b,1,none⟩ = some (.slice (some ⟨g,0,none⟩) l.length cap) := hbk
 have hSD : (Builtin.unsafeSliceData_ #[51] 188 #[.slice (some ⟨g,0,none⟩) l.length cap]).run Tryz.prog w.drew = .ok (.pointer (some ⟨g,0,none⟩)) w.drew :=
  Lib.run_unsafeSliceData_row _ _ _ _ _ _ (by omega)
 have hUS : (Builtin.unsafeString_ #[188,3] 9 #[.pointer (some ⟨g,0,none⟩),.int .i64 l.length]).run Tryz.prog w.drew = .ok (.string ⟨l.toArray⟩) (w.drew.freeze ⟨g,0,none⟩ l.length) := by
  refine Lib.run_unsafeString_row w.drew 188 3 9 5 Tryz.lays156.t127 Tryz.Builder_Extra_156.cellsByte g cur.size (by have hg' : w.drew.heap[g]? = some (.cells cur 5 fz) := hg; simp [World.shape?,hg']) l h0 hcur (by omega) ?_
  intro j x hx
  have hg' : w.drew.heap[g]? = some (.cells cur 5 fz) := hg
  have := hcell j x hx
  have ha : (⟨g,0,none⟩ : Addr).add j = ⟨g,j,none⟩ := by
   unfold Addr.add
   by_cases hj : j = 0
   ·subst hj; simp
   ·simp [hj]
  rw [ha,cellAt hg']
  exact this
 go_enter Tryz.func83,Tryz.ntmps83
 go_wp2
 go_region
 all_goals (go_wp2; go_ret; exact ⟨rfl,But.freeze w g _⟩)
end Go.Proofs.YteikomnahelckaaGreatDoor
