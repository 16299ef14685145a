import Derived.Test.YteikomnahelckaaGreatDoorAbsExtOk
set_option linter.unusedVariables false
set_option linter.unusedSimpArgs false
namespace Go.Proofs.YteikomnahelckaaGreatDoor
open Go Go.Abs Go.RowKit Go.Shelf
def But (w w' : World) (C : Nat) : Prop := w'.os = w.os ∧ w'.tape = w.tape ∧ w'.output = w.output ∧ w'.heap.size = w.heap.size ∧ ∀ k,k ≠ C → w'.heap[k]? = w.heap[k]?
theorem But.freeze (w : World) (g n : Nat) : But w (w.drew.freeze ⟨g,0,none⟩ n) g := by
 unfold World.freeze
 split
 ·exact ⟨rfl,rfl,rfl,rfl,fun _ _ => rfl⟩
 ·refine ⟨rfl,rfl,rfl,?_,fun k hk => ?_⟩
  ·show (w.heap.modify _ _).size = _
   simp
  simp only [Array.getElem?_modify]
  rw [if_neg (by omega)]
  rfl
theorem But.setCell (w : World) (g o : Nat) (v : Value) : But w (w.setCell ⟨g,o,none⟩ v) g := by
 unfold World.setCell
 refine ⟨rfl,rfl,rfl,by simp,fun k hk => ?_⟩
 simp only [Array.getElem?_modify]
 rw [if_neg (by omega)]
theorem dead_sound {G : Gh} {N : Base} {σ : St} {w w' : World} {c C : Nat} {k : Blk} (hi : Inv G N σ w) (hc : σ[c]? = some k) (hC : baseOf G c k = some C) (hw : But w w' C) :
  Inv G N (σ.set c .dead) w' ∧ Ext G σ w G (σ.set c .dead) w' := by
 obtain ⟨h1,h2,h3,h4,h5⟩ := hw
 have hcl : c < σ.length := (List.getElem?_eq_some_iff.1 hc).1
 have hlt := hi.lt_of_own ⟨c,k,hc,hC⟩
 have hget : ∀ b k',(σ.set c .dead)[b]? = some k' → k' = .dead ∨ (b ≠ c ∧ σ[b]? = some k') := by
  intro b k' hb
  rw [List.getElem?_set] at hb
  split at hb
  ·rename_i he
   first
    | exact .inl (Option.some.inj hb).symm
    | (split at hb
       · exact .inl (Option.some.inj hb).symm
       · simp at hb)
  ·rename_i hne; exact .inr ⟨fun e => hne e.symm,hb⟩
 have hown : ∀ B,ownB G (σ.set c .dead) B → ownB G σ B ∧ B ≠ C := by
  rintro B ⟨b,k',hb,hB⟩
  rcases hget b k' hb with rfl | ⟨hne,hb⟩
  ·simp [baseOf] at hB
  ·exact ⟨⟨b,k',hb,hB⟩,fun e => hne (hi.inj b c k' k C hb hc (e ▸ hB) hC)⟩
 refine ⟨⟨?_,?_,?_,?_,?_,?_,?_,?_,?_,?_,hi.bas⟩,⟨.refl G,h1,h2,h3,by omega,?_,fun B hB => .inl (hown B hB).1,fun B o v hv => .inl hv,by simp⟩⟩
 ·intro B o v hv
  have hne : B ≠ C := fun e => by
   have := hi.sep B o (e ▸ ⟨c,k,hc,hC⟩)
   rw [this] at hv
   cases hv
  rw [cell_of_heap_eq (h5 B hne)]
  exact hi.imm B o v hv
 ·intro b g y hy
  simpa using hi.dom b g y hy
 ·intro b k' hb
  rcases hget b k' hb with rfl | ⟨hne,hb⟩
  ·trivial
  ·exact (hi.blk b k' hb).step (.refl G) fun B hB => h5 B fun e => hne (hi.inj b c k' k C hb hc (e ▸ hB) hC)
 ·intro b b' k1 k2 B hb hb' hB hB'
  rcases hget b k1 hb with rfl | ⟨_,hb⟩
  ·simp [baseOf] at hB
  rcases hget b' k2 hb' with rfl | ⟨_,hb'⟩
  ·simp [baseOf] at hB'
  exact hi.inj b b' k1 k2 B hb hb' hB hB'
 ·intro B o hB
  exact hi.sep B o (hown B hB).1
 ·rw [h4]; exact hi.big
 ·intro b g z xs hb
  rcases hget b _ hb with h | ⟨_,hb⟩
  ·cases h
  ·exact hi.gen b g z xs hb
 ·intro b n y hy
  simpa using hi.domH b n y hy
 ·intro b v es hb
  rcases hget b _ hb with h | ⟨_,hb⟩
  ·cases h
  ·exact hi.genH b v es hb
 ·intro k' hk
  rw [h5 k' (by have := hlt.2; omega)]
  exact hi.old k' hk
 ·intro k' hk hn _
  exact h5 k' fun e => hn (e ▸ ⟨c,k,hc,hC⟩)
theorem copy_fresh (b : Nat) (w : World) (h0 : w.cell? ⟨b,0,none⟩ = some (.pointer none)) (hsh : w.shape? b = some (133,2)) (hfz : w.frozen? ⟨b,0,none⟩ = false) :
  Calls Tryz.prog 125 #[.pointer (some ⟨b,0,none⟩)] w fun e w' => e = .returned (.tuple #[]) ∧ w' = w.setCell ⟨b,0,none⟩ (.pointer (some ⟨b,0,none⟩)) :=
 Any.Builder_copyCheck_fresh { Tryz.lays156 with } Tryz.Builder_Extra_156.toX72 b w h0 hsh hfz
theorem cellAt {w : World} {g o : Nat} {cs : Array Value} {t : TypeId} {fz : Nat × Nat} (h : w.heap[g]? = some (.cells cs t fz)) : w.cell? ⟨g,o,none⟩ = cs[o]? := by
 simp [World.cell?,h]
theorem notFrozen {w : World} {g o : Nat} {cs : Array Value} {t : TypeId} {fz : Nat × Nat} {n : Nat} (h : w.heap[g]? = some (.cells cs t fz)) (hf : FzOk fz n) (ho : o < n) : w.frozen? ⟨g,o,none⟩ = false := by
 rcases hf with rfl | hf
 ·simp [World.frozen?,h]
 ·simp [World.frozen?,h]
  omega
theorem copy_used (b : Nat) (w : World) (h0 : w.cell? ⟨b,0,none⟩ = some (.pointer (some ⟨b,0,none⟩))) :
  Calls Tryz.prog 125 #[.pointer (some ⟨b,0,none⟩)] w fun e w' => e = .returned (.tuple #[]) ∧ w' = w :=
 Any.Builder_copyCheck_used { Tryz.lays156 with } Tryz.Builder_Extra_156.toX72 b w h0
set_option maxHeartbeats 1000000 in
set_option maxRecDepth 100000 in
theorem string_nil (b : Nat) (w : World) (h1 : w.cell? ⟨b,1,none⟩ = some (.slice none 0 0)) :
  Calls Tryz.prog 83 #[.pointer (some ⟨b,0,none⟩)] w fun e w' => e = .returned (.string ⟨#[]⟩) ∧ Below w.heap.size w w' := by
 have c1 : w.drew.cell? ⟨b,1,none⟩ = some (.slice none 0 0) := h1
 have hSD : (Builtin.unsafeSliceData_ #[51] 188 #[.slice none 0 0]).run Tryz.prog w.drew = .ok (.pointer none) w.drew := Lib.run_unsafeSliceData_nil _ _ _ _ _
 have hUS : (Builtin.unsafeString_ #[188,3] 9 #[.pointer none,.int .i64 0]).run Tryz.prog w.drew = .ok (.string .empty) w.drew := Lib.run_unsafeString_none _ _ _ _ _
 go_enter Tryz.func83,Tryz.ntmps83
 go_wp2
 go_region
 all_goals (go_wp2; go_ret; exact ⟨rfl,below_drewN w 1⟩)
set_option maxHeartbeats 1000000 in
set_option maxRecDepth 100000 in
theorem string_row (b g cap : Nat) (cur : Array Value) (fz : Nat × Nat) (l : List UInt8) (w : World) (hbk : w.cell? ⟨b,1,none⟩ = some (.slice (some ⟨g,0,none⟩) l.length cap))
  (hg : w.heap[g]? = some (.cells cur 5 fz)) (h0 : l ≠ []) (hcap : l.length ≤ cap) (hcur : l.length ≤ cur.size) (hmax : l.length ≤ 140737488355328)
  (hcell : ∀ (j : Nat) (x : UInt8),l[j]? = some x → cur[j]? = some (Value.int .u8 x.toNat)) :
  Calls Tryz.prog 83 #[.pointer (some ⟨b,0,none⟩)] w fun e w' => e = .returned (.string ⟨l.toArray⟩) ∧ But w w' g := by
 have hl0 : l.length ≠ 0 := by simpa using h0
 have c1 : w.drew.cell? ⟨b,1,none⟩ = some (.slice (some ⟨g,0,none⟩) l.length cap) := hbk
 have hSD : (Builtin.unsafeSliceData_ #[51] 188 #[.slice (some ⟨g,0,none⟩) l.length cap]).run Tryz.prog w.drew = .ok (.pointer (some ⟨g,0,none⟩)) w.drew :=
  Lib.run_unsafeSliceData_row _ _ _ _ _ _ (by omega)
 have hUS : (Builtin.unsafeString_ #[188,3] 9 #[.pointer (some ⟨g,0,none⟩),.int .i64 l.length]).run Tryz.prog w.drew = .ok (.string ⟨l.toArray⟩) (w.drew.freeze ⟨g,0,none⟩ l.length) := by
  refine Lib.run_unsafeString_row w.drew 188 3 9 5 Tryz.lays156.t127 Tryz.Builder_Extra_156.cellsByte g cur.size (by have hg' : w.drew.heap[g]? = some (.cells cur 5 fz) := hg; simp [World.shape?,hg']) l h0 hcur (by omega) ?_
  intro j x hx
  have hg' : w.drew.heap[g]? = some (.cells cur 5 fz) := hg
  have := hcell j x hx
  have ha : (⟨g,0,none⟩ : Addr).add j = ⟨g,j,none⟩ := by
   unfold Addr.add
   by_cases hj : j = 0
   ·subst hj; simp
   ·simp [hj]
  rw [ha,cellAt hg']
  exact this
 go_enter Tryz.func83,Tryz.ntmps83
 go_wp2
 go_region
 all_goals (go_wp2; go_ret; exact ⟨rfl,But.freeze w g _⟩)
end Go.Proofs.YteikomnahelckaaGreatDoor
namespace Go.Proofs.YteikomnahelckaaGreatDoor
open Go Go.Abs Go.RowKit Go.Shelf
theorem bldAt_inv {t b g z : Nat} {σ : St} {a buf : PV} (h : bldAt t b g σ = some (z,a,buf)) : σ[b]? = some (.arr g z [.agg [a,buf]]) ∧ g % 4 = 1 ∧ tyG g = t := by
 unfold bldAt at h
 split at h
 ·rename_i g' z' a' buf' hb
  split at h
  ·rename_i hh
   obtain ⟨rfl,h1,h2⟩ := hh
   simp only [Option.some.injEq,Prod.mk.injEq] at h
   obtain ⟨rfl,rfl,rfl⟩ := h
   exact ⟨hb,h1,h2⟩
  ·cases h
 ·cases h
theorem bld_world {G : Gh} {N : Base} {σ : St} {w : World} {t b g z : Nat} {a buf : PV} {v : Value} (hI : Inv G N σ w) (hb : bldAt t b g σ = some (z,a,buf)) (r : RelV G (.ptr b g 0 0) v) :
  ∃ B u0 u1,v = .pointer (some ⟨B,0,none⟩) ∧ G.μ b g = some (B,0,2,2) ∧ z = 2 ∧ N.n ≤ B ∧ (∃ fz,FzOk fz 2 ∧ w.heap[B]? = some (.cells #[u0,u1] t fz)) ∧ RelV G a u0 ∧ RelV G buf u1 ∧ u0.oneCell' = true ∧ u1.oneCell' = true := by
 obtain ⟨h1,h2,h3⟩ := bldAt_inv hb
 obtain ⟨B,O,n,cs,el,hm,hN,hh,hn,hle,⟨hz,hty,_⟩,vs,hrel,hcell⟩ := hI.blk b _ h1
 obtain ⟨rfl,hel,hnz⟩ := hty h2
 have q0 := hrel 0 _ rfl
 obtain ⟨q1,q2⟩ := hcell 0 (by simp)
 generalize vs 0 = v0 at q0 q1 q2
 cases q0 with
 | agg _ us hlen hus hone =>
  obtain ⟨us⟩ := us
  match us,hlen with
  | [u0,u1],_ =>
   have hz2 : z = 2 := by rw [← q1]; rfl
   subst hz2
   have c0 := (q2 0 u0 rfl).2
   have c1 := (q2 1 u1 rfl).2
   simp only [Nat.zero_mul,Nat.zero_add] at c0 c1
   subst hnz
   have hcs : cs = #[u0,u1] := by
    apply Array.ext'
    obtain ⟨l⟩ := cs
    match l,hn with
    | [x0,x1],_ =>
     simp at c0 c1
     simp [c0,c1]
   subst hcs
   cases r with
   | ptr _ _ _ _ B' O' z' n' hm' =>
    rw [hm] at hm'
    simp only [Option.some.injEq,Prod.mk.injEq] at hm'
    obtain ⟨rfl,rfl,rfl,rfl⟩ := hm'
    refine ⟨B,u0,u1,by simp,hm,rfl,hN,?_,hus 0 _ _ rfl rfl,hus 1 _ _ rfl rfl,hone 0 u0 rfl,hone 1 u1 rfl⟩
    rw [← h3,← hel]
    exact hh
theorem ext_copy {N : Base} {args : List PV} {σ : St} {r : PV × St} (hr : extCopy 133 args σ = some r) {G : Gh} {w : World} {vs : Array Value} (hI : Inv G N σ w) (hl : args.length = vs.size)
  (ha : ∀ (i : Nat) (x : PV) (v : Value),args[i]? = some x → vs[i]? = some v → RelV G x v) :
  Calls Tryz.prog 125 vs w fun e w' => ∃ G' v,Inv G' N r.2 w' ∧ Ext G σ w G' r.2 w' ∧ RelV G' r.1 v ∧ e = .returned v := by
 unfold extCopy at hr
 split at hr
 ·rename_i b g
  obtain ⟨v,rfl,rv⟩ := one_arg hl ha
  split at hr
  ·rename_i z buf hb
   simp only [Option.some.injEq] at hr
   subst hr
   obtain ⟨B,u0,u1,rfl,hm,rfl,hN,⟨fz,hfz,hh⟩,ra,rb,o0,o1⟩ := bld_world hI hb rv
   obtain ⟨h1,h2,h3⟩ := bldAt_inv hb
   cases ra with
   | nilptr =>
    refine (copy_fresh B w (by rw [cellAt hh]; rfl) (by simp [World.shape?,hh]) (notFrozen hh hfz (by omega))).mono ?_
    rintro e w' ⟨rfl,rfl⟩
    have hset : (w.setCell ⟨B,0,none⟩ (.pointer (some ⟨B,0,none⟩))).heap[B]? = some (.cells #[.pointer (some ⟨B,0,none⟩),u1] 133 fz) := by
     simp [World.setCell,Array.getElem?_modify,hh]
    obtain ⟨b1,b2,b3,b4,b5⟩ := But.setCell w B 0 (.pointer (some ⟨B,0,none⟩))
    have hself : RelV G (.ptr b g 0 0) (.pointer (some ⟨B,0,none⟩)) := by
     have := RelV.ptr (G := G) b g 0 0 B 0 2 2 hm
     simpa using this
    obtain ⟨p1,p2⟩ := repl_sound (G' := G) (g' := g) (z' := 2) (B' := B) (O' := 0) (n' := 2) (ys := [.agg [.ptr b g 0 0,buf]]) hI h1 (by simp [baseOf,hm]) (.refl G) rfl rfl (fun _ _ _ => rfl) hm
     (fun h hlt => hI.gen b g 2 _ h1 h hlt) (.inl rfl) (fun k _ hk => b5 k hk) b1 b2 b3 (by rw [b4]; exact Nat.le_refl _)
     ⟨B,0,2,_,133,hm,hN,⟨fz,hfz,hset⟩,rfl,by simp,⟨by decide,⟨fun _ => ⟨rfl,h3.symm,rfl⟩,fun h => by omega⟩⟩,fun _ => .agg #[.pointer (some ⟨B,0,none⟩),u1],fun i x hx => by
      match i,hx with
      | 0,hx =>
       simp at hx
       subst hx
       refine .agg _ _ rfl (fun i x v hx hv => ?_) (fun i v hv => ?_)
       ·match i,hx,hv with
        | 0,hx,hv => simp at hx hv; subst hx hv; exact hself
        | 1,hx,hv => simp at hx hv; subst hx hv; exact rb
       ·match i,hv with
        | 0,hv => simp at hv; subst hv; rfl
        | 1,hv => simp at hv; subst hv; exact o1,fun i hi => by
      have hi0 : i = 0 := by simpa using hi
      subst hi0
      refine ⟨rfl,fun j v hj => ?_⟩
      simp only [Value.cells] at hj
      simp only [Nat.zero_mul,Nat.zero_add]
      refine ⟨?_,hj⟩
      match j,hj with
      | 0,hv => simp at hv; subst hv; rfl
      | 1,hv => simp at hv; subst hv; exact o1⟩
    exact ⟨G,_,p1,p2,.tuple [] #[] rfl (fun i x v hx => by simp at hx),rfl⟩
  ·rename_i z b' g' buf hb
   split at hr
   ·rename_i hh
    obtain ⟨rfl,rfl⟩ := hh
    simp only [Option.some.injEq] at hr
    subst hr
    obtain ⟨B,u0,u1,rfl,hm,rfl,hN,⟨fz,hfz,hh⟩,ra,rb,o0,o1⟩ := bld_world hI hb rv
    cases ra with
    | ptr _ _ _ _ B' O' z' n' hm' =>
     rw [hm] at hm'
     simp only [Option.some.injEq,Prod.mk.injEq] at hm'
     obtain ⟨rfl,rfl,rfl,rfl⟩ := hm'
     refine (copy_used B w (by rw [cellAt hh]; rfl)).mono ?_
     rintro e w' ⟨rfl,rfl⟩
     exact ⟨G,_,hI,.refl _ _ _,.tuple [] #[] rfl (fun i x v hx => by simp at hx),rfl⟩
   ·cases hr
  ·cases hr
 ·cases hr
theorem bytes_some : ∀ {l : List PV} {bs : List UInt8},bytes? l = some bs → l = bs.map fun b => PV.int .u8 b.toNat
 | [],bs,h => by simp [bytes?] at h; subst h; rfl
 | x :: l,bs,h => by
  unfold bytes? at h
  split at h
  ·rename_i heq; cases heq
  ·rename_i k l' heq
   simp only [List.cons.injEq] at heq
   obtain ⟨rfl,rfl⟩ := heq
   split at h
   ·rename_i hh
    split at h
    ·rename_i r hr
     simp only [Option.some.injEq] at h
     subst h
     rw [List.map_cons,← bytes_some hr]
     congr 1
     congr 1
     rw [UInt8.toNat_ofNat']
     omega
    ·cases h
   ·cases h
  ·cases h
theorem ext_str {N : Base} {args : List PV} {σ : St} {r : PV × St} (hr : extStr 133 5 args σ = some r) {G : Gh} {w : World} {vs : Array Value} (hI : Inv G N σ w) (hl : args.length = vs.size)
  (ha : ∀ (i : Nat) (x : PV) (v : Value),args[i]? = some x → vs[i]? = some v → RelV G x v) :
  Calls Tryz.prog 83 vs w fun e w' => ∃ G' v,Inv G' N r.2 w' ∧ Ext G σ w G' r.2 w' ∧ RelV G' r.1 v ∧ e = .returned v := by
 unfold extStr at hr
 split at hr
 ·rename_i b g
  obtain ⟨v,rfl,rv⟩ := one_arg hl ha
  split at hr
  ·rename_i z a hb
   simp only [Option.some.injEq] at hr
   subst hr
   obtain ⟨B,u0,u1,rfl,hm,rfl,hN,⟨fz,hfz,hh⟩,ra,rb,o0,o1⟩ := bld_world hI hb rv
   have hu : u1 = .slice none 0 0 := by
    cases rb with
    | nillist => rfl
    | list k xs B O z cap vs h1 => exact absurd rfl h1
   subst hu
   refine (string_nil B w (by rw [cellAt hh]; rfl)).mono ?_
   rintro e w' ⟨rfl,hbel⟩
   obtain ⟨i1,i2⟩ := inv_below hI hbel
   exact ⟨G,_,i1,i2,RelV.str ⟨#[]⟩,rfl⟩
  ·rename_i z a c gc zc len hb
   split at hr
   ·rename_i gc' zc' xs hc
    split at hr
    ·rename_i hcnd
     obtain ⟨rfl,ht,htb,hlen,hle,hmax⟩ := hcnd
     split at hr
     ·rename_i bs hbs
      simp only [Option.some.injEq] at hr
      subst hr
      obtain ⟨B,u0,u1,rfl,hm,rfl,hN,⟨fz,hfz,hh⟩,ra,rb,o0,o1⟩ := bld_world hI hb rv
      obtain ⟨C,OC,nC,cs,el,hmC,hNC,⟨fzC,hfzC,hhC⟩,hnC,hleC,⟨hzC,_,hty⟩,us,hrel,hcell⟩ := hI.blk c _ hc
      obtain ⟨rfl,hel⟩ := hty ht
      have hmap := bytes_some hbs
      have hbl : bs.length = len := by
       have := congrArg List.length hmap
       simp at this
       omega
      have hx : ∀ (j : Nat) (x : UInt8),bs[j]? = some x → xs[j]? = some (.int .u8 x.toNat) := by
       intro j x hj
       have : (xs.take len)[j]? = some (.int .u8 x.toNat) := by rw [hmap,List.getElem?_map,hj]; rfl
       rw [List.getElem?_take] at this
       split at this
       ·exact this
       ·cases this
      have hz1 : zc' = 1 := by
       obtain ⟨q1,q2⟩ := hcell 0 (by omega)
       have : ∃ x,bs[0]? = some x := ⟨bs[0]'(by omega),by simp⟩
       obtain ⟨x,hx0⟩ := this
       have := hrel 0 _ (hx 0 x hx0)
       rw [this.int_inv] at q1
       exact q1.symm
      subst hz1
      cases rb with
      | sref _ _ _ _ _ C' O' n' cap hm' hcap hfit =>
       rw [hmC] at hm'
       simp only [Option.some.injEq,Prod.mk.injEq] at hm'
       obtain ⟨rfl,rfl,rfl,rfl⟩ := hm'
       have hh' : w.cell? ⟨B,1,none⟩ = some (.slice (some ⟨C,0,none⟩) bs.length cap) := by rw [cellAt hh,hbl]; simp
       have hhC' : w.heap[C]? = some (.cells cs 5 fzC) := by rw [hhC,hel,htb]
       refine (string_row B C cap cs fzC bs w hh' hhC' (by intro e; subst e; simp at hbl; omega) (by omega) (by omega) (by omega) ?_).mono ?_
       ·intro j x hj
        have hjl : j < bs.length := (List.getElem?_eq_some_iff.1 hj).1
        obtain ⟨q1,q2⟩ := hcell j (by omega)
        have q3 := hrel j _ (hx j x hj)
        have := q2 0 (.int .u8 x.toNat) (by rw [q3.int_inv]; rfl)
        simpa using this.2
       ·rintro e w' ⟨rfl,hbut⟩
        obtain ⟨i1,i2⟩ := dead_sound hI hc (by simp [baseOf,hmC]) hbut
        exact ⟨G,_,i1,i2,RelV.str ⟨bs.toArray⟩,rfl⟩
     ·cases hr
    ·cases hr
   ·cases hr
  ·cases hr
 ·cases hr
end Go.Proofs.YteikomnahelckaaGreatDoor
