import Derived.Test.YteikomnahelckaaGreatDoorBldA
set_option linter.unusedVariables false
set_option linter.unusedSimpArgs false
namespace Go.Proofs.YteikomnahelckaaGreatDoor
open Go Go.Abs Go.RowKit Go.Shelf
theorem bldAt_inv {t b g z : Nat} {σ : St} {a buf : PV} (h : bldAt t b g σ = some (z,a,buf)) : σ[b]? = some (.arr g z [.agg [a,buf]]) ∧ g % 4 = 1 ∧ tyG g = t := by
 unfold bldAt at h
 split at h
 ·rename_i g' z' a' buf' hb
  split at h
  ·rename_i hh
   obtain ⟨rfl,h1,h2⟩ := hh
   simp only [Option.some.injEq,Prod.mk.injEq] at h
   obtain ⟨rfl,rfl,rfl⟩ := h
   exact ⟨hb,h1,h2⟩
  ·cases h
 ·cases h
theorem bld_world {G : Gh} {N : Base} {σ : St} {w : World} {t b g z : Nat} {a buf : PV} {v : Value} (hI : Inv G N σ w) (hb : bldAt t b g σ = some (z,a,buf)) (r : RelV G (.ptr b g 0 0) v) :
  ∃ B u0 u1,v = .pointer (some ⟨B,0,none⟩) ∧ G.μ b g = some (B,0,2,2) ∧ z = 2 ∧ N.n ≤ B ∧ (∃ fz,FzOk fz 2 ∧ w.heap[B]? = some (.cells #[u0,u1] t fz)) ∧ RelV G a u0 ∧ RelV G buf u1 ∧ u0.oneCell' = true ∧ u1.oneCell' = true := by
 obtain ⟨h1,h2,h3⟩ := bldAt_inv hb
 obtain ⟨B,O,n,cs,el,hm,hN,hh,hn,hle,⟨hz,hty,_⟩,vs,hrel,hcell⟩ := hI.blk b _ h1
 obtain ⟨rfl,hel,hnz⟩ := hty h2
 have q0 := hrel 0 _ rfl
 obtain ⟨q1,q2⟩ := hcell 0 (by simp)
 generalize vs 0 = v0 at q0 q1 q2
 cases q0 with
 | agg _ us hlen hus hone =>
  obtain ⟨us⟩ := us
  match us,hlen with
  | [u0,u1],_ =>
   have hz2 : z = 2 := by rw [← q1]; rfl
   subst hz2
   have c0 := (q2 0 u0 rfl).2
   have c1 := (q2 1 u1 rfl).2
   simp only [Nat.zero_mul,Nat.zero_add] at c0 c1
   subst hnz
   have hcs : cs = #[u0,u1] := by
    apply Array.ext'
    obtain ⟨l⟩ := cs
    match l,hn with
    | [x0,x1],_ =>
     simp at c0 c1
     simp [c0,c1]
   subst hcs
   cases r with
   | ptr _ _ _ _ B' O' z' n' hm' =>
    rw [hm] at hm'
    simp only [Option.some.injEq,Prod.mk.injEq] at hm'
    obtain ⟨rfl,rfl,rfl,rfl⟩ := hm'
    refine ⟨B,u0,u1,by simp,hm,rfl,hN,?_,hus 0 _ _ rfl rfl,hus 1 _ _ rfl rfl,hone 0 u0 rfl,hone 1 u1 rfl⟩
    rw [← h3,← hel]
    exact hh
theorem ext_copy {N : Base} {args : List PV} {σ : St} {r : PV × St} (hr : extCopy 133 args σ = some r) {G : Gh} {w : World} {vs : Array Value} (hI : Inv G N σ w) (hl : args.length = vs.size)
  (ha : ∀ (i : Nat) (x : PV) (v : Value),args[i]? = some x → vs[i]? = some v → RelV G x v) :
  Calls Tryz.prog 125 vs w fun e w' => ∃ G' v,Inv G' N r.2 w' ∧ Ext G σ w G' r.2 w' ∧ RelV G' r.1 v ∧ e = .returned v := by
 unfold extCopy at hr
 split at hr
 ·rename_i b g
  obtain ⟨v,rfl,rv⟩ := one_arg hl ha
  split at hr
  ·rename_i z buf hb
   simp only [Option.some.injEq] at hr
   subst hr
   obtain ⟨B,u0,u1,rfl,hm,rfl,hN,⟨fz,hfz,hh⟩,ra,rb,o0,o1⟩ := bld_world hI hb rv
   obtain ⟨h1,h2,h3⟩ := bldAt_inv hb
   cases ra with
   | nilptr =>
    refine (copy_fresh B w (by rw [cellAt hh]; rfl) (by simp [World.shape?,hh]) (notFrozen hh hfz (by omega))).mono ?_
    rintro e w' ⟨rfl,rfl⟩
    have hset : (w.setCell ⟨B,0,none⟩ (.pointer (some ⟨B,0,none⟩))).heap[B]? = some (.cells #[.pointer (some ⟨B,0,none⟩),u1] 133 fz) := by
     simp [World.setCell,Array.getElem?_modify,hh]
    obtain ⟨b1,b2,b3,b4,b5⟩ := But.setCell w B 0 (.pointer (some ⟨B,0,none⟩))
    have hself : RelV G (.ptr b g 0 0) (.pointer (some ⟨B,0,none⟩)) := by
     have := RelV.ptr (G := G) b g 0 0 B 0 2 2 hm
     simpa using this
    obtain ⟨p1,p2⟩ := repl_sound (G' := G) (g' := g) (z' := 2) (B' := B) (O' := 0) (n' := 2) (ys := [.agg [.ptr b g 0 0,buf]]) hI h1 (by simp [baseOf,hm]) (.refl G) rfl rfl (fun _ _ _ => rfl) hm
     (fun h hlt => hI.gen b g 2 _ h1 h hlt) (.inl rfl) (fun k _ hk => b5 k hk) b1 b2 b3 (by rw [b4]; exact Nat.le_refl _)
     ⟨B,0,2,_,133,hm,hN,⟨fz,hfz,hset⟩,rfl,by simp,⟨by decide,⟨fun _ => ⟨rfl,h3.symm,rfl⟩,fun h => by omega⟩⟩,fun _ => .agg #[.pointer (some ⟨B,0,none⟩),u1],fun i x hx => by
      match i,hx with
      | 0,hx =>
       simp at hx
       subst hx
       refine .agg _ _ rfl (fun i x v hx hv => ?_) (fun i v hv => ?_)
       ·match i,hx,hv with
        | 0,hx,hv => simp at hx hv; subst hx hv; exact hself
        | 1,hx,hv => simp at hx hv; subst hx hv; exact rb
       ·match i,hv with
        | 0,hv => simp at hv; subst hv; rfl
        | 1,hv => simp at hv; subst hv; exact o1,fun i hi => by
      have hi0 : i = 0 := by simpa using hi
      subst hi0
      refine ⟨rfl,fun j v hj => ?_⟩
      simp only [Value.cells] at hj
      simp only [Nat.zero_mul,Nat.zero_add]
      refine ⟨?_,hj⟩
      match j,hj with
      | 0,hv => simp at hv; subst hv; rfl
      | 1,hv => simp at hv; subst hv; exact o1⟩
    exact ⟨G,_,p1,p2,.tuple [] #[] rfl (fun i x v hx => by simp at hx),rfl⟩
  ·rename_i z b' g' buf hb
   split at hr
   ·rename_i hh
    obtain ⟨rfl,rfl⟩ := hh
    simp only [Option.some.injEq] at hr
    subst hr
    obtain ⟨B,u0,u1,rfl,hm,rfl,hN,⟨fz,hfz,hh⟩,ra,rb,o0,o1⟩ := bld_world hI hb rv
    cases ra with
    | ptr _ _ _ _ B' O' z' n' hm' =>
     rw [hm] at hm'
     simp only [Option.some.injEq,Prod.mk.injEq] at hm'
     obtain ⟨rfl,rfl,rfl,rfl⟩ := hm'
     refine (copy_used B w (by rw [cellAt hh]; rfl)).mono ?_
     rintro e w' ⟨rfl,rfl⟩
     exact ⟨G,_,hI,.refl _ _ _,.tuple [] #[] rfl (fun i x v hx => by simp at hx),rfl⟩
   ·cases hr
  ·cases hr
 ·cases hr
theorem bytes_some : ∀ {l : List PV} {bs : List UInt8},bytes? l = some bs → l = bs.map fun b => PV.int .u8 b.toNat
 | [],bs,h => by simp [bytes?] at h; subst h; rfl
 | x :: l,bs,h => by
  unfold bytes? at h
  split at h
  ·rename_i heq; cases heq
  ·rename_i k l' heq
   simp only [List.cons.injEq] at heq
   obtain ⟨rfl,rfl⟩ := heq
   split at h
   ·rename_i hh
    split at h
    ·rename_i r hr
     simp only [Option.some.injEq] at h
     subst h
     rw [List.map_cons,← bytes_some hr]
     congr 1
     congr 1
     rw [UInt8.toNat_ofNat']
     omega
    ·cases h
   ·cases h
  ·cases h
theorem ext_str {N : Base} {args : List PV} {σ : St} {r : PV × St} (hr : extStr 133 5 args σ = some r) {G : Gh} {w : World} {vs : Array Value} (hI : Inv G N σ w) (hl : args.length = vs.size)
  (ha : ∀ (i : Nat) (x : PV) (v : Value),args[i]? = some x → vs[i]? = some v → RelV G x v) :
  Calls Tryz.prog 83 vs w fun e w' => ∃ G' v,Inv G' N r.2 w' ∧ Ext G σ w G' r.2 w' ∧ RelV G' r.1 v ∧ e = .returned v := by
 unfold extStr at hr
 split at hr
 ·rename_i b g
  obtain ⟨v,rfl,rv⟩ := one_arg hl ha
  split at hr
  ·rename_i z a hb
   simp only [Option.some.injEq] at hr
   subst hr
   obtain ⟨B,u0,u1,rfl,hm,rfl,hN,⟨fz,hfz,hh⟩,ra,rb,o0,o1⟩ := bld_world hI hb rv
   have hu : u1 = .slice none 0 0 := by
    cases rb with
    | nillist => rfl
    | list k xs B O z cap vs h1 => exact absurd rfl h1
   subst hu
   refine (string_nil B w (by rw [cellAt hh]; rfl)).mono ?_
   rintro e w' ⟨rfl,hbel⟩
   obtain ⟨i1,i2⟩ := inv_below hI hbel
   exact ⟨G,_,i1,i2,RelV.str ⟨#[]⟩,rfl⟩
  ·rename_i z a c gc zc len hb
   split at hr
   ·rename_i gc' zc' xs hc
    split at hr
    ·rename_i hcnd
     obtain ⟨rfl,ht,htb,hlen,hle,hmax⟩ := hcnd
     split at hr
     ·rename_i bs hbs
      simp only [Option.some.injEq] at hr
      subst hr
      obtain ⟨B,u0,u1,rfl,hm,rfl,hN,⟨fz,hfz,hh⟩,ra,rb,o0,o1⟩ := bld_world hI hb rv
      obtain ⟨C,OC,nC,cs,el,hmC,hNC,⟨fzC,hfzC,hhC⟩,hnC,hleC,⟨hzC,_,hty⟩,us,hrel,hcell⟩ := hI.blk c _ hc
      obtain ⟨rfl,hel⟩ := hty ht
      have hmap := bytes_some hbs
      have hbl : bs.length = len := by
       have := congrArg List.length hmap
       simp at this
       omega
      have hx : ∀ (j : Nat) (x : UInt8),bs[j]? = some x → xs[j]? = some (.int .u8 x.toNat) := by
       intro j x hj
       have : (xs.take len)[j]? = some (.int .u8 x.toNat) := by rw [hmap,List.getElem?_map,hj]; rfl
       rw [List.getElem?_take] at this
       split at this
       ·exact this
       ·cases this
      have hz1 : zc' = 1 := by
       obtain ⟨q1,q2⟩ := hcell 0 (by omega)
       have : ∃ x,bs[0]? = some x := ⟨bs[0]'(by omega),by simp⟩
       obtain ⟨x,hx0⟩ := this
       have := hrel 0 _ (hx 0 x hx0)
       rw [this.int_inv] at q1
       exact q1.symm
      subst hz1
      cases rb with
      | sref _ _ _ _ _ C' O' n' cap hm' hcap hfit =>
       rw [hmC] at hm'
       simp only [Option.some.injEq,Prod.mk.injEq] at hm'
       obtain ⟨rfl,rfl,rfl,rfl⟩ := hm'
       have hh' : w.cell? ⟨B,1,none⟩ = some (.slice (some ⟨C,0,none⟩) bs.length cap) := by rw [cellAt hh,hbl]; simp
       have hhC' : w.heap[C]? = some (.cells cs 5 fzC) := by rw [hhC,hel,htb]
       refine (string_row B C cap cs fzC bs w hh' hhC' (by intro e; subst e; simp at hbl; omega) (by omega) (by omega) (by omega) ?_).mono ?_
       ·intro j x hj
        have hjl : j < bs.length := (List.getElem?_eq_some_iff.1 hj).1
        obtain ⟨q1,q2⟩ := hcell j (by omega)
        have q3 := hrel j _ (hx j x hj)
        have := q2 0 (.int .u8 x.toNat) (by rw [q3.int_inv]; rfl)
        simpa using this.2
       ·rintro e w' ⟨rfl,hbut⟩
        obtain ⟨i1,i2⟩ := dead_sound hI hc (by simp [baseOf,hmC]) hbut
        exact ⟨G,_,i1,i2,RelV.str ⟨bs.toArray⟩,rfl⟩
     ·cases hr
    ·cases hr
   ·cases hr
  ·cases hr
 ·cases hr
end Go.Proofs.YteikomnahelckaaGreatDoor
