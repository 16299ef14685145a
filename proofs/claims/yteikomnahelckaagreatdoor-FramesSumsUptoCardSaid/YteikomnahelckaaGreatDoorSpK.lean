import Derived.Test.YteikomnahelckaaGreatDoorSpI
set_option linter.unusedVariables false
set_option linter.unusedSimpArgs false
namespace Go.Proofs.YteikomnahelckaaGreatDoor
open Go Go.Abs
def rowB (r : List Bool) : Blk := .arr 0 1 (r.map PV.bool)
def fl (S0 : St) (kb ob : Nat) (known out : List Bool) : St := (S0.set ob (rowB out)).set kb (rowB known)
structure FSet (S0 : St) (l : List ModeS) (k : LK) (p1 p14 p7 p17 kb ob : Nat) : Prop where
 tab : S0[p1]? = some (.arr 0 1 [.list k (l.map pvMode)])
 kn : S0[p14]? = some (.arr 0 1 [.sref kb 0 1 0 l.length])
 ou : S0[p7]? = some (.arr 0 1 [.sref ob 0 1 0 l.length])
 fn : S0[p17]? = some (.arr 0 1 [.func 124 0 [.ptr p1 0 0 0,.ptr p14 0 0 0,.ptr p7 0 0 0,.ptr p17 0 0 0]])
 k1 : kb < S0.length
 o1 : ob < S0.length
 ko : kb ≠ ob
 ap : ∀ p ∈ [p1,p14,p7,p17],p ≠ kb ∧ p ≠ ob
section
variable {S0 : St} {l : List ModeS} {k : LK} {p1 p14 p7 p17 kb ob : Nat}
theorem fl_get {known out : List Bool} {p : Nat} (h1 : p ≠ kb) (h2 : p ≠ ob) : (fl S0 kb ob known out)[p]? = S0[p]? := by
 unfold fl
 rw [List.getElem?_set_ne (Ne.symm h1),List.getElem?_set_ne (Ne.symm h2)]
theorem FSet.kb_get (H : FSet S0 l k p1 p14 p7 p17 kb ob) (known out : List Bool) : (fl S0 kb ob known out)[kb]? = some (.arr 0 1 (known.map PV.bool)) := by
 unfold fl
 rw [List.getElem?_set_self (by simpa using H.k1)]
 rfl
theorem FSet.ob_get (H : FSet S0 l k p1 p14 p7 p17 kb ob) (known out : List Bool) : (fl S0 kb ob known out)[ob]? = some (.arr 0 1 (out.map PV.bool)) := by
 unfold fl
 rw [List.getElem?_set_ne H.ko,List.getElem?_set_self H.o1]
 rfl
theorem FSet.kb_set (H : FSet S0 l k p1 p14 p7 p17 kb ob) (known known' out : List Bool) : (fl S0 kb ob known out).set kb (.arr 0 1 (known'.map PV.bool)) = fl S0 kb ob known' out := by
 unfold fl
 rw [List.set_set]
 rfl
theorem FSet.ob_set (H : FSet S0 l k p1 p14 p7 p17 kb ob) (known out out' : List Bool) : (fl S0 kb ob known out).set ob (.arr 0 1 (out'.map PV.bool)) = fl S0 kb ob known out' := by
 unfold fl
 rw [List.set_comm _ _ H.ko,List.set_set]
 rfl
theorem FSet.load_k (H : FSet S0 l k p1 p14 p7 p17 kb ob) {known out : List Bool} {i : Nat} {b : Bool} (h : known[i]? = some b) : vLoad false 1 (.ptr kb 0 i 0) (fl S0 kb ob known out) = some (.bool b) :=
 load_cell (H.kb_get known out) (by rw [List.getElem?_map,h]; rfl) rfl
theorem FSet.load_o (H : FSet S0 l k p1 p14 p7 p17 kb ob) {known out : List Bool} {i : Nat} {b : Bool} (h : out[i]? = some b) : vLoad false 1 (.ptr ob 0 i 0) (fl S0 kb ob known out) = some (.bool b) :=
 load_cell (H.ob_get known out) (by rw [List.getElem?_map,h]; rfl) rfl
theorem FSet.store_k (H : FSet S0 l k p1 p14 p7 p17 kb ob) {known out : List Bool} {i : Nat} {b : Bool} (h : known[i]? = some b) (v : Bool) : vStore 1 (.ptr kb 0 i 0) (.bool v) (fl S0 kb ob known out) = some (fl S0 kb ob (known.set i v) out) := by
 have hi : (known.map PV.bool)[i]? = some (.bool b) := by rw [List.getElem?_map,h]; rfl
 have hp : vPut 1 (.bool b) 0 (.bool v) = some (.bool v) := rfl
 simp only [vStore,H.kb_get,if_true,hi,hp]
 rw [← List.map_set (f := PV.bool) (a := v),H.kb_set]
theorem FSet.store_o (H : FSet S0 l k p1 p14 p7 p17 kb ob) {known out : List Bool} {i : Nat} {b : Bool} (h : out[i]? = some b) (v : Bool) : vStore 1 (.ptr ob 0 i 0) (.bool v) (fl S0 kb ob known out) = some (fl S0 kb ob known (out.set i v)) := by
 have hi : (out.map PV.bool)[i]? = some (.bool b) := by rw [List.getElem?_map,h]; rfl
 have hp : vPut 1 (.bool b) 0 (.bool v) = some (.bool v) := rfl
 simp only [vStore,H.ob_get,if_true,hi,hp]
 rw [← List.map_set (f := PV.bool) (a := v),H.ob_set]
theorem FSet.load_t (H : FSet S0 l k p1 p14 p7 p17 kb ob) {known out : List Bool} : vLoad false 1 (.ptr p1 0 0 0) (fl S0 kb ob known out) = some (.list k (l.map pvMode)) :=
 load_cell ((fl_get (H.ap p1 (by simp)).1 (H.ap p1 (by simp)).2).trans H.tab) rfl rfl
theorem FSet.load_kn (H : FSet S0 l k p1 p14 p7 p17 kb ob) {known out : List Bool} : vLoad false 1 (.ptr p14 0 0 0) (fl S0 kb ob known out) = some (.sref kb 0 1 0 l.length) :=
 load_cell ((fl_get (H.ap p14 (by simp)).1 (H.ap p14 (by simp)).2).trans H.kn) rfl rfl
theorem FSet.load_ou (H : FSet S0 l k p1 p14 p7 p17 kb ob) {known out : List Bool} : vLoad false 1 (.ptr p7 0 0 0) (fl S0 kb ob known out) = some (.sref ob 0 1 0 l.length) :=
 load_cell ((fl_get (H.ap p7 (by simp)).1 (H.ap p7 (by simp)).2).trans H.ou) rfl rfl
theorem FSet.load_fn (H : FSet S0 l k p1 p14 p7 p17 kb ob) {known out : List Bool} : vLoad false 1 (.ptr p17 0 0 0) (fl S0 kb ob known out) = some (.func 124 0 [.ptr p1 0 0 0,.ptr p14 0 0 0,.ptr p7 0 0 0,.ptr p17 0 0 0]) :=
 load_cell ((fl_get (H.ap p17 (by simp)).1 (H.ap p17 (by simp)).2).trans H.fn) rfl rfl
end
structure Good (l : List ModeS) (X : Nat → Prop) (known out : List Bool) : Prop where
 kl : known.length = l.length
 ol : out.length = l.length
 right : ∀ j : Nat,¬ X j → known[j]? = some true → (out[j]? = some true ↔ FlexM l j)
 unk : ∀ j : Nat,known[j]? = some false → out[j]? = some false
theorem lay_acyclic {l : List ModeS} (hg : ∀ m,m < l.length → ¬ BadM l m) {a : Nat} (ha : a < l.length) : ¬ Rch (layM l) a a := fun hr =>
 hg a ha (.inl (hr.mono fun x y h => by
  refine ⟨h.1,?_,h.2.2⟩
  have := h.2.1
  simp only [rowK,structK,Bool.or_eq_true,beq_iff_eq] at this
  simp only [yinB,refK,procK,Bool.or_eq_false_iff,beq_eq_false_iff_ne]
  omega))
theorem c124 {S0 : St} {l : List ModeS} {k : LK} {p1 p14 p7 p17 kb ob : Nat} (H : FSet S0 l k p1 p14 p7 p17 kb ob) (hl : l.length ≤ 512) (hp : ∀ m ∈ l,plainOk l.length m = true) (hg : ∀ m,m < l.length → ¬ BadM l m) :
  ∀ (i : Nat),i < l.length → ∀ (X : Nat → Prop) (known out : List Bool),Good l X known out → (∀ x,X x → x ≠ i ∧ ¬ Rch (layM l) i x) →
   ∀ R : Res → St → Prop,(∀ (b : Bool) (known' out' : List Bool),(b = true ↔ FlexM l i) → Good l X known' out' → (∀ x,X x → known'[x]? = known[x]? ∧ out'[x]? = out[x]?) → ((rowK (mAtM l i) || structK (mAtM l i)) = true → known'[i]? = some true) → (∀ j : Nat,known[j]? = some true → known'[j]? = some true) →
    R (.ret (.bool b)) (fl S0 kb ob known' out')) →
   W 124 [.int .i64 (i : Int),.ptr p1 0 0 0,.ptr p14 0 0 0,.ptr p7 0 0 0,.ptr p17 0 0 0] (fl S0 kb ob known out) R := by
 intro i
 induction i using (lay_wf hp hg).induction with
 | _ i ih =>
 intro hi X known out hG hX R hR
 refine callW_fold ?_
 rw [fn124_eq]
 delta fn124 bF pF gF kF nI nL
 have hmem : mAtM l i ∈ l := mAtM_mem hi
 have hix := mode_at (l := l) (i := (i : Int)) (by omega) k
 have eN : ((i : Int)).toNat = i := by omega
 rw [eN] at hix
 have hput : vPut 6 (.agg [(.int .i64 0),(.int .i64 0),(.list .nil []),(.list .nil []),(.int .i64 0),(.bool false)]) 0 (pvMode (mAtM l i)) = some (pvMode (mAtM l i)) := rfl
 have hpt : vPart true 6 (pvMode (mAtM l i)) 0 = some (pvMode (mAtM l i)) := rfl
 have hp0 : vPart false 1 (pvMode (mAtM l i)) 0 = some (.int .i64 (mAtM l i).kind) := rfl
 have hp2 : vPart false 1 (pvMode (mAtM l i)) 2 = some (.list (mAtM l i).elems.1 ((mAtM l i).elems.2.map pvI)) := rfl
 have hp5 : vPart false 1 (pvMode (mAtM l i)) 5 = some (.bool (mAtM l i).flex) := rfl
 have hkl := hG.kl
 have hol := hG.ol
 have hki : known[i]? = some (known[i]'(by omega)) := by simp
 have hoi : out[i]? = some (out[i]'(by omega)) := by simp
 generalize hkv : known[i]'(by omega) = kv at hki
 generalize hov : out[i]'(by omega) = ov at hoi
 have hXi : ¬ X i := fun h => (hX i h).1 rfl
 have hat : ∀ b : Nat,vIndex 1 (.sref b 0 1 0 l.length) (.int .i64 (i : Int)) = some (.ptr b 0 i 0) := fun b => sref_at hi
 simp only [H.load_t,hix,hpt,hput,H.load_kn,hat,H.load_k hki,zz,Nat.reduceEqDiff]
 have e10 : ((mAtM l i).kind == 10) = rowK (mAtM l i) := rfl
 have e11 : ((mAtM l i).kind == 11) = structK (mAtM l i) := rfl
 cases kv with
 | true =>
  simp only [H.load_ou,hat,H.load_o hoi,zz,Nat.reduceEqDiff]
  refine weakW_keep (hR ov known out ?_ hG (fun _ _ => ⟨rfl,rfl⟩) (fun _ => hki) (fun _ h => h))
  rw [← hG.right i hXi hki,hoi]
  simp
 | false =>
 have hof : ov = false := by
  have := hG.unk i hki
  rw [hoi] at this
  simpa using this
 cases hq : (rowK (mAtM l i) || structK (mAtM l i)) with
 | false =>
  simp only [Bool.or_eq_false_iff] at hq
  simp only [hp0,e10,e11,hq.1,hq.2,H.load_ou,hat,H.load_o hoi,zz,Nat.reduceEqDiff]
  refine weakW_keep (hR ov known out ?_ hG (fun _ _ => ⟨rfl,rfl⟩) (fun h => by simp [hq.1,hq.2] at h) (fun _ h => h))
  rw [hof]
  refine iff_of_false (by simp) fun h => ?_
  have := h.kind
  simp [hq.1,hq.2] at this
 | true =>
  have hrs : rowK (mAtM l i) = true ∨ (rowK (mAtM l i) = false ∧ structK (mAtM l i) = true) := by
   cases h1 : rowK (mAtM l i) with
   | true => exact .inl rfl
   | false => exact .inr ⟨rfl,by simpa [h1] using hq⟩
  have hflex : (mAtM l i).flex = true → rowK (mAtM l i) = true := by
   intro hf
   have := hp _ hmem
   simp only [plainOk,shapeOk,Bool.and_eq_true,Bool.or_eq_true] at this
   have := this.1.1.1.1.2
   simpa [hf] using this
  have hbp : (mAtM l i).elems.2.length ≤ 64 := by
   have := hp _ hmem
   simp only [plainOk,shapeOk,Bool.and_eq_true,decide_eq_true_eq] at this
   exact this.1.1.1.2
  have hlay : ∀ e ∈ (mAtM l i).elems.2,layM l i e.toNat := fun e he => ⟨hi,hq,List.mem_map.2 ⟨e,he,rfl⟩⟩
  have hchild : ∀ e ∈ (mAtM l i).elems.2,∀ x,(X x ∨ x = i) → x ≠ e.toNat ∧ ¬ Rch (layM l) e.toNat x := by
   intro e he x hx
   have hs := hlay e he
   have hsub : ∀ y,Rch (layM l) e.toNat y → Rch (layM l) i y := fun y hy => (Rch.one hs).trans hy
   rcases hx with hx | rfl
   ·exact ⟨fun h => (hX x hx).2 (h ▸ .one hs),fun h => (hX x hx).2 (hsub _ h)⟩
   ·exact ⟨fun h => lay_acyclic hg hi (by rw [← h] at hs; exact .one hs),fun h => lay_acyclic hg hi (hsub _ h)⟩
  have hG0 : Good l (fun x => X x ∨ x = i) (known.set i true) (out.set i (mAtM l i).flex) := by
   refine ⟨by simpa using hkl,by simpa using hol,fun j hj hk => ?_,fun j hk => ?_⟩
   ·have hji : i ≠ j := fun h => hj (.inr h.symm)
    rw [List.getElem?_set_ne hji] at hk ⊢
    exact hG.right j (fun h => hj (.inl h)) hk
   ·have hji : i ≠ j := fun h => by
     subst h
     rw [List.getElem?_set_self (by omega)] at hk
     cases hk
    rw [List.getElem?_set_ne hji] at hk ⊢
    exact hG.unk j hk
  have hflx : FlexM l i ↔ (mAtM l i).flex = true ∨ ∃ e ∈ (mAtM l i).elems.2,FlexM l e.toNat := by
   constructor
   ·intro h
    cases h with
    | here h1 h2 => exact .inl h2
    | in_ h1 h2 =>
     obtain ⟨e,he,rfl⟩ := List.mem_map.1 h1.2.2
     exact .inr ⟨e,he,h2⟩
   ·rintro (h | ⟨e,he,h⟩)
    ·exact .here (hflex h) h
    ·exact .in_ (hlay e he) h
  have hwalk : ∀ e : Int,e ∈ (mAtM l i).elems.2 → 0 ≤ e ∧ e.toNat < l.length ∧ (e.toNat : Int) = e := fun e he => plain_elem hp hmem he
  have hoi2 : ∀ {o : List Bool} {v : Bool},o[i]? = some v → i < o.length := fun h => (List.getElem?_eq_some_iff.1 h).1
  rcases hrs with hr | ⟨hr,hs⟩
  all_goals simp only [hp0,e10,e11,hr,H.load_kn,hat,H.store_k hki true,H.load_ou,hp5,H.store_o hoi,hp2,List.length_map,zz,Nat.reduceEqDiff]
  all_goals try simp only [hs,H.load_kn,hat,H.store_k hki true,H.load_ou,hp5,H.store_o hoi,hp2,List.length_map,zz,Nat.reduceEqDiff]
  all_goals generalize hes : (mAtM l i).elems.2 = es at hbp hlay hchild hflx hwalk
  all_goals refine Lfp_up es.length (fun j x σ' => x = lookP [(0,.int .i64 (i : Int)),(3,.ptr p7 0 0 0),(4,.ptr p17 0 0 0),(38,.list (mAtM l i).elems.1 (es.map pvI)),(39,.int .i64 es.length),(40,.int .i64 j)] ∧ ∃ kn2 out2 v,σ' = fl S0 kb ob kn2 out2 ∧ Good l (fun x => X x ∨ x = i) kn2 out2 ∧ out2[i]? = some v ∧ (v = true ↔ (mAtM l i).flex = true ∨ ∃ e ∈ es.take j,FlexM l e.toNat) ∧ (∀ x,X x → kn2[x]? = known[x]? ∧ out2[x]? = out[x]?) ∧ kn2[i]? = some true ∧ ∀ j : Nat,known[j]? = some true → kn2[j]? = some true) ?_ ⟨rfl,_,_,(mAtM l i).flex,rfl,hG0,List.getElem?_set_self (by omega),by simp,fun x hx => by
         have hxi : i ≠ x := fun h => hXi (h ▸ hx)
         rw [List.getElem?_set_ne hxi,List.getElem?_set_ne hxi]
         exact ⟨rfl,rfl⟩,List.getElem?_set_self (by omega),fun j hj => by
         by_cases hji : i = j
         ·subst hji; exact List.getElem?_set_self (by omega)
         ·rw [List.getElem?_set_ne hji]; exact hj⟩
  all_goals rintro Φ j x σ' hj ⟨rfl,kn2,out2,v,rfl,hG2,hv,hvi,hX2,hki2,hm2⟩ next
  all_goals simp only [zz,Nat.reduceEqDiff]
  all_goals by_cases hlt : j < es.length
  all_goals first
   | (have hce : es[j]? = some es[j] := by simp [hlt]
      have hemem : es[j] ∈ es := by simp
      generalize es[j] = e at hce hemem
      obtain ⟨e0,eL,eI⟩ := hwalk e hemem
      have hpe : pvI e = .int .i64 ((e.toNat : Nat) : Int) := by rw [eI]; rfl
      have hb124 : hasBody 124 = true := by kernel_rfl
      simp only [hlt,encInt.index hce,encInt.part,hpe,H.load_ou,H.load_fn,callG_func hb124,zz,Nat.reduceEqDiff]
      have fin : ∀ (b : Bool) (kn3 out3 : List Bool),(b = true ↔ FlexM l e.toNat) → Good l (fun x => X x ∨ x = i) kn3 out3 → (∀ x,(X x ∨ x = i) → kn3[x]? = kn2[x]? ∧ out3[x]? = out2[x]?) → (∀ j : Nat,kn2[j]? = some true → kn3[j]? = some true) →
          Φ (lookP [(0,.int .i64 (i : Int)),(3,.ptr p7 0 0 0),(4,.ptr p17 0 0 0),(38,.list (mAtM l i).elems.1 (es.map pvI)),(39,.int .i64 es.length),(40,.int .i64 (j + 1 : Nat))]) (fl S0 kb ob kn3 (out3.set i (b || v))) := by
        intro b kn3 out3 hb hG3 hX3 hm3
        have ho3 : out3[i]? = some v := by rw [(hX3 i (.inr rfl)).2]; exact hv
        have hk3 : kn3[i]? = some true := by rw [(hX3 i (.inr rfl)).1]; exact hki2
        refine next _ _ hlt ⟨rfl,kn3,out3.set i (b || v),b || v,rfl,⟨hG3.kl,by simpa using hG3.ol,fun q hq1 hq2 => ?_,fun q hq1 => ?_⟩,List.getElem?_set_self (hoi2 ho3),?_,fun x hx => ?_,hk3,fun q hq1 => hm3 q (hm2 q hq1)⟩
        · rw [List.getElem?_set_ne (fun h => hq1 (.inr h.symm))]
          exact hG3.right q hq1 hq2
        · rw [List.getElem?_set_ne (fun h => by rw [← h,hk3] at hq1; cases hq1)]
          exact hG3.unk q hq1
        · rw [Bool.or_eq_true,hb,hvi,List.take_add_one,hce]
          simp only [Option.toList_some,List.mem_append,List.mem_singleton]
          constructor
          · rintro (h | h | ⟨u,hu,h⟩)
            · exact .inr ⟨e,.inr rfl,h⟩
            · exact .inl h
            · exact .inr ⟨u,.inl hu,h⟩
          · rintro (h | ⟨u,hu | rfl,h⟩)
            · exact .inr (.inl h)
            · exact .inr (.inr ⟨u,hu,h⟩)
            · exact .inl h
        · have hxi : i ≠ x := fun h => hXi (h ▸ hx)
          rw [List.getElem?_set_ne hxi,(hX3 x (.inl hx)).1,(hX3 x (.inl hx)).2]
          exact hX2 x hx
      refine ⟨?_,?_⟩
      all_goals
        refine ih e.toNat (hlay e hemem) eL _ kn2 out2 hG2 (hchild e hemem) _ fun b kn3 out3 hb hG3 hX3 _ hm3 => ?_
        have ho3 : out3[i]? = some v := by rw [(hX3 i (.inr rfl)).2]; exact hv
        have := fin b kn3 out3 hb hG3 hX3 hm3
        cases b with
        | true =>
          simp only [H.load_ou,hat,H.store_o ho3,zz,Nat.reduceEqDiff]
          rw [vBin_add _ (by omega) (by omega)]
          simp only [zz,Nat.reduceEqDiff]
          exact this
        | false =>
          simp only [H.load_ou,hat,H.load_o ho3,H.store_o ho3,zz,Nat.reduceEqDiff]
          rw [vBin_add _ (by omega) (by omega)]
          simp only [zz,Nat.reduceEqDiff]
          exact this)
   | (simp only [hlt,H.load_ou,hat,H.load_o hv,zz,Nat.reduceEqDiff]
      have hjl : j = es.length := by omega
      rw [hjl,List.take_length] at hvi
      have hvf : v = true ↔ FlexM l i := hvi.trans hflx.symm
      refine weakW_keep (hR v kn2 out2 hvf ⟨hG2.kl,hG2.ol,fun q hq1 hq2 => ?_,hG2.unk⟩ hX2 (fun _ => hki2) hm2)
      by_cases hqi : q = i
      · subst hqi
        rw [hv]
        simpa using hvf
      · exact hG2.right q (fun h => h.elim hq1 hqi) hq2)
theorem c74 {out : List Bool} {k : LK} {i : Nat} {b : Bool} (h : out[i]? = some b) {p : PV} {σ : St} (hp : vLoad false 1 p σ = some (.list k (out.map PV.bool))) : Ret W 74 [.int .i64 (i : Int),p] σ (.bool b) := by
 refine ret_of fun R hR => ?_
 rw [fn74_eq]
 delta fn74
 simp only [hp,encBool.index h,encBool.part,zz,Nat.reduceEqDiff]
 exact weakW_keep hR
end Go.Proofs.YteikomnahelckaaGreatDoor
