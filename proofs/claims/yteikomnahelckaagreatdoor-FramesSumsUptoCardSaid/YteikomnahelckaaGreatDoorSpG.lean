import Derived.Test.YteikomnahelckaaGreatDoorSpF
set_option linter.unusedVariables false
set_option linter.unusedSimpArgs false
namespace Go.Proofs.YteikomnahelckaaGreatDoor
open Go Go.Abs
def rq (σ : St) (seen : List Bool) (g : Nat) (qs : List PV) : St := σ ++ [.arr 0 1 (seen.map PV.bool),.arr g 1 qs]
theorem rq_0 (σ : St) (seen : List Bool) (g : Nat) (qs : List PV) : (rq σ seen g qs)[σ.length]? = some (.arr 0 1 (seen.map PV.bool)) := by simp [rq]
theorem rq_1 (σ : St) (seen : List Bool) (g : Nat) (qs : List PV) : (rq σ seen g qs)[σ.length + 1]? = some (.arr g 1 qs) := by simp [rq]
theorem rq_pre (σ : St) (seen : List Bool) (g : Nat) (qs : List PV) : σ <+: rq σ seen g qs := List.prefix_append _ _
theorem rq_set0 (σ : St) (seen seen' : List Bool) (g : Nat) (qs : List PV) : (rq σ seen g qs).set σ.length (.arr 0 1 (seen'.map PV.bool)) = rq σ seen' g qs := by
 simp [rq,List.set_append_right]
theorem rq_set1 (σ : St) (seen : List Bool) (g g' : Nat) (qs qs' : List PV) : (rq σ seen g qs).set (σ.length + 1) (.arr g' 1 qs') = rq σ seen g' qs' := by
 simp [rq,List.set_append_right]
theorem sref_at {b g n i : Nat} {k : IntKind} (h : i < n) : vIndex 1 (.sref b g 1 0 n) (.int k (i : Int)) = some (.ptr b g i 0) := by
 simp [vIndex,h]
theorem seen_load {σ : St} {seen : List Bool} {g : Nat} {qs : List PV} {i : Nat} {b : Bool} (h : seen[i]? = some b) : vLoad false 1 (.ptr σ.length 0 i 0) (rq σ seen g qs) = some (.bool b) :=
 load_cell (rq_0 _ _ _ _) (by rw [List.getElem?_map,h]; rfl) rfl
theorem seen_store {σ : St} {seen : List Bool} {g : Nat} {qs : List PV} {i : Nat} {b : Bool} (h : seen[i]? = some b) : vStore 1 (.ptr σ.length 0 i 0) (.bool true) (rq σ seen g qs) = some (rq σ (seen.set i true) g qs) := by
 have hi : (seen.map PV.bool)[i]? = some (.bool b) := by rw [List.getElem?_map,h]; rfl
 have hp : vPut 1 (.bool b) 0 (.bool true) = some (.bool true) := rfl
 simp only [vStore,rq_0,if_true,hi,hp]
 rw [← List.map_set (f := PV.bool) (a := true),rq_set0]
theorem queue_load {σ : St} {seen : List Bool} {g : Nat} {qs : List PV} {i : Nat} {a : Int} (h : qs[i]? = some (.int .i64 a)) : vLoad false 1 (.ptr (σ.length + 1) g i 0) (rq σ seen g qs) = some (.int .i64 a) :=
 load_cell (rq_1 _ _ _ _) h rfl
theorem queue_pop {b g q : Nat} (h : 0 < q) : vSubSl 1 (.sref b g 1 0 q) none (some (.int .i64 ((q : Int) - 1))) = some (.sref b g 1 0 (q - 1)) := by
 have e : ((q : Int) - 1) = ((q - 1 : Nat) : Int) := by omega
 simp only [vSubSl,bound,e]
 simp
 omega
theorem queue_app {σ : St} {seen : List Bool} {g : Nat} {qs : List PV} {q : Nat} (hq : q ≤ qs.length) (hb : q ≤ 1048576) (a : Int) :
  ∃ g' qs',vAppend 1 8 (.sref (σ.length + 1) g 1 0 q) (.list .full [.int .i64 a]) (rq σ seen g qs) = some (.sref (σ.length + 1) g' 1 0 (q + 1),rq σ seen g' qs') ∧ qs'.take (q + 1) = qs.take q ++ [.int .i64 a] ∧ q + 1 ≤ qs'.length := by
 have hroom : roomy (q + 1) 8 = true := by simp [roomy]; omega
 have hs : headSized 1 [PV.int .i64 a] = true := rfl
 by_cases hin : q + 1 ≤ qs.length
 ·refine ⟨g,qs.take q ++ [.int .i64 a] ++ qs.drop (q + 1),?_,?_,?_⟩
  ·simp only [vAppend,vElems,rq_1,List.isEmpty_cons,Bool.false_eq_true,if_false,List.length_cons,List.length_nil,Nat.zero_add]
   rw [if_pos ⟨trivial,trivial,by omega,hroom,hs⟩,if_pos (by omega),rq_set1]
  ·rw [List.take_append_of_le_length (by simp; omega),List.take_of_length_le (by simp; omega)]
  ·simp; omega
 ·refine ⟨nextG g,qs.take q ++ [.int .i64 a],?_,?_,?_⟩
  ·simp only [vAppend,vElems,rq_1,List.isEmpty_cons,Bool.false_eq_true,if_false,List.length_cons,List.length_nil,Nat.zero_add]
   rw [if_pos ⟨trivial,trivial,by omega,hroom,hs⟩,if_neg (by omega),rq_set1]
   simp
  ·rw [List.take_of_length_le (by simp; omega)]
  ·simp; omega
theorem _root_.Go.Abs.Look.rest {st : Nat → Nat → Prop} {m n : Nat} {seen : List Bool} {todo : Nat → Prop} {rest rest' : Nat → Nat → Prop} (h : Look st m n seen todo rest) (h2 : ∀ a b,rest a b → rest' a b) : Look st m n seen todo rest' :=
 ⟨h.len,h.sound,h.from_,fun a ha => (h.closed a ha).imp id fun hq b hb => (hq b hb).imp id (h2 a b)⟩
theorem _root_.Go.Abs.Look.todo {st : Nat → Nat → Prop} {m n : Nat} {seen : List Bool} {todo todo' : Nat → Prop} {rest : Nat → Nat → Prop} (h : Look st m n seen todo rest) (h2 : ∀ a,todo a ↔ todo' a) : Look st m n seen todo' rest :=
 ⟨h.len,h.sound,fun a ha => h.from_ a ((h2 a).2 ha),fun a ha => (h.closed a ha).imp (h2 a).1 id⟩
def stepB (l : Tbl) (bg : ModeS → Bool) (a b : Nat) : Prop := a < l.length ∧ bg (mAtM l a) = true ∧ b ∈ elemsN (mAtM l a)
theorem c121 {l : List ModeS} (hl : l.length ≤ 512) (hp : ∀ m ∈ l,plainOk l.length m = true) {k : LK} {m : Nat} (hm : m < l.length) {fv : PV} {bg : ModeS → Bool} {σ : St}
  (hB : ∀ σ',σ <+: σ' → ∀ m' ∈ l,∀ K X : PV → St → Prop,K (.bool (bg m')) σ' → callG (algP W) Tryz.prog false fv [pvMode m'] σ' K X)
  {R : Res → St → Prop} (hR : ∀ seen : List Bool,seen.length = l.length → (∀ i,seen[i]? = some true ↔ Rch (stepB l bg) m i) → R (.ret (.list .part (seen.map PV.bool))) σ) :
  W 121 [.list k (l.map pvMode),.int .i64 (m : Int),fv] σ R := by
 refine callW_fold ?_
 rw [fn121_eq]
 delta fn121 bF pF kF nI nL mF
 have hmk : vMakeSl 1 1 (.bool false) (.int .i64 (l.length : Int)) (.int .i64 (l.length : Int)) σ = some (.sref σ.length 0 1 0 l.length,σ ++ [.arr 0 1 ((List.replicate l.length false).map PV.bool)]) := by
  have hr : roomy l.length 1 = true := by simp [roomy]; omega
  simp only [vMakeSl]
  rw [if_pos ⟨by omega,trivial,by simpa using hr⟩]
  simp [vBox,PV.cells?]
 have hbs : vBuildSl 1 (List.replicate 1 (.int .i64 0)) [(0,.int .i64 (m : Int))] = some [.int .i64 (m : Int)] := vBuildSl_one ⟨_,rfl,rfl⟩
 have hrow : ∀ K : PV → St → Prop,rowW 1 1 [.int .i64 (m : Int)] (σ ++ [.arr 0 1 ((List.replicate l.length false).map PV.bool)]) K = K (.sref (σ.length + 1) 0 1 0 1) (rq σ (List.replicate l.length false) 0 [.int .i64 (m : Int)]) := by
  intro K
  simp [rowW,rq]
 simp only [List.length_map,hmk,hbs,hrow,zz,Nat.reduceEqDiff]
 refine Lfp_down (fun mm x σ' => ∃ (c : List Nat) (seen : List Bool) (g : Nat) (qs : List PV),x = lookP [(0,.list k (l.map pvMode)),(2,fv),(7,.sref σ.length 0 1 0 l.length),(8,.sref (σ.length + 1) g 1 0 c.length)] ∧ σ' = rq σ seen g qs ∧
  Look (stepB l bg) m l.length seen (fun a => a ∈ c) (fun _ _ => False) ∧ qs.take c.length = c.map (fun a : Nat => PV.int .i64 (a : Int)) ∧ c.length ≤ qs.length ∧ (∀ a ∈ c,a < l.length) ∧ mm = 2 * unseen seen + c.length ∧ c.length + unseen seen ≤ l.length + 1) ?_ (2 * l.length + 1) ?_
 rotate_left
 ·refine ⟨[m],List.replicate l.length false,0,_,rfl,rfl,Look.start.todo (fun a => by simp),rfl,Nat.le_refl _,by simpa using hm,?_,?_⟩ <;> simp [unseen] <;> omega
 rintro Φ mm x σ' ⟨c,seen,g,qs,rfl,rfl,hL,hqs,hql,hc,rfl,hcu⟩ next _
 simp only [zz,Nat.reduceEqDiff]
 by_cases hne : c = []
 ·subst hne
  simp only [List.length_nil,Int.ofNat_zero,Int.lt_irrefl,gt_iff_lt,zz,Nat.reduceEqDiff]
  have hdone := (hL.todo (todo' := fun _ => False) (fun a => by simp)).done
  have hseen : seen.length = l.length := hL.len
  have h0 : 0 < l.length := by omega
  refine weakW_clean (rq_pre _ _ _ _) (v' := .list .part (seen.map PV.bool)) ?_ (hR seen hseen hdone)
  refine .sref σ.length 0 1 0 _ 0 1 _ _ (rq_0 _ _ _ _) rfl (Nat.le_refl _) (by simp [hseen]) (by simp [hseen]) fun i a d hi ha hd => ?_
  rw [Nat.zero_add,hd] at ha
  cases ha
  obtain ⟨b,_,rfl⟩ := List.mem_map.1 (List.mem_of_getElem? hd)
  exact .base _ (.bool b)
 ·obtain ⟨c',a,rfl⟩ : ∃ c' a,c = c' ++ [a] := ⟨c.dropLast,c.getLast hne,(List.dropLast_concat_getLast hne).symm⟩
  have hcl : (c' ++ [a]).length = c'.length + 1 := by simp
  have ha : a < l.length := hc a (by simp)
  rw [hcl] at hqs hql hcu
  have hpos : decide (((c' ++ [a]).length : Int) > 0) = true := decide_eq_true (by rw [hcl]; omega)
  have hqa : qs[c'.length]? = some (.int .i64 (a : Int)) := by
   have : (qs.take (c'.length + 1))[c'.length]? = some (.int .i64 (a : Int)) := by rw [hqs]; simp
   rw [List.getElem?_take,if_pos (by omega)] at this
   exact this
  have e1 : (((c' ++ [a]).length : Int) - 1) = (c'.length : Int) := by rw [hcl]; omega
  have hpop := queue_pop (b := σ.length + 1) (g := g) (q := (c' ++ [a]).length) (by omega)
  rw [e1] at hpop
  have e2 : (c' ++ [a]).length - 1 = c'.length := by omega
  rw [e2] at hpop
  have hmem : mAtM l a ∈ l := mAtM_mem ha
  have hix := mode_at (l := l) (i := (a : Int)) (by omega) k
  have hput : vPut 6 (.agg [(.int .i64 0),(.int .i64 0),(.list .nil []),(.list .nil []),(.int .i64 0),(.bool false)]) 0 (pvMode (mAtM l a)) = some (pvMode (mAtM l a)) := rfl
  have hpt : vPart true 6 (pvMode (mAtM l a)) 0 = some (pvMode (mAtM l a)) := rfl
  have hp2 : vPart false 1 (pvMode (mAtM l a)) 2 = some (.list (mAtM l a).elems.1 ((mAtM l a).elems.2.map pvI)) := rfl
  have eN : ((a : Int)).toNat = a := by omega
  rw [eN] at hix
  have hsub : vBin (none : Option EK) .sub (.int .i64 ((c' ++ [a]).length : Int)) (.int .i64 1) = some (.int .i64 (c'.length : Int)) := by
   rw [vBin_sub _ (by omega) (by omega),e1]
  simp only [hpos,hsub,sref_at (b := σ.length + 1) (g := g) (n := (c' ++ [a]).length) (i := c'.length) (k := .i64) (by omega),queue_load hqa,hix,hput,hpt,hpop,zz,Nat.reduceEqDiff]
  refine hB _ (rq_pre _ _ _ _) _ hmem _ _ ?_
  have htake : qs.take c'.length = c'.map (fun a : Nat => PV.int .i64 (a : Int)) := by
   have h1 : (qs.take (c'.length + 1)).take c'.length = qs.take c'.length := by rw [List.take_take]; congr 1; omega
   rw [← h1,hqs,List.map_append,List.take_append_of_le_length (by simp),List.take_of_length_le (by simp)]
  cases hbg : bg (mAtM l a) with
  | false =>
   simp only [zz,Nat.reduceEqDiff]
   refine next _ _ (2 * unseen seen + c'.length) (by rw [hcl]; omega) ⟨c',seen,g,qs,rfl,rfl,?_,htake,by omega,fun b hb => hc b (by simp [hb]),rfl,by omega⟩
   have := hL.take (todo' := fun b => b ∈ c') (c := a) (el := fun _ => False) (fun b hb => by simpa using hb) (fun b hb => by simp [hb]) (fun b hb => by
    have := hb.2.1
    rw [hbg] at this
    cases this)
   exact this.rest fun _ _ h => h.2
  | true =>
   simp only [hp2,List.length_map,zz,Nat.reduceEqDiff]
   have hLt := hL.take (todo' := fun b => b ∈ c') (c := a) (el := fun b => b ∈ (((mAtM l a).elems.2.drop 0).map Int.toNat)) (fun b hb => by simpa using hb) (fun b hb => by simp [hb]) (fun b hb => by
    simpa [elemsN] using hb.2.2)
   have hreach : ∀ b,stepB l bg a b → Rch (stepB l bg) m b := by
    intro b hb
    rcases hL.from_ a (by simp) with h | h
    ·subst h
     exact .one hb
    ·exact .more (hL.sound a h) hb
   have hbp : (mAtM l a).elems.2.length ≤ 64 := by
    have := hp _ hmem
    simp only [plainOk,shapeOk,Bool.and_eq_true,decide_eq_true_eq] at this
    exact this.1.1.1.2
   generalize hes : (mAtM l a).elems.2 = es at hLt hbp
   refine Lfp_up es.length (fun i x σ' => ∃ (c2 : List Nat) (seen2 : List Bool) (g2 : Nat) (qs2 : List PV),x = lookP [(0,.list k (l.map pvMode)),(2,fv),(7,.sref σ.length 0 1 0 l.length),(8,.sref (σ.length + 1) g2 1 0 c2.length),(39,.list (mAtM l a).elems.1 (es.map pvI)),(40,.int .i64 es.length),(41,.int .i64 i)] ∧ σ' = rq σ seen2 g2 qs2 ∧
    Look (stepB l bg) m l.length seen2 (fun b => b ∈ c2) (fun u v => u = a ∧ v ∈ (es.drop i).map Int.toNat) ∧ qs2.take c2.length = c2.map (fun a : Nat => PV.int .i64 (a : Int)) ∧ c2.length ≤ qs2.length ∧ (∀ b ∈ c2,b < l.length) ∧ 2 * unseen seen2 + c2.length ≤ 2 * unseen seen + c'.length ∧ c2.length + unseen seen2 ≤ l.length) ?_
    ⟨c',seen,g,qs,rfl,rfl,hLt,htake,by omega,fun b hb => hc b (by simp [hb]),Nat.le_refl _,by omega⟩
   rintro Φ2 i x σ2 hi ⟨c2,seen2,g2,qs2,rfl,rfl,hL2,hqs2,hql2,hc2,hms,hcu2⟩ next2
   simp only [zz,Nat.reduceEqDiff]
   by_cases hlt : i < es.length
   ·have hce : es[i]? = some es[i] := by simp [hlt]
    have hemem : es[i] ∈ (mAtM l a).elems.2 := by rw [hes]; simp
    have hen := plain_elem hp hmem hemem
    have hdrop : es.drop i = es[i] :: es.drop (i + 1) := (List.drop_eq_getElem_cons hlt)
    generalize es[i] = e at hce hemem hen hdrop
    obtain ⟨e0,eL,eI⟩ := hen
    have hst : stepB l bg a e.toNat := ⟨ha,hbg,List.mem_map.2 ⟨e,hemem,rfl⟩⟩
    have hslen : seen2.length = l.length := hL2.len
    have hsb : seen2[e.toNat]? = some (seen2[e.toNat]'(by omega)) := by simp
    have hpe : pvI e = .int .i64 ((e.toNat : Nat) : Int) := by rw [eI]; rfl
    simp only [hlt,encInt.index hce,encInt.part,hpe,sref_at (b := σ.length) (g := 0) (n := l.length) (i := e.toNat) (k := .i64) eL,seen_load hsb,zz,Nat.reduceEqDiff]
    cases hsv : seen2[e.toNat]'(by omega) with
    | true =>
     rw [hsv] at hsb
     simp only [zz,Nat.reduceEqDiff]
     rw [vBin_add _ (by omega) (by omega)]
     simp only [zz,Nat.reduceEqDiff]
     refine next2 _ _ hlt ⟨c2,seen2,g2,qs2,rfl,rfl,hL2.skip hsb (fun u v huv => ?_),hqs2,hql2,hc2,hms,hcu2⟩
     rw [hdrop,List.map_cons] at huv
     rcases List.mem_cons.1 huv.2 with h | h
     ·exact .inl h
     ·exact .inr ⟨huv.1,h⟩
    | false =>
     rw [hsv] at hsb
     have hun := unseen_set hsb
     obtain ⟨g3,qs3,ha1,ha2,ha3⟩ := queue_app (σ := σ) (seen := seen2.set e.toNat true) (g := g2) hql2 (by omega) ((e.toNat : Nat) : Int)
     have hb3 : vBuildSl 1 (List.replicate 1 (.int .i64 0)) [(0,.int .i64 ((e.toNat : Nat) : Int))] = some [.int .i64 ((e.toNat : Nat) : Int)] := vBuildSl_one ⟨_,rfl,rfl⟩
     simp only [seen_store hsb,hb3,ha1,zz,Nat.reduceEqDiff]
     rw [vBin_add _ (by omega) (by omega)]
     simp only [zz,Nat.reduceEqDiff]
     refine next2 _ _ hlt ⟨c2 ++ [e.toNat],seen2.set e.toNat true,g3,qs3,by simp,rfl,hL2.find eL (hreach _ hst) (fun u => by simp) (fun u v huv => ?_),by simp [ha2,hqs2],by simpa using ha3,fun b hb => ?_,by simp; omega,by simp; omega⟩
     ·rw [hdrop,List.map_cons] at huv
      rcases List.mem_cons.1 huv.2 with h | h
      ·exact .inl h
      ·exact .inr ⟨huv.1,h⟩
     ·rcases List.mem_append.1 hb with h | h
      ·exact hc2 b h
      ·simp at h
       subst h
       exact eL
   ·simp only [hlt,zz,Nat.reduceEqDiff]
    have hil : i = es.length := by omega
    refine next _ _ (2 * unseen seen2 + c2.length) (by rw [hcl]; omega) ⟨c2,seen2,g2,qs2,rfl,rfl,hL2.rest (fun u v huv => ?_),hqs2,hql2,hc2,rfl,by omega⟩
    have := huv.2
    rw [hil,List.drop_length] at this
    simp at this
end Go.Proofs.YteikomnahelckaaGreatDoor
