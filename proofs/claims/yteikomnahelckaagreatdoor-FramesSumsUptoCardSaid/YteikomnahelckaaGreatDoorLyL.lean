import Derived.Test.YteikomnahelckaaGreatDoorLyK
set_option linter.unusedVariables false
set_option linter.unusedSimpArgs false
namespace Go.Proofs.YteikomnahelckaaGreatDoor
open Go Go.Abs
def pvMapS (k : LK) (sl : List SlotS) : PV := .agg [.list k (sl.map pvSlot)]
def MapsV (ms : List PV) (mss : List (List SlotS)) : Prop := ms.length = mss.length ∧ ∀ (i : Nat) (sl : List SlotS),mss[i]? = some sl → ∃ k : LK,ms[i]? = some (pvMapS k sl) ∧ (k = .nil → sl = [])
def UnisV (us : List PV) (uss : List (List Int)) : Prop := us.length = uss.length ∧ ∀ (i : Nat) (sl : List Int),uss[i]? = some sl → ∃ k : LK,us[i]? = some (.list k (sl.map pvI)) ∧ (k = .nil → sl = [])
def pvSig (s : Int × Int) : PV := .agg [pvI s.1,pvI s.2]
structure LF (l : Tbl) (d : ED) (σ : St) (p : Nat) (A : LC) (uo so : List Nat) (x : OV) (mss : List (List SlotS)) (uss : List (List Int)) (gss : List (Int × Int)) : Prop where
 E : Env l d
 M : MS0 l d σ p A uo so x
 all : ∀ m,m < l.length → Key.node (repT l m) ∈ A.T
 met : ∀ k ∈ A.T,MetK (rwT l) A.T k
 ms : MapsV A.ms mss
 us : UnisV A.us uss
 gs : A.gs = gss.map pvSig
 low : ∀ (i c : Nat),(nodesT A.T)[i]? = some c → mss[i]? = some (cont (rwT l) A.T c)
 small : mss.length ≤ 1000000 ∧ ∀ sl ∈ mss,sl.length ≤ 1000000
def numG (T : List Key) (s : Nat × Nat) : Int × Int := ((rankK T (.node s.1) : Int),(rankK T (.node s.2) : Int))
theorem mem_key {T : List Key} {k : Key} (h : k ∈ T) : (∃ c,k = .node c ∧ c ∈ nodesT T) ∨ (∃ c,k = .uni c ∧ c ∈ unisT T) ∨ ∃ a b,k = .sig a b ∧ (a,b) ∈ sigsT T := by
 cases k with
 | node c => exact .inl ⟨c,rfl,mem_nodesT.2 h⟩
 | uni c => exact .inr (.inl ⟨c,rfl,mem_unisT.2 h⟩)
 | sig a b => exact .inr (.inr ⟨a,b,rfl,(mem_sigsT (c := (a,b))).2 h⟩)
theorem leaves_le {l : Tbl} (hn : ¬ LimT l) {x : Nat} (hx : x ∈ gN l) : (nodeL l x).length ≤ 1000 := by
 rcases mem_gN.1 hx with h | ⟨m,hm,rfl⟩
 ·rw [nodeL_mode h]
  refine Nat.le_of_not_lt fun h' => hn ⟨x,h,.inl h'⟩
 ·obtain ⟨h1,h2⟩ := mem_procs.1 hm
  rw [nodeL_par h2]
  exact Nat.le_of_not_lt fun h' => hn ⟨m,h1,.inr ⟨h2,h'⟩⟩
theorem lf_of {l : Tbl} {d : ED} {p : Nat} {A : LC} {uo so : List Nat} {x : OV} {σ : St} (hn : ¬ LimT l) (E : Env l d) (M : MS l d σ p A uo so x) (hT : A.T = dfs (chR (rwT l)) (4 * l.length) [] ((List.range l.length).map fun m => .node (repT l m))) (hG : Grown (rwT l) ⟨[],[],[],[]⟩ A) :
  LF l d σ p A uo so x ((nodesT A.T).map (cont (rwT l) A.T)) ((unisT A.T).map (contU A.T)) ((sigsT A.T).map (numG A.T)) := by
 have hm : ∀ i c,(nodesT A.T)[i]? = some c → ∃ v,A.ms[i]? = some v ∧ doneM (rwT l) A.T v c := fun i c h => hG.nm i c (Nat.zero_le _) h
 have hu : ∀ i c,(unisT A.T)[i]? = some c → ∃ v,A.us[i]? = some v ∧ doneU (rwT l) A.T v c := fun i c h => hG.nu i c (Nat.zero_le _) h
 have hg : ∀ i c,(sigsT A.T)[i]? = some c → ∃ v,A.gs[i]? = some v ∧ doneG (rwT l) A.T v c := fun i c h => hG.ng i c (Nat.zero_le _) h
 refine ⟨E,M.z,fun m hml => ?_,fun k hk => ?_,⟨by rw [List.length_map]; exact M.fit.m,fun i sl hi => ?_⟩,⟨by rw [List.length_map]; exact M.fit.u,fun i sl hi => ?_⟩,?_,fun i c hi => ?_,?_⟩
 ·rw [hT]
  exact dfs_mem (univ_closed E.ok) _ _ _ (free_le l _) (fun k hk => by
   obtain ⟨m,hm,rfl⟩ := List.mem_map.1 hk
   exact univ_mode (by simpa using hm)) _ (List.mem_map.2 ⟨m,by simpa using hml,rfl⟩)
 ·rcases mem_key hk with ⟨c,rfl,hc⟩ | ⟨c,rfl,hc⟩ | ⟨a,b,rfl,hc⟩
  ·obtain ⟨i,hi⟩ := List.getElem?_of_mem hc
   obtain ⟨v,_,hd⟩ := hm i c hi
   exact hd.1
  ·obtain ⟨i,hi⟩ := List.getElem?_of_mem hc
   obtain ⟨v,_,hd⟩ := hu i c hi
   exact hd.1
  ·obtain ⟨i,hi⟩ := List.getElem?_of_mem hc
   obtain ⟨v,_,hd⟩ := hg i _ hi
   exact hd.1
 ·rw [List.getElem?_map] at hi
  cases hc : (nodesT A.T)[i]? with
  | none => rw [hc] at hi; cases hi
  | some c =>
   rw [hc] at hi
   cases hi
   obtain ⟨v,hv,_,k,rfl,hk⟩ := hm i c hc
   exact ⟨k,hv,hk⟩
 ·rw [List.getElem?_map] at hi
  cases hc : (unisT A.T)[i]? with
  | none => rw [hc] at hi; cases hi
  | some c =>
   rw [hc] at hi
   cases hi
   obtain ⟨v,hv,_,k,rfl,hk⟩ := hu i c hc
   exact ⟨k,hv,fun h => by rw [hk h]; rfl⟩
 ·refine List.ext_getElem? fun i => ?_
  rw [List.getElem?_map,List.getElem?_map]
  by_cases hi : i < (sigsT A.T).length
  ·have hc : (sigsT A.T)[i]? = some (sigsT A.T)[i] := by simp [hi]
   obtain ⟨v,hv,_,rfl⟩ := hg i _ hc
   rw [hc,hv]
   rfl
  ·rw [List.getElem?_eq_none (by have := M.fit.g; omega),List.getElem?_eq_none (by omega)]
   rfl
 ·rw [List.getElem?_map,hi]
  rfl
 ·rw [List.length_map]
  have h1 := M.ms_small E
  have h2 := M.fit.m
  refine ⟨by omega,fun sl hs => ?_⟩
  obtain ⟨c,hc,rfl⟩ := List.mem_map.1 hs
  obtain ⟨y,hy,rfl⟩ := univ_codes (M.sub _ (mem_nodesT.1 hc))
  unfold cont
  rw [List.length_map,rwT_rep,rwT_eq,List.length_map]
  have := leaves_le hn hy
  omega
section
variable {l : Tbl} {d : ED} {σ : St} {p : Nat} {A : LC} {uo so : List Nat} {x : OV} {mss : List (List SlotS)} {uss : List (List Int)} {gss : List (Int × Int)}
theorem num_lt {T : List Key} {c : Nat} (h : Key.node c ∈ T) : (nodesT T)[rankK T (.node c)]? = some c := by
 have h1 := List.idxOf_lt_length_of_mem (mem_nodesT.2 h)
 show (nodesT T)[(nodesT T).idxOf c]? = some c
 rw [List.getElem?_eq_getElem h1,List.getElem_idxOf h1]
theorem LF.mode (F : LF l d σ p A uo so x mss uss gss) {m : Nat} (hm : m < l.length) : mss[numN l A.T m]? = some (slotsN l A.T m) := F.low _ _ (num_lt (F.all m hm))
theorem LF.isG (F : LF l d σ p A uo so x mss uss gss) : IsG σ ⟨x.om,1,x.mv,A.ms⟩ := by
 obtain ⟨ver,L⟩ := F.M.lay
 exact L.sl _ (by simp [S5])
theorem nil_ptr (p : Nat) : vBin (some .ptr) .eql (.ptr p 0 0 0) .nilptr = some (.bool false) := rfl
theorem c33 (F : LF l d σ p A uo so x mss uss gss) (m : Int) : Ret W 33 [.ptr p 0 0 0,.int .i64 m] σ (.int .i64 (if inN l.length m then 0 else 11)) := by
 refine ret_of fun R hR => ?_
 rw [fn33_eq]
 delta fn33 bF gF nI
 have h0 : vLoad false 1 (.ptr p 0 0 0) σ = some (.list d.kt d.tvs) := F.M.cell rfl
 have hnl : vNil (.ptr p 0 0 0) = some (.ptr p 0 0 0) := rfl
 have htl := F.E.tab.1
 simp only [nil_ptr,zz,Nat.reduceEqDiff]
 refine orG (decide (m ≥ (l.length : Int))) (fun hb J next => ?_) ?_
 ·simp only [hnl,h0,htl,zz,Nat.reduceEqDiff]
  exact next _ rfl
 refine condB (fun h => ?_) (fun h => ?_)
 ·refine weakW_keep ?_
  rw [if_neg] at hR
  ·exact hR
  ·simp only [inN,Bool.and_eq_true,decide_eq_true_eq]
   simp only [Bool.or_eq_true,decide_eq_true_eq] at h
   omega
 ·refine weakW_keep ?_
  rw [if_pos] at hR
  ·exact hR
  ·simp only [inN,Bool.and_eq_true,decide_eq_true_eq]
   simp only [Bool.or_eq_false_iff,decide_eq_false_iff_not] at h
   omega
noncomputable def mapR (l : Tbl) (T : List Key) (m : Int) : Nat := if inN l.length m then numN l T m.toNat else 0
noncomputable def sizeR (l : Tbl) (m : Int) : Nat := if inN l.length m then (leaves l m.toNat).length else 0
theorem inN_nat {n : Nat} {m : Int} (h : inN n m = true) : m = ((m.toNat : Nat) : Int) ∧ m.toNat < n := by
 simp only [inN,Bool.and_eq_true,decide_eq_true_eq] at h
 omega
theorem c14 (F : LF l d σ p A uo so x mss uss gss) (m : Int) : Ret W 14 [.ptr p 0 0 0,.int .i64 m] σ (pvN (mapR l A.T m)) := by
 refine ret_of fun R hR => ?_
 rw [fn14_eq]
 delta fn14 bF lF nI
 refine (c33 F m).callB ?_
 unfold mapR at hR
 cases hi : inN l.length m with
 | false =>
  rw [hi] at hR
  have e : ((11 : Int) != 0) = true := rfl
  simp only [hi,Bool.false_eq_true,if_false,e,zz,Nat.reduceEqDiff]
  exact weakW_keep hR
 | true =>
  rw [hi] at hR
  obtain ⟨hm1,hm2⟩ := inN_nat hi
  have e : ((0 : Int) != 0) = false := rfl
  have hnl : vNil (.ptr p 0 0 0) = some (.ptr p 0 0 0) := rfl
  have h4 : vLoad false 1 (.ptr p 0 0 4) σ = some (.mref d.nm) := F.M.cell rfl
  have h1 : vLoad false 1 (.ptr p 0 0 1) σ = some d.gv := F.M.cell rfl
  have hg := mode_lt_gN hm2
  have hgi : vIndex 2 d.gv (.int .i64 m) = some (.ptr d.gb d.gg m.toNat 0) := by
   have := F.E.gidx hg
   unfold pvN pvI at this
   rw [← hm1] at this
   exact this
  have hf := F.M.find F.E hg false
  rw [ndG_mode hm2,if_pos (F.all _ hm2)] at hf
  simp only [if_true,e,hnl,h4,h1,hgi,F.M.cls F.E hg,hf,Bool.false_eq_true,if_false,zz,Nat.reduceEqDiff]
  exact weakW_keep hR
theorem c15 (F : LF l d σ p A uo so x mss uss gss) (m : Int) : Ret W 15 [.ptr p 0 0 0,.int .i64 m] σ (pvN (sizeR l m)) := by
 refine ret_of fun R hR => ?_
 rw [fn15_eq]
 delta fn15 bF lF nI
 refine (c33 F m).callB ?_
 unfold sizeR at hR
 cases hi : inN l.length m with
 | false =>
  rw [hi] at hR
  have e : ((11 : Int) != 0) = true := rfl
  simp only [hi,Bool.false_eq_true,if_false,e,zz,Nat.reduceEqDiff]
  exact weakW_keep hR
 | true =>
  rw [hi] at hR
  obtain ⟨hm1,hm2⟩ := inN_nat hi
  have e : ((0 : Int) != 0) = false := rfl
  have hnl : vNil (.ptr p 0 0 0) = some (.ptr p 0 0 0) := rfl
  have h1 : vLoad false 1 (.ptr p 0 0 1) σ = some d.gv := F.M.cell rfl
  have hg := mode_lt_gN hm2
  have hgi : vIndex 2 d.gv (.int .i64 m) = some (.ptr d.gb d.gg m.toNat 0) := by
   have := F.E.gidx hg
   unfold pvN pvI at this
   rw [← hm1] at this
   exact this
  obtain ⟨k,hs,_⟩ := F.M.slots F.E hg
  rw [ndG_mode hm2,nodeL_mode hm2] at hs
  simp only [if_true,e,hnl,h1,hgi,hs,List.length_map,zz,Nat.reduceEqDiff]
  exact weakW_keep hR
theorem LF.map_at (F : LF l d σ p A uo so x mss uss gss) {i : Nat} {sl : List SlotS} (hi : mss[i]? = some sl) : ∃ q k,vIndex 1 x.mv (pvN i) = some q ∧ (∃ q2,vField 0 q = some q2 ∧ vLoad false 1 q2 σ = some (.list k (sl.map pvSlot))) ∧ (k = .nil → sl = []) := by
 obtain ⟨k,hk,hn⟩ := F.ms.2 i sl hi
 obtain ⟨q,h1,_,h3⟩ := F.isG.elems.at_ (i := i) (k := .i64) hk rfl rfl
 obtain ⟨q2,h4,h5⟩ := h3 0
 exact ⟨q,k,h1,⟨q2,h4,h5 false 1⟩,hn⟩
theorem slots_flat (sl : List SlotS) : ∀ y ∈ sl.map pvSlot,Flat y := fun y hy => by
 obtain ⟨s,_,rfl⟩ := List.mem_map.1 hy
 exact flat_slot s
theorem c11 (F : LF l d σ p A uo so x mss uss gss) (m : Int) {R : Res → St → Prop} (h1 : inN l.length m = true → ∀ k,R (.ret (.tuple [.list k ((slotsN l A.T m.toNat).map pvSlot),.int .i64 0])) σ)
  (h2 : inN l.length m = false → R (.ret (.tuple [.list .nil [],.int .i64 11])) σ) : W 11 [.ptr p 0 0 0,.int .i64 m] σ R := by
 refine callW_fold ?_
 rw [fn11_eq]
 delta fn11 bF lF nI nL
 refine (c33 F m).callB ?_
 cases hi : inN l.length m with
 | false =>
  have e : ((11 : Int) != 0) = true := rfl
  simp only [Bool.false_eq_true,if_false,e,zz,Nat.reduceEqDiff]
  exact weakW_keep (h2 hi)
 | true =>
  obtain ⟨hm1,hm2⟩ := inN_nat hi
  have e : ((0 : Int) != 0) = false := rfl
  have hnl : vNil (.ptr p 0 0 0) = some (.ptr p 0 0 0) := rfl
  have h5 : vLoad false 1 (.ptr p 0 0 5) σ = some x.mv := F.M.cell rfl
  simp only [if_true,e,hnl,h5,zz,Nat.reduceEqDiff]
  refine (c14 F m).callC ?_
  have hmr : mapR l A.T m = numN l A.T m.toNat := by unfold mapR; rw [hi]; rfl
  obtain ⟨q,k,hq1,⟨q2,hq2,hq3⟩,hkn⟩ := F.map_at (F.mode hm2)
  simp only [hmr,hq1,hq2,hq3,zz,Nat.reduceEqDiff]
  have hsl : (slotsN l A.T m.toNat).length ≤ 1000000 := F.small.2 _ (List.mem_of_getElem? (F.mode hm2))
  refine clone_list k34 (.list _ _) (.inl ⟨_,rfl,fun h => by rw [hkn h]; rfl⟩) (fun y hy => by
   obtain ⟨s,_,rfl⟩ := List.mem_map.1 hy
   exact ⟨_,rfl,rfl⟩) (slots_flat _) (by simp only [List.length_map]; omega) fun k' _ => ?_
  show weakW _ _ _ _
  exact weakW_keep (h1 hi k')
end
end Go.Proofs.YteikomnahelckaaGreatDoor
