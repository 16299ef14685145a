import Derived.Test.YtgghfcchanilpaaGreatDoorTabW
set_option linter.unusedVariables false
set_option linter.unusedSimpArgs false
namespace Go.Proofs.YtgghfcchanilpaaGreatDoor
open Go Go.Abs
def hasPre (s p : Str) : Bool := decide ((s.length : Int) ≥ p.length) && (s.take p.length == p)
theorem vSubStr_take {s : Str} {n : Nat} (h : n ≤ s.length) {k : IntKind} : vSubStr (.str s) none (some (.int k n)) = some (.str (s.take n)) := by
 simp [vSubStr,bound,h]
theorem vSubStr_drop {s : Str} {n : Nat} (h : n ≤ s.length) {k : IntKind} : vSubStr (.str s) (some (.int k n)) none = some (.str (s.drop n)) := by
 simp [vSubStr,bound,h]
theorem c220 (s p : Str) (σ : St) : Ret W1 220 [.str s,.str p] σ (.bool (hasPre s p)) := by
 refine ret_of1 fun R hR => ?_
 rw [fn220_eq]
 delta fn220 bF
 unfold hasPre at hR
 simp only [zz,Nat.reduceEqDiff]
 cases h : decide ((s.length : Int) ≥ p.length) with
 | true =>
  have h' : p.length ≤ s.length := by have := of_decide_eq_true h; omega
  rw [h] at hR
  simp only [vSubStr_take h',zz,Nat.reduceEqDiff]
  exact weakW_keep (by simpa using hR)
 | false =>
  rw [h] at hR
  simp only [zz,Nat.reduceEqDiff]
  exact weakW_keep (by simpa using hR)
theorem c103 (s p : Str) (σ : St) : Ret W1 103 [.str s,.str p] σ (.bool (hasPre s p)) := by
 refine ret_of1 fun R hR => ?_
 rw [fn103_eq]
 delta fn103
 refine (c220 s p _).callB ?_
 exact weakW_keep hR
theorem hasPre_len {s p : Str} (h : hasPre s p = true) : p.length ≤ s.length := by
 simp only [hasPre,Bool.and_eq_true,decide_eq_true_eq] at h
 omega
def TxtB (n : Nat) (f : FuncId) (args : List PV) (σ : St) : Prop := ∀ R : Res → St → Prop,(∀ u : Str,u.length ≤ n → R (.ret (.str u)) σ) → W1 f args σ R
theorem TxtB.callB {n : Nat} {f : FuncId} {args : List PV} {σ : St} (h : TxtB n f args σ) {K X : PV → St → Prop} (k : ∀ u : Str,u.length ≤ n → K (.str u) σ) : callB W1 f args σ K X := h _ k
theorem c231 {s l : Str} (c : UInt8) (hs : s.length ≤ 1000) (hl : l.length ≤ 10) (σ : St) : TxtB (s.length + 10) 231 [.str s,.str [c],.str l] σ := by
 intro R hR
 refine callW_fold ?_
 rw [fn231_eq]
 delta fn231 bF nI
 rw [vBin_add_str _ (by simp)]
 simp only [zz,Nat.reduceEqDiff]
 refine (c103 _ _ _).callB ?_
 cases h : hasPre s ([c] ++ [32]) with
 | true =>
  have h' : 2 ≤ s.length := hasPre_len h
  have hd : vSubStr (.str s) (some (.int .i64 2)) none = some (.str (s.drop 2)) := vSubStr_drop (n := 2) h'
  simp only [hd,zz,Nat.reduceEqDiff]
  rw [vBin_add_str _ (by simp; omega)]
  simp only [zz,Nat.reduceEqDiff]
  exact weakW_keep (hR _ (by simp; omega))
 | false =>
  simp only [zz,Nat.reduceEqDiff]
  rw [vBin_add_str _ (by simp)]
  simp only [zz,Nat.reduceEqDiff]
  rw [vBin_add_str _ (by simp)]
  simp only [zz,Nat.reduceEqDiff]
  refine (c103 _ _ _).callB ?_
  cases h : hasPre s ([82,69,70,32] ++ [c] ++ [32]) with
  | true =>
   have h' : 6 ≤ s.length := hasPre_len h
   have hd : vSubStr (.str s) (some (.int .i64 6)) none = some (.str (s.drop 6)) := vSubStr_drop (n := 6) h'
   simp only [zz,Nat.reduceEqDiff]
   rw [vBin_add_str _ (by simp; omega)]
   simp only [hd,zz,Nat.reduceEqDiff]
   rw [vBin_add_str _ (by simp; omega)]
   simp only [zz,Nat.reduceEqDiff]
   exact weakW_keep (hR _ (by simp; omega))
  | false =>
   simp only [zz,Nat.reduceEqDiff]
   exact weakW_keep (hR _ (by omega))
theorem c232 {k : Int} (h0 : 0 ≤ k) (h3 : k < 3) (σ : St) : TxtB 10 232 [.int .i64 k] σ := by
 intro R hR
 refine callW_fold ?_
 rw [fn232_eq]
 delta fn232
 have hb : vBuildSl 1 (List.replicate 3 (.str [])) [(0,(.str [83,72,79,82,84,32])),(1,(.str [])),(2,(.str [76,79,78,71,32]))] = some [.str [83,72,79,82,84,32],.str [],.str [76,79,78,71,32]] := rfl
 simp only [hb,zz,Nat.reduceEqDiff]
 obtain rfl | rfl | rfl : k = 0 ∨ k = 1 ∨ k = 2 := by omega
 ·exact weakW_keep (hR [83,72,79,82,84,32] (by decide))
 ·exact weakW_keep (hR [] (by decide))
 ·exact weakW_keep (hR [76,79,78,71,32] (by decide))
structure Rn where
 s : Str
 p : Int
 l : Str
 r : Str
 q : Str
 d : Int
def toRn (x : PV) : Option Rn :=
 match x with
 | .agg [.str s,.int .i64 p,.str l,.str r,.str q,.int .i64 d] => some ⟨s,p,l,r,q,d⟩
 | _ => none
def pvRn (x : Rn) : PV := .agg [.str x.s,.int .i64 x.p,.str x.l,.str x.r,.str x.q,.int .i64 x.d]
def preB (s : Str) (c : UInt8) : Bool := hasPre s ([c] ++ [32]) || hasPre s ([82,69,70,32] ++ [c] ++ [32])
def Rn.let_ (x : Rn) (c : UInt8) : Bool := [x.l,x.r,x.q].any fun s => preB s c
def Rn.ok (x : Rn) : Bool := decide (x.s.length < 100) && (decide (x.l.length < 100) && (decide (x.r.length < 100) && decide (x.q.length < 100)))
def Rn.n (x : Rn) : Nat := if x.let_ 83 then 2 else if x.let_ 76 then 3 else 1
def Rn.k (x : Rn) : Nat := if x.let_ 83 then 0 else if x.let_ 76 then 0 else 1
def Rn.cnt (x : Rn) : Nat := (splitB 32 x.s).length * x.n
theorem c128 (x : Rn) (c : UInt8) (σ : St) : Ret W1 128 [pvRn x,.str [c]] σ (.bool (x.let_ c)) := by
 refine ret_of1 fun R hR => ?_
 rw [fn128_eq]
 delta fn128 bF pF kF nI
 have hbox : opC.vBoxAny (pvRn x) = some (6,pvRn x) := rfl
 have e2 : vPart false 1 (pvRn x) 2 = some (.str x.l) := rfl
 have e3 : vPart false 1 (pvRn x) 3 = some (.str x.r) := rfl
 have e4 : vPart false 1 (pvRn x) 4 = some (.str x.q) := rfl
 have hb : vBuildSl 1 (List.replicate 3 (.str [])) [(0,(.str x.l)),(1,(.str x.r)),(2,(.str x.q))] = some ([x.l,x.r,x.q].map PV.str) := rfl
 unfold Rn.let_ at hR
 have hl : [x.l,x.r,x.q].length = 3 := rfl
 simp only [hbox,e2,e3,e4,hb,zz,Nat.reduceEqDiff]
 generalize [x.l,x.r,x.q] = l at hR hl
 refine CutW_of ?_
 simp only [List.length_map,zz,Nat.reduceEqDiff]
 refine Lfp_up l.length (fun i x σ' => x = lookP [(1,.str [c]),(13,.list .full (l.map .str)),(14,.int .i64 l.length),(15,.int .i64 i)] ∧ σ' = σ ∧ (l.take i).any (fun s => preB s c) = false) ?_ ⟨rfl,rfl,rfl⟩
 rintro Φ i x σ' hi ⟨rfl,rfl,hp⟩ next
 simp only [zz,Nat.reduceEqDiff]
 by_cases hlt : i < l.length
 ·have hc : l[i]? = some l[i] := by simp [hlt]
  generalize l[i] = s at hc
  have hix : vIndex 1 (.list .full (l.map PV.str)) (.int .i64 (i : Int)) = some (.eptr (.str s) 0) := vIndex_list _ (by rw [List.getElem?_map,hc]; rfl) (cs := _) rfl rfl
  simp only [hlt,hix,zz,Nat.reduceEqDiff]
  rw [vBin_add_str _ (by simp)]
  simp only [zz,Nat.reduceEqDiff]
  refine (c103 _ _ _).callB ?_
  cases h : hasPre s ([c] ++ [32]) with
  | true =>
   simp only [zz,Nat.reduceEqDiff]
   refine weakW_keep ?_
   rw [any_of_get hc (by simp [preB] at h ⊢; simp [h])] at hR
   exact hR
  | false =>
   simp only [zz,Nat.reduceEqDiff]
   rw [vBin_add_str _ (by simp)]
   simp only [zz,Nat.reduceEqDiff]
   rw [vBin_add_str _ (by simp)]
   simp only [zz,Nat.reduceEqDiff]
   refine (c103 _ _ _).callB ?_
   cases h2 : hasPre s ([82,69,70,32] ++ [c] ++ [32]) with
   | true =>
    simp only [zz,Nat.reduceEqDiff]
    refine weakW_keep ?_
    rw [any_of_get hc (q := fun s => preB s c) (by unfold preB; rw [h,h2]; rfl)] at hR
    exact hR
   | false =>
    simp only [zz,Nat.reduceEqDiff]
    rw [vBin_add _ (by omega) (by omega)]
    simp only [zz,Nat.reduceEqDiff]
    exact next _ _ hlt ⟨by simp,rfl,any_cons_false hp hc (by unfold preB; rw [h,h2]; rfl)⟩
 ·obtain rfl : i = l.length := by omega
  rw [List.take_length] at hp
  simp only [hlt,zz,Nat.reduceEqDiff]
  refine weakW_keep ?_
  rw [hp] at hR
  exact hR
theorem put7 (a b c d e f g : PV) (u : Str) : vPut 1 (.agg [a,b,c,d,e,f,g]) 1 (.str u) = some (.agg [a,.str u,c,d,e,f,g]) ∧ vPut 1 (.agg [a,b,c,d,e,f,g]) 2 (.str u) = some (.agg [a,b,.str u,d,e,f,g]) ∧
  vPut 1 (.agg [a,b,c,d,e,f,g]) 3 (.str u) = some (.agg [a,b,c,.str u,e,f,g]) ∧ (∀ n,vPut 1 (.agg [a,b,c,d,e,f,g]) 6 (.int .i64 n) = some (.agg [a,b,c,d,e,f,.int .i64 n])) ∧ vPart true 7 (.agg [a,b,c,d,e,f,g]) 0 = some (.agg [a,b,c,d,e,f,g]) := ⟨rfl,rfl,rfl,fun _ => rfl,rfl⟩
theorem put7i (a b c d e f g : PV) (n : Int) : vPut 1 (.agg [a,b,c,d,e,f,g]) 6 (.int .i64 n) = some (.agg [a,b,c,d,e,f,.int .i64 n]) := rfl
theorem part7 (a b c d e f g : PV) : vPart true 7 (.agg [a,b,c,d,e,f,g]) 0 = some (.agg [a,b,c,d,e,f,g]) := rfl
theorem c129 {x : Rn} (hx : x.ok = true) {k : Int} (h0 : 0 ≤ k) (h3 : k < 3) (t : Str) (σ : St) : Seven 129 [pvRn x,.str t,.int .i64 k] σ := by
 intro R hR
 refine callW_fold ?_
 rw [fn129_eq]
 delta fn129 bF pF uF kF nI wvR
 simp only [Rn.ok,Bool.and_eq_true,decide_eq_true_eq] at hx
 obtain ⟨x1,x2,x3,x4⟩ := hx
 have hbox : opC.vBoxAny (pvRn x) = some (6,pvRn x) := rfl
 have e1 : vPart false 1 (pvRn x) 1 = some (.int .i64 x.p) := rfl
 have e2 : vPart false 1 (pvRn x) 2 = some (.str x.l) := rfl
 have e3 : vPart false 1 (pvRn x) 3 = some (.str x.r) := rfl
 have e4 : vPart false 1 (pvRn x) 4 = some (.str x.q) := rfl
 have e5 : vPart false 1 (pvRn x) 5 = some (.int .i64 x.d) := rfl
 have hb : vBuild [(.str []),(.str []),(.str []),(.str []),(.int .i64 0),(.int .i64 0),(.int .i64 0)] [(0,1,.str t),(1,1,.str x.l),(2,1,.str x.r),(3,1,.str x.q),(4,1,.int .i64 x.p),(5,1,.int .i64 x.d)] = some [.str t,.str x.l,.str x.r,.str x.q,.int .i64 x.p,.int .i64 x.d,.int .i64 0] := rfl
 have hput : ∀ a b c d e f g,vPut 7 (.agg [(.str []),(.str []),(.str []),(.str []),(.int .i64 0),(.int .i64 0),(.int .i64 0)]) 0 (.agg [.str a,.str b,.str c,.str d,.int .i64 e,.int .i64 f,.int .i64 g]) = some (.agg [.str a,.str b,.str c,.str d,.int .i64 e,.int .i64 f,.int .i64 g]) := fun _ _ _ _ _ _ _ => rfl
 simp only [hbox,e1,e2,e3,e4,e5,hb,hput,put7,zz,Nat.reduceEqDiff]
 refine (c232 h0 h3 _).callB fun l1 hl1 => ?_
 refine (c231 76 (by omega) hl1 _).callB fun u1 hu1 => ?_
 refine (c232 h0 h3 _).callB fun l2 hl2 => ?_
 refine (c231 76 (by omega) hl2 _).callB fun u2 hu2 => ?_
 refine (c232 h0 h3 _).callB fun l3 hl3 => ?_
 refine (c231 76 (by omega) hl3 _).callB fun u3 hu3 => ?_
 simp only [put7,zz,Nat.reduceEqDiff]
 refine (c232 h0 h3 _).callB fun l4 hl4 => ?_
 refine (c231 83 (by omega) hl4 _).callB fun u4 hu4 => ?_
 refine (c232 h0 h3 _).callB fun l5 hl5 => ?_
 refine (c231 83 (by omega) hl5 _).callB fun u5 hu5 => ?_
 simp only [put7,zz,Nat.reduceEqDiff]
 refine CutW_of ?_
 cases hk : decide (k < 2) with
 | true =>
  have hk' := of_decide_eq_true hk
  simp only [zz,Nat.reduceEqDiff]
  rw [vBin_add _ (by omega) (by omega)]
  simp only [zz,Nat.reduceEqDiff]
  refine (c232 (by omega) (by omega) _).callB fun l6 hl6 => ?_
  refine (c231 78 (by omega) hl6 _).callB fun u6 hu6 => ?_
  refine (c232 (by omega) (by omega) _).callB fun l7 hl7 => ?_
  refine (c231 78 (by omega) hl7 _).callB fun u7 hu7 => ?_
  simp only [put7,hput,resCons,vResults,zz,Nat.reduceEqDiff]
  exact weakW_keep (hR _ rfl)
 | false =>
  simp only [put7,hput,resCons,vResults,zz,Nat.reduceEqDiff]
  exact weakW_keep (hR _ rfl)
structure RLines (L : List Rn) : Prop where
 eq : L.map pvRn = lines127
 ok : L.all Rn.ok = true
 cnt : (L.map Rn.cnt).sum = 470
 len : L.length = 135
def rns : List Rn := lines127.filterMap toRn
theorem ex_rlines : ∃ L,RLines L := ⟨rns,by kernel_rfl,by kernel_rfl,by kernel_rfl,by kernel_rfl⟩
theorem r127 {L : List Rn} (H : RLines L) (σ : St) : Ret W1 127 [] σ (.list .full (L.map pvRn)) := ret_of1 fun R hR => by
 rw [lines127_eq,← H.eq]
 exact weakW_keep hR
theorem r48 {s : Str} (h : s.length < 4294967281) (σ : St) : Ret W1 48 [.str s,.str [32]] σ (.list .full ((splitB 32 s).map .str)) := ret_of1 fun R hR => by
 show bindO False (extSplit [.str s,.str [32]] σ) (fun r => R (.ret r.1) r.2)
 have : extSplit [.str s,.str [32]] σ = some (.list .full ((splitB 32 s).map .str),σ) := by
  simp only [extSplit]
  rw [if_pos h]
 rw [this]
 exact hR
theorem c68 : callW Tryz.prog ann1 68 [] [] (fun r _ => ∃ b g z o,r = .ret (.sref b g z o nOpers)) := by
 obtain ⟨L,H⟩ := ex_rlines
 have hL := H.len
 refine callW_fold ?_
 rw [fn68_eq]
 delta fn68 bF pF uF kF nI nL mF
 refine CutW_of ?_
 refine (r127 H _).callB ?_
 simp only [List.length_map,zz,Nat.reduceEqDiff]
 refine Lfp_up L.length (fun i x σ' => ∃ out,x = lookP [(1,out),(11,.list .full (L.map pvRn)),(12,.int .i64 L.length),(13,.int .i64 i)] ∧ GrowN ((L.take i).map Rn.cnt).sum σ' out) ?_ ⟨_,rfl,[],.nil _ _ _,rfl⟩
 rintro Φ i x σ' hi ⟨out,rfl,hg⟩ next
 simp only [zz,Nat.reduceEqDiff]
 by_cases hlt : i < L.length
 ·have hc : L[i]? = some L[i] := by simp [hlt]
  have hmem : L[i] ∈ L := by simp
  generalize L[i] = ln at hc hmem
  have hok := all_in H.ok hmem
  have hok' := hok
  simp only [Rn.ok,Bool.and_eq_true,decide_eq_true_eq] at hok'
  obtain ⟨s1,s2,s3,s4⟩ := hok'
  have hix : vIndex 6 (.list .full (L.map pvRn)) (.int .i64 (i : Int)) = some (.eptr (pvRn ln) 0) := vIndex_list _ (by rw [List.getElem?_map,hc]; rfl) (cs := _) rfl rfl
  have hpart : vPart true 6 (pvRn ln) 0 = some (pvRn ln) := rfl
  have hput : vPut 6 (.agg [(.str []),(.int .i64 0),(.str []),(.str []),(.str []),(.int .i64 0)]) 0 (pvRn ln) = some (pvRn ln) := rfl
  have e0 : vPart false 1 (pvRn ln) 0 = some (.str ln.s) := rfl
  have hle := sum_take_le Rn.cnt L (i + 1)
  rw [sum_take_succ _ hc,H.cnt] at hle
  have hnext : ((L.take (i + 1)).map Rn.cnt).sum = ((L.take i).map Rn.cnt).sum + ln.cnt := sum_take_succ _ hc
  generalize hB : ((L.take i).map Rn.cnt).sum = B at hg hle hnext
  have hcnt : ln.cnt = (splitB 32 ln.s).length * ln.n := rfl
  have hlen : vLen .sl out σ' = some (.int .i64 B) := by
   obtain ⟨ys,g,hl⟩ := hg
   rw [← hl]
   exact g.elems.len σ'
  simp only [hlt,hix,hpart,hput,hlen,zz,Nat.reduceEqDiff]
  refine CutW_of ?_
  refine CutW_by (fun y τ => y = lookP [(1,out),(4,.int .i64 B),(5,.int .i64 ((if ln.let_ 76 then 3 else 1 : Nat) : Int)),(6,.int .i64 ((if ln.let_ 76 then 0 else 1 : Nat) : Int)),(11,.list .full (L.map pvRn)),(12,.int .i64 L.length),(13,.int .i64 i),(3,pvRn ln)] ∧ τ = σ') ?_ ?_
  case refine_2 =>
   refine (c128 ln 76 _).callB ?_
   cases ln.let_ 76 with
   | true => simp only [zz,Nat.reduceEqDiff]; exact ⟨rfl,trivial⟩
   | false => simp only [zz,Nat.reduceEqDiff]; exact ⟨rfl,trivial⟩
  rintro y τ ⟨rfl,rfl⟩
  simp only [hpart,zz,Nat.reduceEqDiff]
  refine CutW_by (fun y τ' => y = lookP [(1,out),(4,.int .i64 B),(5,.int .i64 ln.n),(6,.int .i64 ln.k),(11,.list .full (L.map pvRn)),(12,.int .i64 L.length),(13,.int .i64 i),(3,pvRn ln)] ∧ τ' = τ) ?_ ?_
  case refine_2 =>
   refine (c128 ln 83 _).callB ?_
   unfold Rn.n Rn.k
   cases ln.let_ 83 with
   | true => simp only [zz,Nat.reduceEqDiff]; exact ⟨rfl,trivial⟩
   | false => simp only [zz,Nat.reduceEqDiff]; exact ⟨rfl,trivial⟩
  rintro y τ ⟨rfl,rfl⟩
  have hnk : ln.k + ln.n ≤ 3 := by
   unfold Rn.n Rn.k
   split
   ·omega
   ·split <;> omega
  have hn1 : 1 ≤ ln.n := by
   unfold Rn.n
   split
   ·omega
   ·split <;> omega
  simp only [e0,zz,Nat.reduceEqDiff]
  refine (r48 (by omega) _).callB ?_
  simp only [List.length_map,zz,Nat.reduceEqDiff]
  generalize splitB 32 ln.s = ws at hcnt
  generalize ln.n = n at hcnt hnk hn1
  generalize ln.k = k0 at hnk
  refine Lfp_up ws.length (fun j x σ' => ∃ out,x = lookP [(1,out),(4,.int .i64 B),(5,.int .i64 n),(6,.int .i64 k0),(11,.list .full (L.map pvRn)),(12,.int .i64 L.length),(13,.int .i64 i),(25,.list .full (ws.map .str)),(26,.int .i64 ws.length),(27,.int .i64 j),(3,pvRn ln)] ∧ GrowN (B + j * n) σ' out) ?_ ⟨_,rfl,by simpa using hg⟩
  clear hg hlen
  rintro Φ2 j x σ2 hj ⟨out,rfl,hg⟩ next2
  simp only [zz,Nat.reduceEqDiff]
  have hws : ws.length ≤ ws.length * n := Nat.le_mul_of_pos_right _ (by omega)
  by_cases hlt2 : j < ws.length
  ·have hc2 : ws[j]? = some ws[j] := by simp [hlt2]
   generalize ws[j] = w at hc2
   have hix2 : vIndex 1 (.list .full (ws.map PV.str)) (.int .i64 (j : Int)) = some (.eptr (.str w) 0) := vIndex_list _ (by rw [List.getElem?_map,hc2]; rfl) (cs := _) rfl rfl
   simp only [hlt2,hix2,zz,Nat.reduceEqDiff]
   refine CutW_of ?_
   have hmul : (j + 1) * n ≤ ws.length * n := Nat.mul_le_mul_right _ hlt2
   rw [Nat.add_mul] at hmul
   refine Lfp_up n (fun k x σ' => ∃ out,x = lookP [(1,out),(4,.int .i64 B),(5,.int .i64 n),(6,.int .i64 k0),(8,.str w),(9,.int .i64 k),(11,.list .full (L.map pvRn)),(12,.int .i64 L.length),(13,.int .i64 i),(25,.list .full (ws.map .str)),(26,.int .i64 ws.length),(27,.int .i64 j),(3,pvRn ln)] ∧ GrowN (B + j * n + k) σ' out) ?_ ⟨out,rfl,by simpa using hg⟩
   clear hg
   rintro Φ3 k x σ3 hk ⟨out,rfl,hg⟩ next3
   simp only [zz,Nat.reduceEqDiff]
   by_cases hlt3 : k < n
   ·simp only [hlt3,hpart,zz,Nat.reduceEqDiff]
    rw [vBin_add _ (by omega) (by omega)]
    simp only [zz,Nat.reduceEqDiff]
    refine (c129 hok (k := (k0 : Int) + k) (by omega) (by omega) w _).callB fun cs hcs => ?_
    match cs,hcs with
    | [a1,a2,a3,a4,a5,a6,a7],_ =>
     have hz : vPut 7 (.agg [(.str []),(.str []),(.str []),(.str []),(.int .i64 0),(.int .i64 0),(.int .i64 0)]) 0 (.agg [a1,a2,a3,a4,a5,a6,a7]) = some (.agg [a1,a2,a3,a4,a5,a6,a7]) := vPut_agg rfl rfl
     simp only [hz,zz,Nat.reduceEqDiff]
     rw [vBin_add _ (by omega) (by omega)]
     obtain ⟨x',σ4,h1,g1⟩ := hg.app (by omega) (cs := [a1,a2,a3,a4,a5,a6,.int .i64 ((B : Int) + k)]) rfl
     simp only [put7i,part7,b1 [a1,a2,a3,a4,a5,a6,.int .i64 ((B : Int) + k)] rfl,h1,zz,Nat.reduceEqDiff]
     rw [vBin_add _ (by omega) (by omega)]
     simp only [zz,Nat.reduceEqDiff]
     refine next3 _ _ hlt3 ⟨x',?_,by rw [← Nat.add_assoc]; exact g1⟩
     simp
   ·obtain rfl : k = n := by omega
    simp only [hlt3,zz,Nat.reduceEqDiff]
    rw [vBin_add _ (by omega) (by omega)]
    simp only [zz,Nat.reduceEqDiff]
    refine next2 _ _ hlt2 ⟨out,by simp,?_⟩
    rw [Nat.add_mul,Nat.one_mul,← Nat.add_assoc]
    exact hg
  ·obtain rfl : j = ws.length := by omega
   simp only [hlt2,zz,Nat.reduceEqDiff]
   rw [vBin_add _ (by omega) (by omega)]
   simp only [zz,Nat.reduceEqDiff]
   refine next _ _ hlt ⟨out,by simp,?_⟩
   rw [hnext,hcnt]
   exact hg
 ·obtain rfl : i = L.length := by omega
  simp only [hlt,zz,Nat.reduceEqDiff]
  rw [List.take_length,H.cnt] at hg
  obtain ⟨ys,g,hl⟩ := hg
  refine weakW_keep ?_
  rcases g with ⟨rfl,rfl⟩ | ⟨b,g,_,rfl,_,_⟩
  ·cases hl
  ·exact ⟨b,g,7,0,by rw [hl]; rfl⟩
end Go.Proofs.YtgghfcchanilpaaGreatDoor
