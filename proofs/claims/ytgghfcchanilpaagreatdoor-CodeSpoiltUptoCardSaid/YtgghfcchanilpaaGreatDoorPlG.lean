import Derived.Lib.IndexMore
import Derived.Test.YtgghfcchanilpaaGreatDoorPlJ
import Derived.Test.YtgghfcchanilpaaGreatDoorSpN
set_option linter.unusedVariables false
set_option linter.unusedSimpArgs false
namespace Go.Abs
open Go.Lib (contains index occAt index_spec)
theorem contains_iff {s t : Str} : contains s t = true ↔ ∃ i,i ≤ s.length ∧ occAt s t i = true := by
 unfold contains
 rw [decide_eq_true_iff]
 rcases index_spec s t with ⟨h1,h2⟩ | ⟨i,h1,h2,h3,-⟩
 ·constructor
  ·intro h; omega
  ·rintro ⟨i,hi,ho⟩
   rw [h2 i hi] at ho
   cases ho
 ·exact ⟨fun _ => ⟨i,h2,h3⟩,fun _ => by omega⟩
def wordTab : List Str := [[112,114,105,110,116],[114,101,97,100],[112,114,105,110,116,102],[114,101,97,100,102],[112,117,116,98,105,110],[103,101,116,98,105,110]]
def wordLine : Str := [32,112,114,105,110,116,32,114,101,97,100,32,112,114,105,110,116,102,32,114,101,97,100,102,32,112,117,116,98,105,110,32,103,101,116,98,105,110,32]
def wordBad (w : Str) : Bool := !wordTab.any (fun x => w == x)
theorem tw_at : ∀ k : Fin 40,wordLine[k.val]? = some 32 → (wordLine.drop (k.val + 1)).takeWhile (fun b => !(b == 32)) = [] ∨ (wordTab.any fun x => (wordLine.drop (k.val + 1)).takeWhile (fun b => !(b == 32)) == x) = true := by
 decide +kernel
theorem tab_ok : wordTab.all (fun w => !(w == []) && (!contains w [32] && contains wordLine ([32] ++ w ++ [32]))) = true := by decide +kernel
theorem one_occ {w : Str} {c : UInt8} (h : c ∈ w) : contains w [c] = true := by
 rw [contains_iff]
 obtain ⟨i,hi,rfl⟩ := List.getElem_of_mem h
 refine ⟨i,by omega,?_⟩
 unfold occAt
 rw [List.drop_eq_getElem_cons hi]
 simp [List.isPrefixOf]
theorem tw_word {w r : Str} (h : ∀ c ∈ w,c ≠ 32) : (w ++ 32 :: r).takeWhile (fun b => !(b == 32)) = w := by
 induction w with
 | nil => rfl
 | cons c w ih =>
  have hc : (!(c == 32)) = true := by simpa using h c (by simp)
  rw [List.cons_append,List.takeWhile_cons,if_pos hc,ih fun d hd => h d (by simp [hd])]
theorem word_both (w : Str) : ((w == [] || contains w [32]) || !contains wordLine ([32] ++ w ++ [32])) = wordBad w := by
 unfold wordBad
 by_cases ht : (wordTab.any fun x => w == x) = true
 ·rw [ht]
  obtain ⟨x,hx,he⟩ := List.any_eq_true.1 ht
  obtain rfl : w = x := eq_of_beq he
  have := List.all_eq_true.1 tab_ok w hx
  simp only [Bool.and_eq_true,Bool.not_eq_true'] at this
  obtain ⟨h1,h2,h3⟩ := this
  rw [h1,h2,h3]
  rfl
 ·rw [Bool.not_eq_true] at ht
  rw [ht]
  by_cases h0 : (w == []) = true
  ·rw [h0]; rfl
  by_cases h1 : contains w [32] = true
  ·rw [h1]; simp
  rw [Bool.not_eq_true] at h0 h1
  rw [h0,h1]
  cases h2 : contains wordLine ([32] ++ w ++ [32]) with
  | false => rfl
  | true =>
   exfalso
   obtain ⟨i,hi,ho⟩ := contains_iff.1 h2
   have hns : ∀ c ∈ w,c ≠ 32 := fun c hc e => by
    subst e
    rw [one_occ hc] at h1
    cases h1
   unfold occAt at ho
   rw [List.isPrefixOf_iff_prefix] at ho
   obtain ⟨r,hr⟩ := ho
   have hi39 : i < 40 := by
    have : wordLine.length = 39 := rfl
    omega
   have hd : wordLine.drop i = 32 :: (w ++ 32 :: r) := by rw [← hr]; simp
   have hg : wordLine[i]? = some 32 := by
    have := congrArg (fun l => l[0]?) hd
    simpa using this
   have hd1 : wordLine.drop (i + 1) = w ++ 32 :: r := by
    rw [← List.drop_drop,hd]
    rfl
   have := tw_at ⟨i,hi39⟩ hg
   simp only [hd1,tw_word hns] at this
   rcases this with e | e
   ·rw [e] at h0
    cases h0
   ·rw [e] at ht
    cases ht
def transBad (c : CodeS) : Bool := c.trans.2.any fun t => wordBad t.word || !inS t.map (len c.maps)
def lAt (c : CodeS) (k : Nat) : Int := (c.lines.2.getD k (0,0)).1
def prevS (c : CodeS) (k : Nat) : Int := match k with | 0 => -1 | k + 1 => lAt c k
def lineE (c : CodeS) (k : Nat) : Int := if !inS (lAt c k) (len c.insts) || decide (lAt c k ≤ prevS c k) then 10 else 0
def tablesE (c : CodeS) : Int := if transBad c then 11 else firstE (lineE c) c.lines.2.length
theorem line_prev {c : CodeS} {k : Nat} (h : ∀ j,j < k → lineE c j = 0) : -1 ≤ prevS c k := by
 cases k with
 | zero => simp [prevS]
 | succ k =>
  have := h k (by omega)
  simp only [lineE] at this
  simp only [prevS]
  cases hb : inS (lAt c k) (len c.insts) with
  | false => rw [hb] at this; simp at this
  | true =>
   simp only [inS,Bool.and_eq_true,decide_eq_true_eq] at hb
   omega
theorem line_chk {c : CodeS} {k : Nat} (h : ∀ j,j < k → lineE c j = 0) : (decide (lAt c k ≤ prevS c k) || decide (lAt c k ≥ len c.insts)) = (!inS (lAt c k) (len c.insts) || decide (lAt c k ≤ prevS c k)) := by
 have := line_prev h
 rw [Bool.eq_iff_iff]
 simp only [inS,Bool.or_eq_true,Bool.not_eq_true',Bool.and_eq_false_iff,decide_eq_true_eq,decide_eq_false_iff_not]
 omega
end Go.Abs
namespace Go.Proofs.YtgghfcchanilpaaGreatDoor
open Go Go.Abs
theorem c117 {s t : Str} (h : s.length < 4294967281) (σ : St) : Ret W 117 [.str s,.str t] σ (.bool (Go.Lib.contains s t)) := ret_of fun R hR => by
 show bindO False (extContains [.str s,.str t] σ) (fun r => R (.ret r.1) r.2)
 have : extContains [.str s,.str t] σ = some (.bool (Go.Lib.contains s t),σ) := by simp only [extContains,h,if_true]
 rw [this]
 exact hR
theorem put_trans (t : TransS) : vPut 3 (.agg [(.str []),(.bool false),(.int .i64 0)]) 0 (pvTrans t) = some (pvTrans t) := rfl
theorem trans_parts (t : TransS) : vPart false 1 (pvTrans t) 0 = some (.str t.word) ∧ vPart false 1 (pvTrans t) 2 = some (.int .i64 t.map) ∧ vPart true 3 (pvTrans t) 0 = some (pvTrans t) := ⟨rfl,rfl,rfl⟩
theorem c62 {c : CodeS} (hc : Okay c) (a b : Int) (σ : St) : Ret W 62 [pvChk c a b] σ (.int .i64 (tablesE c)) := by
 refine ret_of fun R hR => ?_
 rw [fn62_eq]
 delta fn62 bF pF gF kF nI
 have ht := hc.trans
 have hl := hc.lines
 have fin : ∀ n : Int,tablesE c = n → weakW σ (.int .i64 n) σ fun v σ => R (.ret v) σ := fun n hb => by
  rw [hb] at hR
  exact weakW_keep hR
 clear hR
 simp only [chk_parts,sl_len,zz,Nat.reduceEqDiff]
 refine Lfp_any c.trans.2 (fun t => wordBad t.word || !inS t.map (len c.maps)) (fun j => lookP [(10,pvSl pvTrans c.trans),(11,.int .i64 (len c.trans)),(12,.int .i64 j),(1,pvChk c a b)]) _ rfl (fun hb Φ => ?_) (fun Φ j t hg hmem hj hit next => ?_)
 case refine_2 =>
  have hw := hc.word t hmem
  simp only [lt_len hj,hj,decide_true,sl_idx encTrans hg,trans_parts,put_trans,chk_parts,sl_len,zz,Nat.reduceEqDiff]
  refine orG (Go.Lib.contains t.word [32]) (fun _ J hJ => ?_) ?_
  ·refine (c117 (by omega) _).callB ?_
   exact hJ _ rfl
  refine orG (!Go.Lib.contains wordLine ([32] ++ t.word ++ [32])) (fun _ J hJ => ?_) ?_
  ·rw [vBin_add_str _ (by simp; omega)]
   simp only [zz,Nat.reduceEqDiff]
   rw [vBin_add_str _ (by simp; omega)]
   simp only [zz,Nat.reduceEqDiff]
   refine (c117 (s := wordLine) (by decide) _).callB ?_
   simp only [zz,Nat.reduceEqDiff]
   exact hJ _ rfl
  rw [word_both]
  refine orG (!inS t.map (len c.maps)) (fun _ J hJ => ?_) ?_
  ·refine (c42 _ _ _).callB ?_
   simp only [zz,Nat.reduceEqDiff]
   exact hJ _ rfl
  refine condB (fun hb => ?_) (fun hb => ?_)
  ·refine fin _ ?_
   have : transBad c = true := hit hb
   simp only [tablesE,this,if_true]
  ·rw [vBin_add _ (by omega) (by omega)]
   simp only [zz,Nat.reduceEqDiff]
   exact next hb
 have htb : transBad c = false := hb
 clear hb
 simp only [not_lt_len,Nat.lt_irrefl,decide_false,chk_parts,sl_len,zz,Nat.reduceEqDiff]
 refine Lfp_first c.lines.2.length (lineE c) (fun j => lookP [(5,.int .i64 (prevS c j)),(45,pvSl pvSig c.lines),(46,.int .i64 (len c.lines)),(47,.int .i64 j),(1,pvChk c a b)]) _ rfl (fun hall Φ => ?_) (fun Φ j hj hpre hhit next => ?_)
 ·simp only [not_lt_len,Nat.lt_irrefl,decide_false,zz,Nat.reduceEqDiff]
  refine fin _ ?_
  simp only [tablesE,htb,Bool.false_eq_true,if_false,firstE_zero hall]
 have hg : c.lines.2[j]? = some (c.lines.2.getD j (0,0)) := by simp [List.getD_eq_getElem?_getD,hj]
 have p1 : vPart false 1 (pvSig (c.lines.2.getD j (0,0))) 0 = some (.int .i64 (lAt c j)) := rfl
 simp only [lt_len hj,hj,decide_true,sl_idx encSig hg,encSig.part,put_sig,sig_parts,p1,chk_parts,sl_len,zz,Nat.reduceEqDiff]
 have hq := line_chk hpre
 refine orG (decide (lAt c j ≥ len c.insts)) (fun _ J hJ => ?_) ?_
 ·exact hJ _ rfl
 rw [hq]
 refine condB (fun hb => ?_) (fun hb => ?_)
 ·have he : lineE c j = 10 := by simp only [lineE,hb,if_true]
  refine fin _ ?_
  simp only [tablesE,htb,Bool.false_eq_true,if_false,hhit (by rw [he]; omega),he]
 ·rw [vBin_add _ (by omega) (by omega)]
  simp only [zz,Nat.reduceEqDiff]
  refine next ?_
  simp only [lineE,hb,Bool.false_eq_true,if_false]
end Go.Proofs.YtgghfcchanilpaaGreatDoor
namespace Go.Abs
theorem headBad_of {c : CodeS} {k : Nat} (h : routE c k = 0) : headBad c k = false := by
 cases hb : headBad c k with
 | false => rfl
 | true =>
  simp only [routE,hb,if_true] at h
  omega
structure Fit (c : CodeS) : Prop where
 routs : ∀ i,i < c.routs.2.length → routE c i = 0
theorem Fit.out {c : CodeS} (h : Fit c) {i : Nat} (hi : i < c.routs.2.length) : OutOk c i := outOk_of fun k hk => headBad_of (h.routs k (by omega))
theorem Fit.frame {c : CodeS} (h : Fit c) {f : Int} (h0 : 0 ≤ f) (h1 : f < len c.routs) : 0 ≤ (rAt c f).frame ∧ (rAt c f).frame < len c.maps := by
 obtain ⟨n,rfl⟩ := Int.eq_ofNat_of_zero_le h0
 have := headBad_of (h.routs n (by unfold len at h1; omega))
 simp only [headBad,Bool.or_eq_false_iff,Bool.not_eq_false',inS,Bool.and_eq_true,decide_eq_true_eq] at this
 exact this.1.1.2
def reachN (c : CodeS) : Nat → Int → Int × Bool
 | 0,r => (r,true)
 | n + 1,r => if ((decide ((rAt c r).level < 1) || decide ((rAt c r).level > ((n + 1 : Nat) : Int))) || decide ((rAt c r).outer < 0)) = true then (0,false) else reachN c n (rAt c r).outer
def leadsN (c : CodeS) : Nat → Int → Bool
 | 0,_ => true
 | n + 1,r => if (decide ((rAt c r).level < 1) || decide ((rAt c r).level > ((n + 1 : Nat) : Int))) = true then false else leadsN c n (rAt c r).outer
theorem reach_leads {c : CodeS} {i : Nat} (ho : OutOk c i) : ∀ (n : Nat) (r : Int),0 ≤ r → r ≤ i → reachN c n r = if furS c n r ≥ 0 ∧ leadsN c n r = true then (furS c n r,true) else (0,false)
 | 0,r,h0,h1 => by simp [reachN,furS,leadsN,h0]
 | n + 1,r,h0,h1 => by
  have hr : ¬ r < 0 := by omega
  have hk := ho r.toNat (by omega)
  rw [Int.toNat_of_nonneg h0] at hk
  simp only [reachN,furS,leadsN,hr,if_false]
  cases hl : (decide ((rAt c r).level < 1) || decide ((rAt c r).level > ((n + 1 : Nat) : Int))) with
  | true => simp
  | false =>
   by_cases hn : (rAt c r).outer < 0
   ·rw [furS_neg c hn]
    have : ¬ (rAt c r).outer ≥ 0 := by omega
    simp [hn,this]
   ·rw [decide_eq_false hn]
    simp only [Bool.or_false,Bool.false_eq_true,if_false]
    exact reach_leads ho n _ (by omega) (by omega)
def reachS (c : CodeS) (r n : Int) : Int × Bool := if n < 0 then (r,false) else reachN c n.toNat r
def operandS (c : CodeS) (o : OperS) (l : Int) (r : Int) : Bool :=
 if o.k = 0 then ((l == 45 || l == 111) && (o.a == 0)) && (o.b == 0)
 else if o.k = 1 then ((l == 115 || l == 111) && (reachS c r o.b).2) && inS o.a (len (mAt c (rAt c (reachS c r o.b).1).frame))
 else if o.k = 2 then ((l == 114) && (reachS c r o.b).2) && inS o.a (len (rAt c (reachS c r o.b).1).ranges)
 else false
theorem reach_in {c : CodeS} {i : Nat} (ho : OutOk c i) {r n : Int} (h0 : 0 ≤ r) (h1 : r ≤ i) (h : (reachS c r n).2 = true) : 0 ≤ (reachS c r n).1 ∧ (reachS c r n).1 ≤ i := by
 unfold reachS at h ⊢
 split at h
 ·cases h
 ·rename_i hn
  rw [if_neg hn]
  rw [reach_leads ho _ _ h0 h1] at h ⊢
  split at h
  ·rename_i hc
   rw [if_pos hc]
   have := furS_bound ho n.toNat r (by omega) h1
   simp only
   omega
  ·cases h
end Go.Abs
