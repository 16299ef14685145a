import Derived.Test.YtgghfcchanilpaaGreatDoorSpO
import Derived.Lib.IndexMore
import Derived.Test.YtgghfcchanilpaaGreatDoorPlJ
set_option linter.unusedVariables false
set_option linter.unusedSimpArgs false
namespace Go.Proofs.YtgghfcchanilpaaGreatDoor
open Go Go.Abs
def longB (l : Sl (Sl Int)) : Bool := longL l || decide (len l > 16384)
theorem c122 {l : Sl (Sl Int)} (hl : l.2.length ≤ 1048576) (σ : St) : Ret W 122 [pvSl pvInts l] σ (.bool (longB l)) := by
 refine ret_of fun R hR => ?_
 rw [fn122_eq]
 unfold fn122
 simp only [zz,Nat.reduceEqDiff]
 refine CutW_by (fun x τ => x 0 = pvSl pvInts l ∧ τ = σ ∧ longL l = false) (fun x τ hx => ?_) ?_
 ·obtain ⟨h0,rfl,hb⟩ := hx
  unfold longB at hR
  rw [hb,Bool.false_or] at hR
  simp only [h0,sl_len,zz,Nat.reduceEqDiff]
  exact weakW_keep hR
 refine Lfp_any l.2 (fun t => decide (len t > 4000)) (fun j => lookP [(0,pvSl pvInts l),(3,.int .i64 j)]) _ rfl (fun hb Φ => ?_) (fun Φ j t hg hmem hj hit next => ?_)
 ·simp only [sl_len,not_lt_len,Nat.lt_irrefl,decide_false,zz,Nat.reduceEqDiff]
  exact ⟨trivial,trivial,hb⟩
 have ht : vLen .sl (pvInts t) σ = some (.int .i64 (len t)) := sl_len _ _ _
 simp only [sl_len,lt_len hj,hj,decide_true,sl_idx encInts hg,encInts.part,ht,zz,Nat.reduceEqDiff]
 refine condB (fun hb => ?_) (fun hb => ?_)
 ·have h1 : longL l = true := hit hb
  unfold longB at hR
  rw [h1,Bool.true_or] at hR
  exact weakW_keep hR
 ·rw [vBin_add _ (by omega) (by omega)]
  simp only [zz,Nat.reduceEqDiff]
  exact next hb
theorem over_eq (c : CodeS) : overB c = ((decide (len c.insts > 16384) || decide (len c.maps > 16384) || decide (len c.sigs > 16384) || decide (len c.routs > 16384) || decide (len c.texts > 16384) || decide (len c.trans > 16384) || decide (len c.lines > 16384) || longB c.unions || longB c.jumps || longB c.parts) ||
   (c.maps.2.any fun m => decide (len m > 1000)) || (c.routs.2.any fun r => decide (len r.ranges > 4000)) || (c.texts.2.any fun s => decide ((s.length : Int) > 65536))) := by
  simp only [overB,lensOver,innerOver,longB,List.any_cons,List.any_nil]
  generalize decide (len c.insts > 16384) = b1
  generalize decide (len c.maps > 16384) = b2
  generalize decide (len c.sigs > 16384) = b3
  generalize decide (len c.routs > 16384) = b4
  generalize decide (len c.texts > 16384) = b5
  generalize decide (len c.trans > 16384) = b6
  generalize decide (len c.lines > 16384) = b7
  generalize decide (len c.unions > 16384) = b8
  generalize decide (len c.jumps > 16384) = b9
  generalize decide (len c.parts > 16384) = b10
  generalize longL c.unions = d1
  generalize longL c.jumps = d2
  generalize longL c.parts = d3
  generalize (c.maps.2.any fun m => decide (len m > 1000)) = d4
  generalize (c.routs.2.any fun r => decide (len r.ranges > 4000)) = d5
  generalize (c.texts.2.any fun s => decide ((s.length : Int) > 65536)) = d6
  simp only [Bool.or_false]
  ac_rfl
theorem c64 {c : CodeS} (hc : Okay c) (σ : St) : Ret W 64 [pvCode c] σ (.bool (!overB c)) := by
 refine ret_of fun R hR => ?_
 rw [fn64_eq]
 unfold fn64
 have hm := hc.maps
 have hu := hc.unions
 have hr := hc.routs
 have ht := hc.texts
 have fin : ∀ b : Bool,overB c = !b → weakW σ (.bool b) σ fun v σ => R (.ret v) σ := fun n hb => by
  rw [hb,Bool.not_not] at hR
  exact weakW_keep hR
 clear hR
 have hov := over_eq c
 simp only [code_parts,sl_len,zz,Nat.reduceEqDiff]
 refine orG (decide (len c.maps > 16384)) (fun _ J hJ => hJ _ rfl) ?_
 refine orG (decide (len c.sigs > 16384)) (fun _ J hJ => hJ _ rfl) ?_
 refine orG (decide (len c.routs > 16384)) (fun _ J hJ => hJ _ rfl) ?_
 refine orG (decide (len c.texts > 16384)) (fun _ J hJ => hJ _ rfl) ?_
 refine orG (decide (len c.trans > 16384)) (fun _ J hJ => hJ _ rfl) ?_
 refine orG (decide (len c.lines > 16384)) (fun _ J hJ => hJ _ rfl) ?_
 refine orG (longB c.unions) (fun _ J hJ => ?_) ?_
 ·refine (c122 hc.unions _).callB ?_
  exact hJ _ rfl
 refine orG (longB c.jumps) (fun _ J hJ => ?_) ?_
 ·refine (c122 hc.jumps _).callB ?_
  exact hJ _ rfl
 refine orG (longB c.parts) (fun _ J hJ => ?_) ?_
 ·refine (c122 hc.parts _).callB ?_
  exact hJ _ rfl
 refine condB (fun hb => ?_) (fun hb => ?_)
 ·refine fin _ ?_
  rw [hov,hb]
  rfl
 rw [hb,Bool.false_or] at hov
 clear hb
 refine CutW_by (fun x τ => x 1 = pvCode c ∧ τ = σ ∧ (c.maps.2.any fun m => decide (len m > 1000)) = false) (fun x τ hx => ?_) ?_
 case refine_2 =>
  refine Lfp_any c.maps.2 (fun m => decide (len m > 1000)) (fun j => lookP [(3,.int .i64 j),(1,pvCode c)]) _ rfl (fun hb Φ => ?_) (fun Φ j m hg hmem hj hit next => ?_)
  ·simp only [code_parts,sl_len,not_lt_len,Nat.lt_irrefl,decide_false,zz,Nat.reduceEqDiff]
   exact ⟨trivial,trivial,hb⟩
  simp only [code_parts,sl_len,lt_len hj,hj,decide_true,sl_idx encMap hg,fldE,map_part,zz,Nat.reduceEqDiff,Nat.reduceAdd]
  refine condB (fun hb => ?_) (fun hb => ?_)
  ·refine fin _ ?_
   rw [hov,hit hb]
   rfl
  ·rw [vBin_add _ (by omega) (by omega)]
   simp only [zz,Nat.reduceEqDiff]
   exact next hb
 obtain ⟨h1,rfl,hb1⟩ := hx
 rw [hb1,Bool.false_or] at hov
 simp only [h1]
 clear h1 x
 refine CutW_by (fun x τ' => x 1 = pvCode c ∧ τ' = τ ∧ (c.routs.2.any fun r => decide (len r.ranges > 4000)) = false) (fun x τ' hx => ?_) ?_
 case refine_2 =>
  refine Lfp_any c.routs.2 (fun r => decide (len r.ranges > 4000)) (fun j => lookP [(4,.int .i64 j),(1,pvCode c)]) _ rfl (fun hb Φ => ?_) (fun Φ j r hg hmem hj hit next => ?_)
  ·simp only [code_parts,sl_len,not_lt_len,Nat.lt_irrefl,decide_false,zz,Nat.reduceEqDiff]
   exact ⟨trivial,trivial,hb⟩
  simp only [code_parts,sl_len,lt_len hj,hj,decide_true,sl_idx encRout hg,fldE,rout_parts,zz,Nat.reduceEqDiff,Nat.reduceAdd]
  refine condB (fun hb => ?_) (fun hb => ?_)
  ·refine fin _ ?_
   rw [hov,hit hb]
   rfl
  ·rw [vBin_add _ (by omega) (by omega)]
   simp only [zz,Nat.reduceEqDiff]
   exact next hb
 obtain ⟨h1,rfl,hb2⟩ := hx
 rw [hb2,Bool.false_or] at hov
 simp only [h1]
 clear h1 x
 refine CutW_by (fun x τ => τ = τ' ∧ (c.texts.2.any fun s => decide ((s.length : Int) > 65536)) = false) (fun x τ hx => ?_) ?_
 case refine_2 =>
  refine Lfp_any c.texts.2 (fun s => decide ((s.length : Int) > 65536)) (fun j => lookP [(5,.int .i64 j),(1,pvCode c)]) _ rfl (fun hb Φ => ?_) (fun Φ j s hg hmem hj hit next => ?_)
  ·simp only [code_parts,sl_len,not_lt_len,Nat.lt_irrefl,decide_false,zz,Nat.reduceEqDiff]
   exact ⟨trivial,hb⟩
  simp only [code_parts,sl_len,lt_len hj,hj,decide_true,sl_idx encStr hg,encStr.part,zz,Nat.reduceEqDiff,Nat.reduceAdd]
  refine condB (fun hb => ?_) (fun hb => ?_)
  ·refine fin _ ?_
   rw [hov,hit hb]
   rfl
  ·rw [vBin_add _ (by omega) (by omega)]
   simp only [zz,Nat.reduceEqDiff]
   exact next hb
 obtain ⟨rfl,hb3⟩ := hx
 refine fin _ ?_
 rw [hov,hb3]
 rfl
end Go.Proofs.YtgghfcchanilpaaGreatDoor
namespace Go.Abs
open Go.Lib (contains index occAt index_spec)
theorem contains_iff {s t : Str} : contains s t = true ↔ ∃ i,i ≤ s.length ∧ occAt s t i = true := by
 unfold contains
 rw [decide_eq_true_iff]
 rcases index_spec s t with ⟨h1,h2⟩ | ⟨i,h1,h2,h3,-⟩
 ·constructor
  ·intro h; omega
  ·rintro ⟨i,hi,ho⟩
   rw [h2 i hi] at ho
   cases ho
 ·exact ⟨fun _ => ⟨i,h2,h3⟩,fun _ => by omega⟩
def wordTab : List Str := [[112,114,105,110,116],[114,101,97,100],[112,114,105,110,116,102],[114,101,97,100,102],[112,117,116,98,105,110],[103,101,116,98,105,110]]
def wordLine : Str := [32,112,114,105,110,116,32,114,101,97,100,32,112,114,105,110,116,102,32,114,101,97,100,102,32,112,117,116,98,105,110,32,103,101,116,98,105,110,32]
def wordBad (w : Str) : Bool := !wordTab.any (fun x => w == x)
theorem tw_at : ∀ k : Fin 40,wordLine[k.val]? = some 32 → (wordLine.drop (k.val + 1)).takeWhile (fun b => !(b == 32)) = [] ∨ (wordTab.any fun x => (wordLine.drop (k.val + 1)).takeWhile (fun b => !(b == 32)) == x) = true := by
 decide +kernel
theorem tab_ok : wordTab.all (fun w => !(w == []) && (!contains w [32] && contains wordLine ([32] ++ w ++ [32]))) = true := by decide +kernel
theorem one_occ {w : Str} {c : UInt8} (h : c ∈ w) : contains w [c] = true := by
 rw [contains_iff]
 obtain ⟨i,hi,rfl⟩ := List.getElem_of_mem h
 refine ⟨i,by omega,?_⟩
 unfold occAt
 rw [List.drop_eq_getElem_cons hi]
 simp [List.isPrefixOf]
theorem tw_word {w r : Str} (h : ∀ c ∈ w,c ≠ 32) : (w ++ 32 :: r).takeWhile (fun b => !(b == 32)) = w := by
 induction w with
 | nil => rfl
 | cons c w ih =>
  have hc : (!(c == 32)) = true := by simpa using h c (by simp)
  rw [List.cons_append,List.takeWhile_cons,if_pos hc,ih fun d hd => h d (by simp [hd])]
theorem word_both (w : Str) : ((w == [] || contains w [32]) || !contains wordLine ([32] ++ w ++ [32])) = wordBad w := by
 unfold wordBad
 by_cases ht : (wordTab.any fun x => w == x) = true
 ·rw [ht]
  obtain ⟨x,hx,he⟩ := List.any_eq_true.1 ht
  obtain rfl : w = x := eq_of_beq he
  have := List.all_eq_true.1 tab_ok w hx
  simp only [Bool.and_eq_true,Bool.not_eq_true'] at this
  obtain ⟨h1,h2,h3⟩ := this
  rw [h1,h2,h3]
  rfl
 ·rw [Bool.not_eq_true] at ht
  rw [ht]
  by_cases h0 : (w == []) = true
  ·rw [h0]; rfl
  by_cases h1 : contains w [32] = true
  ·rw [h1]; simp
  rw [Bool.not_eq_true] at h0 h1
  rw [h0,h1]
  cases h2 : contains wordLine ([32] ++ w ++ [32]) with
  | false => rfl
  | true =>
   exfalso
   obtain ⟨i,hi,ho⟩ := contains_iff.1 h2
   have hns : ∀ c ∈ w,c ≠ 32 := fun c hc e => by
    subst e
    rw [one_occ hc] at h1
    cases h1
   unfold occAt at ho
   rw [List.isPrefixOf_iff_prefix] at ho
   obtain ⟨r,hr⟩ := ho
   have hi39 : i < 40 := by
    have : wordLine.length = 39 := rfl
    omega
   have hd : wordLine.drop i = 32 :: (w ++ 32 :: r) := by rw [← hr]; simp
   have hg : wordLine[i]? = some 32 := by
    have := congrArg (fun l => l[0]?) hd
    simpa using this
   have hd1 : wordLine.drop (i + 1) = w ++ 32 :: r := by
    rw [← List.drop_drop,hd]
    rfl
   have := tw_at ⟨i,hi39⟩ hg
   simp only [hd1,tw_word hns] at this
   rcases this with e | e
   ·rw [e] at h0
    cases h0
   ·rw [e] at ht
    cases ht
def transBad (c : CodeS) : Bool := c.trans.2.any fun t => wordBad t.word || !inS t.map (len c.maps)
def lAt (c : CodeS) (k : Nat) : Int := (c.lines.2.getD k (0,0)).1
def prevS (c : CodeS) (k : Nat) : Int := match k with | 0 => -1 | k + 1 => lAt c k
def lineE (c : CodeS) (k : Nat) : Int := if !inS (lAt c k) (len c.insts) || decide (lAt c k ≤ prevS c k) then 10 else 0
def tablesE (c : CodeS) : Int := if transBad c then 11 else firstE (lineE c) c.lines.2.length
theorem line_prev {c : CodeS} {k : Nat} (h : ∀ j,j < k → lineE c j = 0) : -1 ≤ prevS c k := by
 cases k with
 | zero => simp [prevS]
 | succ k =>
  have := h k (by omega)
  simp only [lineE] at this
  simp only [prevS]
  cases hb : inS (lAt c k) (len c.insts) with
  | false => rw [hb] at this; simp at this
  | true =>
   simp only [inS,Bool.and_eq_true,decide_eq_true_eq] at hb
   omega
theorem line_chk {c : CodeS} {k : Nat} (h : ∀ j,j < k → lineE c j = 0) : (decide (lAt c k ≤ prevS c k) || decide (lAt c k ≥ len c.insts)) = (!inS (lAt c k) (len c.insts) || decide (lAt c k ≤ prevS c k)) := by
 have := line_prev h
 rw [Bool.eq_iff_iff]
 simp only [inS,Bool.or_eq_true,Bool.not_eq_true',Bool.and_eq_false_iff,decide_eq_true_eq,decide_eq_false_iff_not]
 omega
end Go.Abs
