import Derived.Test.YteikomnahelckaaGreatDoorGrd
set_option linter.unusedVariables false
set_option linter.unusedSimpArgs false
namespace Go.Proofs.YteikomnahelckaaGreatDoor
open Go Go.Abs
abbrev W1 : CallP := callW Tryz.prog ann1
theorem ret_of1 {f : FuncId} {args : List PV} {σ : St} {v : PV} (h : ∀ R : Res → St → Prop,R (.ret v) σ → bodyC (algP W1) Tryz.prog ann1 f args σ R) : Ret W1 f args σ v := fun R hR => callW_fold (h R hR)
theorem all_in {α : Type} {p : α → Bool} {l : List α} (h : l.all p = true) {x : α} (hx : x ∈ l) : p x = true := List.all_eq_true.1 h x hx
structure Lines (L : List Ln) : Prop where
 eq : L.map pvLn = lines201 ++ lines202 ++ lines203
 ok : L.all Ln.ok = true
 cnt : (L.map Ln.cnt).sum = 470
 len : L.length = 135
 run : ∀ x ∈ L,∀ k ∈ x.fromTo,run206 x.l k = true ∧ run206 x.r k = true ∧ run206 x.q k = true
theorem mem_modes_of {L : List Ln} {M : List (Str × Int)} {p : Str → Int → Bool} (h1 : M.all (fun m => p m.1 m.2) = true) (h2 : L.all (fun x => x.fromTo.all fun k => M.contains (x.l,k) && (M.contains (x.r,k) && M.contains (x.q,k))) = true) :
  ∀ x ∈ L,∀ k ∈ x.fromTo,p x.l k = true ∧ p x.r k = true ∧ p x.q k = true := by
 intro x hx k hk
 have h3 := all_in (all_in h2 hx) hk
 simp only [Bool.and_eq_true,List.contains_iff_mem] at h3
 exact ⟨all_in h1 h3.1,all_in h1 h3.2.1,all_in h1 h3.2.2⟩
theorem ex_lines : ∃ L,Lines L := ⟨lns,lns_eq,lns_ok,lns_cnt,by kernel_rfl,mem_modes_of (p := run206) modes_run modes_all⟩
theorem ln_ok {x : Ln} (h : x.ok = true) : x.s.all (fun c => decide (c.toNat < 128)) = true ∧ x.s.length < 100 ∧ 0 ≤ x.a ∧ x.a ≤ x.b ∧ x.b < 3 ∧ 0 ≤ x.f ∧ x.f < 500 := by
 simpa only [Ln.ok,Bool.and_eq_true,decide_eq_true_eq] using h
theorem under_ln (n : Nat) (x : Ln) : Under n (pvLn x) := by
 refine .agg _ fun i y hy => ?_
 match i with
 | 0 => simp at hy; subst hy; exact .str _
 | 1 => simp at hy; subst hy; exact .int _ _
 | 2 => simp at hy; subst hy; exact .str _
 | 3 => simp at hy; subst hy; exact .str _
 | 4 => simp at hy; subst hy; exact .str _
 | 5 => simp at hy; subst hy; exact .int _ _
 | 6 => simp at hy; subst hy; exact .int _ _
 | 7 => simp at hy; subst hy; exact .int _ _
 | 8 => simp at hy; subst hy; exact .int _ _
 | i + 9 => simp at hy
theorem sized_lines {L : List Ln} (H : Lines L) : (∀ z ∈ lines202,Sized 9 z) ∧ (∀ z ∈ lines203,Sized 9 z) := by
 have h : ∀ z ∈ lines201 ++ lines202 ++ lines203,Sized 9 z := by
  rw [← H.eq]
  intro z hz
  obtain ⟨x,_,rfl⟩ := List.mem_map.1 hz
  exact ⟨_,rfl,rfl⟩
 exact ⟨fun z hz => h z (by simp [hz]),fun z hz => h z (by simp [hz])⟩
theorem r201 (σ : St) : Ret W1 201 [] σ (.list .full lines201) := ret_of1 fun R hR => by
 rw [lines201_eq]
 exact weakW_keep hR
theorem r202 (σ : St) : Ret W1 202 [] σ (.list .full lines202) := ret_of1 fun R hR => by
 rw [lines202_eq]
 exact weakW_keep hR
theorem r203 (σ : St) : Ret W1 203 [] σ (.list .full lines203) := ret_of1 fun R hR => by
 rw [lines203_eq]
 exact weakW_keep hR
theorem c136 {L : List Ln} (H : Lines L) (σ : St) : Ret W1 136 [] σ (.list .part (L.map pvLn)) := by
 refine ret_of1 fun R hR => ?_
 rw [fn136_eq]
 delta fn136
 refine (r201 σ).callB ?_
 refine (r202 σ).callB ?_
 have h0 : vAppend 9 104 (.list .full lines201) (.list .full lines202) σ = some (.sref σ.length 0 9 0 (lines201 ++ lines202).length,σ ++ [.arr 0 9 (lines201 ++ lines202)]) := by
  have e1 : lines202.isEmpty = false := rfl
  have e2 : roomy (lines201.length + lines202.length) 104 = true := by decide
  simp only [vAppend,vElems,e1,Bool.false_eq_true,if_false]
  rw [if_pos ⟨by simp,e2,rfl,headSized_of (sized_lines H).1⟩,List.length_append]
 have g0 : Grow σ.length 9 (σ ++ [.arr 0 9 (lines201 ++ lines202)]) (.sref σ.length 0 9 0 (lines201 ++ lines202).length) (lines201 ++ lines202) := .inr ⟨σ.length,0,Nat.le_refl _,rfl,by simp,by simp [lines201]⟩
 rw [h0]
 simp only [zz]
 refine (r203 _).callB ?_
 obtain ⟨x',σ',h1,g1,p1,_⟩ := g0.app (by_ := 104) (pre_app (List.prefix_refl σ) _) (y := .list .full lines203) (zs := lines203) rfl (sized_lines H).2 (by decide)
 rw [h1]
 simp only [zz]
 have e : growV (lines201 ++ lines202 ++ lines203) = .list .part (L.map pvLn) := by rw [H.eq]; kernel_rfl
 have hf := g1.frz fun y hy => ?_
 ·rw [e] at hf
  exact weakW_clean p1 hf hR
 ·rw [← H.eq] at hy
  obtain ⟨x,_,rfl⟩ := List.mem_map.1 hy
  exact .base _ (under_ln _ x)
theorem r206 {x : Ln} {s : Str} {k : Int} (h : run206 s k = true) (σ : St) : Ret W1 206 [pvLn x,.str s,.int .i64 k] σ (.str (withS s k)) := ret_of1 fun R hR => by
 show bindO False (ext206 [pvLn x,.str s,.int .i64 k] σ) (fun r => R (.ret r.1) r.2)
 have : ext206 [pvLn x,.str s,.int .i64 k] σ = some (.str (withS s k),σ) := by
  show (if [PV.str x.s,.int .i64 x.p,.str x.l,.str x.r,.str x.q,.int .i64 x.d,.int .i64 x.f,.int .i64 x.a,.int .i64 x.b].length = 9 ∧ run206 s k = true then some (PV.str (withS s k),σ) else none) = _
  rw [if_pos ⟨rfl,h⟩]
 rw [this]
 exact hR
theorem r137 {s : Str} (h : s.length < 4294967281) (ha : s.all (fun b => decide (b.toNat < 128)) = true) (σ : St) : Ret W1 137 [.str s] σ (.list .full ((Go.Lib.fields s).map .str)) := ret_of1 fun R hR => by
 show bindO False (extFields [.str s] σ) (fun r => R (.ret r.1) r.2)
 have : extFields [.str s] σ = some (.list .full ((Go.Lib.fields s).map .str),σ) := by
  simp only [extFields]
  rw [if_pos ⟨h,ha⟩]
 rw [this]
 exact hR
def Seven (f : FuncId) (args : List PV) (σ : St) : Prop := ∀ R : Res → St → Prop,(∀ cs,cs.length = 7 → R (.ret (.agg cs)) σ) → W1 f args σ R
theorem Seven.callB {f : FuncId} {args : List PV} {σ : St} (h : Seven f args σ) {K X : PV → St → Prop} (k : ∀ cs,cs.length = 7 → K (.agg cs) σ) : callB W1 f args σ K X := h _ k
theorem c138 {L : List Ln} (H : Lines L) {x : Ln} (hx : x ∈ L) {k : Int} (hk : k ∈ x.fromTo) (hk3 : 0 ≤ k ∧ k < 3) (t : Str) (σ : St) : Seven 138 [pvLn x,.str t,.int .i64 k] σ := by
 intro R hR
 refine callW_fold ?_
 rw [fn138_eq]
 delta fn138 bF pF nI wvR
 obtain ⟨m1,m2,m3⟩ := H.run x hx k hk
 obtain ⟨_,_,a1,a2,a3,f1,f2⟩ := ln_ok (all_in H.ok hx)
 have hbox : opC.vBoxAny (pvLn x) = some (9,pvLn x) := rfl
 have hpart : vPart true 9 (pvLn x) 0 = some (pvLn x) := rfl
 have e1 : vPart false 1 (pvLn x) 2 = some (.str x.l) := rfl
 have e2 : vPart false 1 (pvLn x) 3 = some (.str x.r) := rfl
 have e3 : vPart false 1 (pvLn x) 4 = some (.str x.q) := rfl
 have e4 : vPart false 1 (pvLn x) 1 = some (.int .i64 x.p) := rfl
 have e5 : vPart false 1 (pvLn x) 5 = some (.int .i64 x.d) := rfl
 have e6 : vPart false 1 (pvLn x) 6 = some (.int .i64 x.f) := rfl
 have e7 : vPart false 1 (pvLn x) 7 = some (.int .i64 x.a) := rfl
 simp only [hbox,hpart,e1,e2,e3,e4,e5,e6,e7,zz,Nat.reduceEqDiff]
 rw [vBin_add _ (by omega) (by omega)]
 simp only [zz,Nat.reduceEqDiff]
 rw [vBin_sub _ (by omega) (by omega)]
 simp only [zz,Nat.reduceEqDiff]
 refine (r206 m1 _).callB ?_
 refine (r206 m2 _).callB ?_
 refine (r206 m3 _).callB ?_
 generalize withS x.l k = u1
 generalize withS x.r k = u2
 generalize withS x.q k = u3
 generalize x.f + k - x.a = n
 have hb : vBuild [(.str []),(.str []),(.str []),(.str []),(.int .i64 0),(.int .i64 0),(.int .i64 0)] [(0,1,.str t),(1,1,.str u1),(2,1,.str u2),(3,1,.str u3),(4,1,.int .i64 x.p),(5,1,.int .i64 x.d),(6,1,.int .i64 n)] = some [.str t,.str u1,.str u2,.str u3,.int .i64 x.p,.int .i64 x.d,.int .i64 n] := rfl
 have hp : vPut 7 (.agg [(.str []),(.str []),(.str []),(.str []),(.int .i64 0),(.int .i64 0),(.int .i64 0)]) 0 (.agg [.str t,.str u1,.str u2,.str u3,.int .i64 x.p,.int .i64 x.d,.int .i64 n]) = some (.agg [.str t,.str u1,.str u2,.str u3,.int .i64 x.p,.int .i64 x.d,.int .i64 n]) := rfl
 have hq : vPart true 7 (.agg [.str t,.str u1,.str u2,.str u3,.int .i64 x.p,.int .i64 x.d,.int .i64 n]) 0 = some (.agg [.str t,.str u1,.str u2,.str u3,.int .i64 x.p,.int .i64 x.d,.int .i64 n]) := rfl
 simp only [hb,hp,hq,resCons,vResults,zz,Nat.reduceEqDiff]
 refine weakW_keep (hR _ rfl)
def GrowN (n : Nat) (σ : St) (x : PV) : Prop := ∃ ys,Grow 0 7 σ x ys ∧ ys.length = n
theorem GrowN.app {n : Nat} {σ : St} {x : PV} (h : GrowN n σ x) (hn : n < 1000) {cs : List PV} (hc : cs.length = 7) : ∃ x' σ',vAppend 7 88 x (.list .full [.agg cs]) σ = some (x',σ') ∧ GrowN (n + 1) σ' x' := by
 obtain ⟨ys,g,hl⟩ := h
 obtain ⟨x',σ',h1,g1,_,_⟩ := Grow.app (σ0 := []) (by_ := 88) g (List.nil_prefix) (y := .list .full [.agg cs]) (zs := [.agg cs]) rfl (by simp [Sized,PV.cells?,hc]) (by simp; omega)
 exact ⟨x',σ',h1,_,g1,by simp [hl]⟩
theorem sum_take_succ {α : Type} (f : α → Nat) {l : List α} {i : Nat} {a : α} (h : l[i]? = some a) : ((l.take (i + 1)).map f).sum = ((l.take i).map f).sum + f a := by
 rw [List.take_add_one,h]
 simp
theorem sum_take_le {α : Type} (f : α → Nat) (l : List α) (i : Nat) : ((l.take i).map f).sum ≤ (l.map f).sum := by
 conv => rhs; rw [← List.take_append_drop i l]
 rw [List.map_append,List.sum_append]
 omega
theorem b1 (cs : List PV) (h : cs.length = 7) (z : PV) : vBuildSl 7 (List.replicate 1 z) [(0,.agg cs)] = some [.agg cs] := vBuildSl_one ⟨cs,rfl,h⟩
theorem c95 : callW Tryz.prog ann1 95 [] [] (fun r _ => ∃ b g z o,r = .ret (.sref b g z o nOpers)) := by
 obtain ⟨L,H⟩ := ex_lines
 refine callW_fold ?_
 rw [fn95_eq]
 delta fn95 bF pF kF nI nL mF
 refine (c136 H _).callB ?_
 simp only [List.length_map,zz,Nat.reduceEqDiff]
 refine Lfp_up L.length (fun i x σ' => ∃ out,x = lookP [(1,out),(7,.list .part (L.map pvLn)),(8,.int .i64 L.length),(9,.int .i64 i)] ∧ GrowN ((L.take i).map Ln.cnt).sum σ' out) ?_ ⟨_,rfl,[],.nil _ _ _,rfl⟩
 rintro Φ i x σ' hi ⟨out,rfl,hg⟩ next
 simp only [zz,Nat.reduceEqDiff]
 by_cases hlt : i < L.length
 ·have hc : L[i]? = some L[i] := by simp [hlt]
  have hmem : L[i] ∈ L := by simp
  generalize L[i] = ln at hc hmem
  obtain ⟨s1,s2,a1,a2,a3,f1,f2⟩ := ln_ok (all_in H.ok hmem)
  have hix : vIndex 9 (.list .part (L.map pvLn)) (.int .i64 (i : Int)) = some (.eptr (pvLn ln) 0) := vIndex_list _ (by rw [List.getElem?_map,hc]; rfl) (cs := _) rfl rfl
  have hpart : vPart true 9 (pvLn ln) 0 = some (pvLn ln) := rfl
  have hput : vPut 9 (.agg [(.str []),(.int .i64 0),(.str []),(.str []),(.str []),(.int .i64 0),(.int .i64 0),(.int .i64 0),(.int .i64 0)]) 0 (pvLn ln) = some (pvLn ln) := rfl
  have e0 : vPart false 1 (pvLn ln) 0 = some (.str ln.s) := rfl
  have e7 : vPart false 1 (pvLn ln) 7 = some (.int .i64 ln.a) := rfl
  have e8 : vPart false 1 (pvLn ln) 8 = some (.int .i64 ln.b) := rfl
  have hL := H.len
  simp only [hlt,hix,hpart,hput,e0,zz,Nat.reduceEqDiff]
  refine (r137 (by omega) s1 _).callB ?_
  simp only [List.length_map,zz,Nat.reduceEqDiff]
  have hle := sum_take_le Ln.cnt L (i + 1)
  rw [sum_take_succ _ hc,H.cnt] at hle
  have hnext : ((L.take (i + 1)).map Ln.cnt).sum = ((L.take i).map Ln.cnt).sum + ln.cnt := sum_take_succ _ hc
  generalize hB : ((L.take i).map Ln.cnt).sum = B at hg hle hnext
  have hcnt : ln.cnt = (Go.Lib.fields ln.s).length * (ln.b - ln.a + 1).toNat := rfl
  generalize Go.Lib.fields ln.s = ws at hcnt
  refine Lfp_up ws.length (fun j x σ' => ∃ out,x = lookP [(1,out),(7,.list .part (L.map pvLn)),(8,.int .i64 L.length),(9,.int .i64 i),(15,.list .full (ws.map .str)),(16,.int .i64 ws.length),(17,.int .i64 j),(3,pvLn ln)] ∧ GrowN (B + j * (ln.b - ln.a + 1).toNat) σ' out) ?_ ⟨_,rfl,by simpa using hg⟩
  clear hg
  rintro Φ2 j x σ2 hj ⟨out,rfl,hg⟩ next2
  simp only [zz,Nat.reduceEqDiff]
  by_cases hlt2 : j < ws.length
  ·have hc2 : ws[j]? = some ws[j] := by simp [hlt2]
   generalize ws[j] = w at hc2
   have hix2 : vIndex 1 (.list .full (ws.map PV.str)) (.int .i64 (j : Int)) = some (.eptr (.str w) 0) := vIndex_list _ (by rw [List.getElem?_map,hc2]; rfl) (cs := _) rfl rfl
   simp only [hlt2,hix2,e7,zz,Nat.reduceEqDiff]
   have hmul : (j + 1) * (ln.b - ln.a + 1).toNat ≤ ws.length * (ln.b - ln.a + 1).toNat := Nat.mul_le_mul_right _ hlt2
   rw [Nat.add_mul] at hmul
   have hws : ws.length ≤ ws.length * (ln.b - ln.a + 1).toNat := Nat.le_mul_of_pos_right _ (by omega)
   refine Lfp_up (ln.b - ln.a + 1).toNat (fun k x σ' => ∃ out,x = lookP [(1,out),(5,.str w),(6,.int .i64 (ln.a + (k : Int))),(7,.list .part (L.map pvLn)),(8,.int .i64 L.length),(9,.int .i64 i),(15,.list .full (ws.map .str)),(16,.int .i64 ws.length),(17,.int .i64 j),(3,pvLn ln)] ∧ GrowN (B + j * (ln.b - ln.a + 1).toNat + k) σ' out) ?_ ⟨out,by simp,by simpa using hg⟩
   clear hg
   rintro Φ3 k x σ3 hk ⟨out,rfl,hg⟩ next3
   simp only [e8,zz,Nat.reduceEqDiff]
   by_cases hlt3 : ln.a + (k : Int) ≤ ln.b
   ·have hk' : k < (ln.b - ln.a + 1).toNat := by omega
    simp only [hlt3,hpart,zz,Nat.reduceEqDiff]
    refine (c138 H hmem (k := ln.a + (k : Int)) (List.mem_map.2 ⟨k,by simp [hk'],rfl⟩) (by omega) w _).callB fun cs hcs => ?_
    obtain ⟨x',σ4,h1,g1⟩ := hg.app (by omega) hcs
    simp only [b1 cs hcs,h1,zz,Nat.reduceEqDiff]
    rw [vBin_add _ (by omega) (by omega)]
    simp only [zz,Nat.reduceEqDiff]
    exact next3 _ _ hk' ⟨x',by simp [Int.add_assoc],by rw [← Nat.add_assoc]; exact g1⟩
   ·have hk' : k = (ln.b - ln.a + 1).toNat := by omega
    simp only [hlt3,zz,Nat.reduceEqDiff]
    rw [vBin_add _ (by omega) (by omega)]
    simp only [zz,Nat.reduceEqDiff]
    refine next2 _ _ hlt2 ⟨out,by simp,?_⟩
    rw [Nat.add_mul,Nat.one_mul,← Nat.add_assoc,← hk']
    rw [← hk'] at hg
    exact hg
  ·obtain rfl : j = ws.length := by omega
   have hL := H.len
   simp only [hlt2,zz,Nat.reduceEqDiff]
   rw [vBin_add _ (by omega) (by omega)]
   simp only [zz,Nat.reduceEqDiff]
   refine next _ _ hlt ⟨out,by simp,?_⟩
   rw [hnext,hcnt]
   exact hg
 ·obtain rfl : i = L.length := by omega
  simp only [hlt,zz,Nat.reduceEqDiff]
  rw [List.take_length,H.cnt] at hg
  obtain ⟨ys,g,hl⟩ := hg
  refine weakW_keep ?_
  rcases g with ⟨rfl,rfl⟩ | ⟨b,g,_,rfl,_,_⟩
  ·cases hl
  ·exact ⟨b,g,7,0,by rw [hl]; rfl⟩
end Go.Proofs.YteikomnahelckaaGreatDoor
