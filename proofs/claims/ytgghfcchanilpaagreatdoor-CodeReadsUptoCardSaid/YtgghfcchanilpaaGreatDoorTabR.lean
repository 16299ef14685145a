import Derived.Test.YtgghfcchanilpaaGreatDoorTabW
set_option linter.unusedVariables false
set_option linter.unusedSimpArgs false
namespace Go.Proofs.YtgghfcchanilpaaGreatDoor
open Go Go.Abs
def U7 (s p : Str) : Bool := decide ((s.length : Int) ≥ p.length) && (s.take p.length == p)
theorem Ku {s : Str} {n : Nat} (h : n ≤ s.length) {k : IntKind} : Xg (.str s) none (some (.int k n)) = some (.str (s.take n)) := by
 simp [Xg,bound,h]
theorem Px {s : Str} {n : Nat} (h : n ≤ s.length) {k : IntKind} : Xg (.str s) (some (.int k n)) none = some (.str (s.drop n)) := by
 simp [Xg,bound,h]
theorem c220 (s p : Str) (σ : St) : Ret W1 220 [.str s,.str p] σ (.bool (U7 s p)) := by
 refine V0 fun R hR => ?_
 rw [Gm]
 delta Bd bF
 unfold U7 at hR
 simp only [zz,Nat.reduceEqDiff]
 cases h : decide ((s.length : Int) ≥ p.length) with
 | true =>
  have h' : p.length ≤ s.length := by have := of_decide_eq_true h; omega
  rw [h] at hR
  simp only [Ku h',zz,Nat.reduceEqDiff]
  exact Q2 (by simpa using hR)
 | false =>
  rw [h] at hR
  simp only [zz,Nat.reduceEqDiff]
  exact Q2 (by simpa using hR)
theorem DA (s p : Str) (σ : St) : Ret W1 103 [.str s,.str p] σ (.bool (U7 s p)) := by
 refine V0 fun R hR => ?_
 rw [FT]
 delta CE
 refine (c220 s p _).Q0 ?_
 exact Q2 hR
theorem Mc {s p : Str} (h : U7 s p = true) : p.length ≤ s.length := by
 simp only [U7,Bool.and_eq_true,decide_eq_true_eq] at h
 omega
def Dc (n : Nat) (f : FuncId) (args : List PV) (σ : St) : Prop := ∀ R : Res → St → Prop,(∀ u : Str,u.length ≤ n → R (.ret (.str u)) σ) → W1 f args σ R
theorem Dc.Q0 {n : Nat} {f : FuncId} {args : List PV} {σ : St} (h : Dc n f args σ) {K X : PV → St → Prop} (k : ∀ u : Str,u.length ≤ n → K (.str u) σ) : Q0 W1 f args σ K X := h _ k
theorem It {s l : Str} (c : UInt8) (hs : s.length ≤ 1000) (hl : l.length ≤ 10) (σ : St) : Dc (s.length + 10) 231 [.str s,.str [c],.str l] σ := by
 intro R hR
 refine Xe ?_
 rw [F7]
 delta Ba bF nI
 rw [Xr _ (by simp)]
 simp only [zz,Nat.reduceEqDiff]
 refine (DA _ _ _).Q0 ?_
 cases h : U7 s ([c] ++ [32]) with
 | true =>
  have h' : 2 ≤ s.length := Mc h
  have hd : Xg (.str s) (some (.int .i64 2)) none = some (.str (s.drop 2)) := Px (n := 2) h'
  simp only [hd,zz,Nat.reduceEqDiff]
  rw [Xr _ (by simp; omega)]
  simp only [zz,Nat.reduceEqDiff]
  exact Q2 (hR _ (by simp; omega))
 | false =>
  simp only [zz,Nat.reduceEqDiff]
  rw [Xr _ (by simp)]
  simp only [zz,Nat.reduceEqDiff]
  rw [Xr _ (by simp)]
  simp only [zz,Nat.reduceEqDiff]
  refine (DA _ _ _).Q0 ?_
  cases h : U7 s ([82,69,70,32] ++ [c] ++ [32]) with
  | true =>
   have h' : 6 ≤ s.length := Mc h
   have hd : Xg (.str s) (some (.int .i64 6)) none = some (.str (s.drop 6)) := Px (n := 6) h'
   simp only [zz,Nat.reduceEqDiff]
   rw [Xr _ (by simp; omega)]
   simp only [hd,zz,Nat.reduceEqDiff]
   rw [Xr _ (by simp; omega)]
   simp only [zz,Nat.reduceEqDiff]
   exact Q2 (hR _ (by simp; omega))
  | false =>
   simp only [zz,Nat.reduceEqDiff]
   exact Q2 (hR _ (by omega))
theorem c232 {k : Int} (h0 : 0 ≤ k) (h3 : k < 3) (σ : St) : Dc 10 232 [.int .i64 k] σ := by
 intro R hR
 refine Xe ?_
 rw [FN]
 delta Bf
 have hb : QI 1 (List.replicate 3 (.str [])) [(0,(.str [83,72,79,82,84,32])),(1,(.str [])),(2,(.str [76,79,78,71,32]))] = some [.str [83,72,79,82,84,32],.str [],.str [76,79,78,71,32]] := rfl
 simp only [hb,zz,Nat.reduceEqDiff]
 obtain rfl | rfl | rfl : k = 0 ∨ k = 1 ∨ k = 2 := by omega
 ·exact Q2 (hR [83,72,79,82,84,32] (by decide))
 ·exact Q2 (hR [] (by decide))
 ·exact Q2 (hR [76,79,78,71,32] (by decide))
structure Rn where
 s : Str
 p : Int
 l : Str
 r : Str
 q : Str
 d : Int
def uG (x : PV) : Option Rn :=
 match x with
 | .agg [.str s,.int .i64 p,.str l,.str r,.str q,.int .i64 d] => some ⟨s,p,l,r,q,d⟩
 | _ => none
def Ys (x : Rn) : PV := .agg [.str x.s,.int .i64 x.p,.str x.l,.str x.r,.str x.q,.int .i64 x.d]
def preB (s : Str) (c : UInt8) : Bool := U7 s ([c] ++ [32]) || U7 s ([82,69,70,32] ++ [c] ++ [32])
def Rn.MH (x : Rn) (c : UInt8) : Bool := [x.l,x.r,x.q].any fun s => preB s c
def Rn.ok (x : Rn) : Bool := decide (x.s.length < 100) && (decide (x.l.length < 100) && (decide (x.r.length < 100) && decide (x.q.length < 100)))
def Rn.n (x : Rn) : Nat := if x.MH 83 then 2 else if x.MH 76 then 3 else 1
def Rn.k (x : Rn) : Nat := if x.MH 83 then 0 else if x.MH 76 then 0 else 1
def Rn.cnt (x : Rn) : Nat := (splitB 32 x.s).length * x.n
theorem xZ (x : Rn) (c : UInt8) (σ : St) : Ret W1 128 [Ys x,.str [c]] σ (.bool (x.MH c)) := by
 refine V0 fun R hR => ?_
 rw [D5]
 delta B8 bF pF kF nI
 have hbox : opC.vBoxAny (Ys x) = some (6,Ys x) := rfl
 have e2 : Q6 false 1 (Ys x) 2 = some (.str x.l) := rfl
 have e3 : Q6 false 1 (Ys x) 3 = some (.str x.r) := rfl
 have e4 : Q6 false 1 (Ys x) 4 = some (.str x.q) := rfl
 have hb : QI 1 (List.replicate 3 (.str [])) [(0,(.str x.l)),(1,(.str x.r)),(2,(.str x.q))] = some ([x.l,x.r,x.q].map PV.str) := rfl
 unfold Rn.MH at hR
 have hl : [x.l,x.r,x.q].length = 3 := rfl
 simp only [hbox,e2,e3,e4,hb,zz,Nat.reduceEqDiff]
 generalize [x.l,x.r,x.q] = l at hR hl
 refine TC ?_
 simp only [List.length_map,zz,Nat.reduceEqDiff]
 refine QT l.length (fun i x σ' => x = Qz [(1,.str [c]),(13,.list .full (l.map .str)),(14,.int .i64 l.length),(15,.int .i64 i)] ∧ σ' = σ ∧ (l.take i).any (fun s => preB s c) = false) ?_ ⟨rfl,rfl,rfl⟩
 rintro Φ i x σ' hi ⟨rfl,rfl,hp⟩ next
 simp only [zz,Nat.reduceEqDiff]
 by_cases hlt : i < l.length
 ·have hc : l[i]? = some l[i] := by simp [hlt]
  generalize l[i] = s at hc
  have hix : Q5 1 (.list .full (l.map PV.str)) (.int .i64 (i : Int)) = some (.eptr (.str s) 0) := Zg _ (by rw [List.getElem?_map,hc]; rfl) (cs := _) rfl rfl
  simp only [hlt,hix,zz,Nat.reduceEqDiff]
  rw [Xr _ (by simp)]
  simp only [zz,Nat.reduceEqDiff]
  refine (DA _ _ _).Q0 ?_
  cases h : U7 s ([c] ++ [32]) with
  | true =>
   simp only [zz,Nat.reduceEqDiff]
   refine Q2 ?_
   rw [Tk hc (by simp [preB] at h ⊢; simp [h])] at hR
   exact hR
  | false =>
   simp only [zz,Nat.reduceEqDiff]
   rw [Xr _ (by simp)]
   simp only [zz,Nat.reduceEqDiff]
   rw [Xr _ (by simp)]
   simp only [zz,Nat.reduceEqDiff]
   refine (DA _ _ _).Q0 ?_
   cases h2 : U7 s ([82,69,70,32] ++ [c] ++ [32]) with
   | true =>
    simp only [zz,Nat.reduceEqDiff]
    refine Q2 ?_
    rw [Tk hc (q := fun s => preB s c) (by unfold preB; rw [h,h2]; rfl)] at hR
    exact hR
   | false =>
    simp only [zz,Nat.reduceEqDiff]
    rw [Qi _ (by omega) (by omega)]
    simp only [zz,Nat.reduceEqDiff]
    exact next _ _ hlt ⟨by simp,rfl,U9 hp hc (by unfold preB; rw [h,h2]; rfl)⟩
 ·obtain rfl : i = l.length := by omega
  rw [List.take_length] at hp
  simp only [hlt,zz,Nat.reduceEqDiff]
  refine Q2 ?_
  rw [hp] at hR
  exact hR
theorem EC (a b c d e f g : PV) (u : Str) : Qv 1 (.agg [a,b,c,d,e,f,g]) 1 (.str u) = some (.agg [a,.str u,c,d,e,f,g]) ∧ Qv 1 (.agg [a,b,c,d,e,f,g]) 2 (.str u) = some (.agg [a,b,.str u,d,e,f,g]) ∧
  Qv 1 (.agg [a,b,c,d,e,f,g]) 3 (.str u) = some (.agg [a,b,c,.str u,e,f,g]) ∧ (∀ n,Qv 1 (.agg [a,b,c,d,e,f,g]) 6 (.int .i64 n) = some (.agg [a,b,c,d,e,f,.int .i64 n])) ∧ Q6 true 7 (.agg [a,b,c,d,e,f,g]) 0 = some (.agg [a,b,c,d,e,f,g]) := ⟨rfl,rfl,rfl,fun _ => rfl,rfl⟩
theorem Ao (a b c d e f g : PV) (n : Int) : Qv 1 (.agg [a,b,c,d,e,f,g]) 6 (.int .i64 n) = some (.agg [a,b,c,d,e,f,.int .i64 n]) := rfl
theorem AB (a b c d e f g : PV) : Q6 true 7 (.agg [a,b,c,d,e,f,g]) 0 = some (.agg [a,b,c,d,e,f,g]) := rfl
theorem c129 {x : Rn} (hx : x.ok = true) {k : Int} (h0 : 0 ≤ k) (h3 : k < 3) (t : Str) (σ : St) : Seven 129 [Ys x,.str t,.int .i64 k] σ := by
 intro R hR
 refine Xe ?_
 rw [GD]
 delta B4 bF pF uF kF nI wvR
 simp only [Rn.ok,Bool.and_eq_true,decide_eq_true_eq] at hx
 obtain ⟨x1,x2,x3,x4⟩ := hx
 have hbox : opC.vBoxAny (Ys x) = some (6,Ys x) := rfl
 have e1 : Q6 false 1 (Ys x) 1 = some (.int .i64 x.p) := rfl
 have e2 : Q6 false 1 (Ys x) 2 = some (.str x.l) := rfl
 have e3 : Q6 false 1 (Ys x) 3 = some (.str x.r) := rfl
 have e4 : Q6 false 1 (Ys x) 4 = some (.str x.q) := rfl
 have e5 : Q6 false 1 (Ys x) 5 = some (.int .i64 x.d) := rfl
 have hb : QF [(.str []),(.str []),(.str []),(.str []),(.int .i64 0),(.int .i64 0),(.int .i64 0)] [(0,1,.str t),(1,1,.str x.l),(2,1,.str x.r),(3,1,.str x.q),(4,1,.int .i64 x.p),(5,1,.int .i64 x.d)] = some [.str t,.str x.l,.str x.r,.str x.q,.int .i64 x.p,.int .i64 x.d,.int .i64 0] := rfl
 have hput : ∀ a b c d e f g,Qv 7 (.agg [(.str []),(.str []),(.str []),(.str []),(.int .i64 0),(.int .i64 0),(.int .i64 0)]) 0 (.agg [.str a,.str b,.str c,.str d,.int .i64 e,.int .i64 f,.int .i64 g]) = some (.agg [.str a,.str b,.str c,.str d,.int .i64 e,.int .i64 f,.int .i64 g]) := fun _ _ _ _ _ _ _ => rfl
 simp only [hbox,e1,e2,e3,e4,e5,hb,hput,EC,zz,Nat.reduceEqDiff]
 refine (c232 h0 h3 _).Q0 fun l1 hl1 => ?_
 refine (It 76 (by omega) hl1 _).Q0 fun u1 hu1 => ?_
 refine (c232 h0 h3 _).Q0 fun l2 hl2 => ?_
 refine (It 76 (by omega) hl2 _).Q0 fun u2 hu2 => ?_
 refine (c232 h0 h3 _).Q0 fun l3 hl3 => ?_
 refine (It 76 (by omega) hl3 _).Q0 fun u3 hu3 => ?_
 simp only [EC,zz,Nat.reduceEqDiff]
 refine (c232 h0 h3 _).Q0 fun l4 hl4 => ?_
 refine (It 83 (by omega) hl4 _).Q0 fun u4 hu4 => ?_
 refine (c232 h0 h3 _).Q0 fun l5 hl5 => ?_
 refine (It 83 (by omega) hl5 _).Q0 fun u5 hu5 => ?_
 simp only [EC,zz,Nat.reduceEqDiff]
 refine TC ?_
 cases hk : decide (k < 2) with
 | true =>
  have hk' := of_decide_eq_true hk
  simp only [zz,Nat.reduceEqDiff]
  rw [Qi _ (by omega) (by omega)]
  simp only [zz,Nat.reduceEqDiff]
  refine (c232 (by omega) (by omega) _).Q0 fun l6 hl6 => ?_
  refine (It 78 (by omega) hl6 _).Q0 fun u6 hu6 => ?_
  refine (c232 (by omega) (by omega) _).Q0 fun l7 hl7 => ?_
  refine (It 78 (by omega) hl7 _).Q0 fun u7 hu7 => ?_
  simp only [EC,hput,Qs,YB,zz,Nat.reduceEqDiff]
  exact Q2 (hR _ rfl)
 | false =>
  simp only [EC,hput,Qs,YB,zz,Nat.reduceEqDiff]
  exact Q2 (hR _ rfl)
structure Ek (L : List Rn) : Prop where
 eq : L.map Ys = MD
 ok : L.all Rn.ok = true
 cnt : (L.map Rn.cnt).sum = 470
 len : L.length = 135
def rns : List Rn := MD.filterMap uG
theorem HX : ∃ L,Ek L := ⟨rns,by kernel_rfl,by kernel_rfl,by kernel_rfl,by kernel_rfl⟩
theorem r127 {L : List Rn} (H : Ek L) (σ : St) : Ret W1 127 [] σ (.list .full (L.map Ys)) := V0 fun R hR => by
 rw [JK,← H.eq]
 exact Q2 hR
theorem r48 {s : Str} (h : s.length < 4294967281) (σ : St) : Ret W1 48 [.str s,.str [32]] σ (.list .full ((splitB 32 s).map .str)) := V0 fun R hR => by
 show Qg False (VA [.str s,.str [32]] σ) (fun r => R (.ret r.1) r.2)
 have : VA [.str s,.str [32]] σ = some (.list .full ((splitB 32 s).map .str),σ) := by
  simp only [VA]
  rw [if_pos h]
 rw [this]
 exact hR
theorem c68 : VS Tryz.prog VW 68 [] [] (fun r _ => ∃ b g z o,r = .ret (.sref b g z o UG)) := by
 obtain ⟨L,H⟩ := HX
 have hL := H.len
 refine Xe ?_
 rw [Dg]
 delta wG bF pF uF kF nI nL mF
 refine TC ?_
 refine (r127 H _).Q0 ?_
 simp only [List.length_map,zz,Nat.reduceEqDiff]
 refine QT L.length (fun i x σ' => ∃ out,x = Qz [(1,out),(11,.list .full (L.map Ys)),(12,.int .i64 L.length),(13,.int .i64 i)] ∧ PU ((L.take i).map Rn.cnt).sum σ' out) ?_ ⟨_,rfl,[],.nil _ _ _,rfl⟩
 rintro Φ i x σ' hi ⟨out,rfl,hg⟩ next
 simp only [zz,Nat.reduceEqDiff]
 by_cases hlt : i < L.length
 ·have hc : L[i]? = some L[i] := by simp [hlt]
  have hmem : L[i] ∈ L := by simp
  generalize L[i] = ln at hc hmem
  have hok := TY H.ok hmem
  have hok' := hok
  simp only [Rn.ok,Bool.and_eq_true,decide_eq_true_eq] at hok'
  obtain ⟨s1,s2,s3,s4⟩ := hok'
  have hix : Q5 6 (.list .full (L.map Ys)) (.int .i64 (i : Int)) = some (.eptr (Ys ln) 0) := Zg _ (by rw [List.getElem?_map,hc]; rfl) (cs := _) rfl rfl
  have hpart : Q6 true 6 (Ys ln) 0 = some (Ys ln) := rfl
  have hput : Qv 6 (.agg [(.str []),(.int .i64 0),(.str []),(.str []),(.str []),(.int .i64 0)]) 0 (Ys ln) = some (Ys ln) := rfl
  have e0 : Q6 false 1 (Ys ln) 0 = some (.str ln.s) := rfl
  have hle := N5 Rn.cnt L (i + 1)
  rw [Vr _ hc,H.cnt] at hle
  have hnext : ((L.take (i + 1)).map Rn.cnt).sum = ((L.take i).map Rn.cnt).sum + ln.cnt := Vr _ hc
  generalize hB : ((L.take i).map Rn.cnt).sum = B at hg hle hnext
  have hcnt : ln.cnt = (splitB 32 ln.s).length * ln.n := rfl
  have hlen : Qj .sl out σ' = some (.int .i64 B) := by
   obtain ⟨ys,g,hl⟩ := hg
   rw [← hl]
   exact g.elems.len σ'
  simp only [hlt,hix,hpart,hput,hlen,zz,Nat.reduceEqDiff]
  refine TC ?_
  refine Qr (fun y τ => y = Qz [(1,out),(4,.int .i64 B),(5,.int .i64 ((if ln.MH 76 then 3 else 1 : Nat) : Int)),(6,.int .i64 ((if ln.MH 76 then 0 else 1 : Nat) : Int)),(11,.list .full (L.map Ys)),(12,.int .i64 L.length),(13,.int .i64 i),(3,Ys ln)] ∧ τ = σ') ?_ ?_
  case refine_2 =>
   refine (xZ ln 76 _).Q0 ?_
   cases ln.MH 76 with
   | true => simp only [zz,Nat.reduceEqDiff]; exact ⟨rfl,trivial⟩
   | false => simp only [zz,Nat.reduceEqDiff]; exact ⟨rfl,trivial⟩
  rintro y τ ⟨rfl,rfl⟩
  simp only [hpart,zz,Nat.reduceEqDiff]
  refine Qr (fun y τ' => y = Qz [(1,out),(4,.int .i64 B),(5,.int .i64 ln.n),(6,.int .i64 ln.k),(11,.list .full (L.map Ys)),(12,.int .i64 L.length),(13,.int .i64 i),(3,Ys ln)] ∧ τ' = τ) ?_ ?_
  case refine_2 =>
   refine (xZ ln 83 _).Q0 ?_
   unfold Rn.n Rn.k
   cases ln.MH 83 with
   | true => simp only [zz,Nat.reduceEqDiff]; exact ⟨rfl,trivial⟩
   | false => simp only [zz,Nat.reduceEqDiff]; exact ⟨rfl,trivial⟩
  rintro y τ ⟨rfl,rfl⟩
  have hnk : ln.k + ln.n ≤ 3 := by
   unfold Rn.n Rn.k
   split
   ·omega
   ·split <;> omega
  have hn1 : 1 ≤ ln.n := by
   unfold Rn.n
   split
   ·omega
   ·split <;> omega
  simp only [e0,zz,Nat.reduceEqDiff]
  refine (r48 (by omega) _).Q0 ?_
  simp only [List.length_map,zz,Nat.reduceEqDiff]
  generalize splitB 32 ln.s = ws at hcnt
  generalize ln.n = n at hcnt hnk hn1
  generalize ln.k = k0 at hnk
  refine QT ws.length (fun j x σ' => ∃ out,x = Qz [(1,out),(4,.int .i64 B),(5,.int .i64 n),(6,.int .i64 k0),(11,.list .full (L.map Ys)),(12,.int .i64 L.length),(13,.int .i64 i),(25,.list .full (ws.map .str)),(26,.int .i64 ws.length),(27,.int .i64 j),(3,Ys ln)] ∧ PU (B + j * n) σ' out) ?_ ⟨_,rfl,by simpa using hg⟩
  clear hg hlen
  rintro Φ2 j x σ2 hj ⟨out,rfl,hg⟩ next2
  simp only [zz,Nat.reduceEqDiff]
  have hws : ws.length ≤ ws.length * n := Nat.le_mul_of_pos_right _ (by omega)
  by_cases hlt2 : j < ws.length
  ·have hc2 : ws[j]? = some ws[j] := by simp [hlt2]
   generalize ws[j] = w at hc2
   have hix2 : Q5 1 (.list .full (ws.map PV.str)) (.int .i64 (j : Int)) = some (.eptr (.str w) 0) := Zg _ (by rw [List.getElem?_map,hc2]; rfl) (cs := _) rfl rfl
   simp only [hlt2,hix2,zz,Nat.reduceEqDiff]
   refine TC ?_
   have hmul : (j + 1) * n ≤ ws.length * n := Nat.mul_le_mul_right _ hlt2
   rw [Nat.add_mul] at hmul
   refine QT n (fun k x σ' => ∃ out,x = Qz [(1,out),(4,.int .i64 B),(5,.int .i64 n),(6,.int .i64 k0),(8,.str w),(9,.int .i64 k),(11,.list .full (L.map Ys)),(12,.int .i64 L.length),(13,.int .i64 i),(25,.list .full (ws.map .str)),(26,.int .i64 ws.length),(27,.int .i64 j),(3,Ys ln)] ∧ PU (B + j * n + k) σ' out) ?_ ⟨out,rfl,by simpa using hg⟩
   clear hg
   rintro Φ3 k x σ3 hk ⟨out,rfl,hg⟩ next3
   simp only [zz,Nat.reduceEqDiff]
   by_cases hlt3 : k < n
   ·simp only [hlt3,hpart,zz,Nat.reduceEqDiff]
    rw [Qi _ (by omega) (by omega)]
    simp only [zz,Nat.reduceEqDiff]
    refine (c129 hok (k := (k0 : Int) + k) (by omega) (by omega) w _).Q0 fun cs hcs => ?_
    match cs,hcs with
    | [a1,a2,a3,a4,a5,a6,a7],_ =>
     have hz : Qv 7 (.agg [(.str []),(.str []),(.str []),(.str []),(.int .i64 0),(.int .i64 0),(.int .i64 0)]) 0 (.agg [a1,a2,a3,a4,a5,a6,a7]) = some (.agg [a1,a2,a3,a4,a5,a6,a7]) := VG rfl rfl
     simp only [hz,zz,Nat.reduceEqDiff]
     rw [Qi _ (by omega) (by omega)]
     obtain ⟨x',σ4,h1,g1⟩ := hg.app (by omega) (cs := [a1,a2,a3,a4,a5,a6,.int .i64 ((B : Int) + k)]) rfl
     simp only [Ao,AB,b1 [a1,a2,a3,a4,a5,a6,.int .i64 ((B : Int) + k)] rfl,h1,zz,Nat.reduceEqDiff]
     rw [Qi _ (by omega) (by omega)]
     simp only [zz,Nat.reduceEqDiff]
     refine next3 _ _ hlt3 ⟨x',?_,by rw [← Nat.add_assoc]; exact g1⟩
     simp
   ·obtain rfl : k = n := by omega
    simp only [hlt3,zz,Nat.reduceEqDiff]
    rw [Qi _ (by omega) (by omega)]
    simp only [zz,Nat.reduceEqDiff]
    refine next2 _ _ hlt2 ⟨out,by simp,?_⟩
    rw [Nat.add_mul,Nat.one_mul,← Nat.add_assoc]
    exact hg
  ·obtain rfl : j = ws.length := by omega
   simp only [hlt2,zz,Nat.reduceEqDiff]
   rw [Qi _ (by omega) (by omega)]
   simp only [zz,Nat.reduceEqDiff]
   refine next _ _ hlt ⟨out,by simp,?_⟩
   rw [hnext,hcnt]
   exact hg
 ·obtain rfl : i = L.length := by omega
  simp only [hlt,zz,Nat.reduceEqDiff]
  rw [List.take_length,H.cnt] at hg
  obtain ⟨ys,g,hl⟩ := hg
  refine Q2 ?_
  rcases g with ⟨rfl,rfl⟩ | ⟨b,g,_,rfl,_,_⟩
  ·cases hl
  ·exact ⟨b,g,7,0,by rw [hl]; rfl⟩
end Go.Proofs.YtgghfcchanilpaaGreatDoor
