import Derived.Test.YtgghfcchanilpaaGreatDoorSpWd
set_option linter.unusedVariables false
set_option linter.unusedSimpArgs false
namespace Go.Proofs.YtgghfcchanilpaaGreatDoor
open Go Go.Abs
abbrev GB (σ0 τ : St) (v : PV) (out : Str) : Prop := σ0 <+: τ ∧ Grow σ0.length 1 τ v (u8s out)
theorem GB.push {σ0 τ : St} {v : PV} {out : Str} (h : GB σ0 τ v out) {y : PV} {l : Str} (hy : vElems y τ = some (u8s l)) (hr : out.length + l.length ≤ 140737488355328) : ∃ v' τ',vAppendT 23 1 1 v y τ = some (v',τ') ∧ GB σ0 τ' v' (out ++ l) := by
 obtain ⟨hp,hg⟩ := h
 have hroom : roomy (out.length + l.length) 1 = true := by simp [roomy]; omega
 rcases List.eq_nil_or_concat l with rfl | ⟨l0,x0,hl0⟩
 ·have e1 : vAppendT 23 1 1 v y τ = some (v,τ) := by
   rcases hg with ⟨rfl,-⟩ | ⟨b,g,-,rfl,-⟩ <;> simp [vAppendT,hy,u8s]
  exact ⟨v,τ,e1,hp,by rw [List.append_nil]; exact hg⟩
 have hne : l ≠ [] := by rw [hl0]; simp
 have hemp : (u8s l).isEmpty = false := by
  cases l with
  | nil => exact absurd rfl hne
  | cons => rfl
 have hne2 : u8s (out ++ l) ≠ [] := by
  intro e
  have := congrArg List.length e
  rw [u8s_len] at this
  simp at this
  exact hne this.2
 rcases hg with ⟨rfl,h0⟩ | ⟨b,g,hb0,rfl,hbb,hn⟩
 ·have ho : out = [] := by simpa [u8s] using h0
  subst ho
  have hr1 : roomy l.length 1 = true := by simpa using hroom
  have e1 : vAppendT 23 1 1 (.list .nil []) y τ = some (.sref τ.length 23 1 0 (u8s l).length,τ ++ [.arr 23 1 (u8s l)]) := by
   have h2 : headSized 1 ([] : List PV) = true := rfl
   simp [vAppendT,hy,hemp,u8s_len,hr1,u8s_sized,h2]
  refine ⟨_,_,e1,pre_app hp _,.inr ⟨τ.length,23,hp.length_le,?_,by simp,by simpa using hne2⟩⟩
  simp
 ·have hbl : b < τ.length := (List.getElem?_eq_some_iff.1 hbb).1
  have hov : ¬ (0 + out.length + l.length ≤ out.length) := by
   have : 0 < l.length := List.length_pos_iff.2 hne
   omega
  have ht : (u8s out).take out.length = u8s out := List.take_of_length_le (by rw [u8s_len]; omega)
  have e1 : vAppendT 23 1 1 (.sref b g 1 0 (u8s out).length) y τ = some (.sref b (nextT 23 g 0) 1 0 (u8s (out ++ l)).length,τ.set b (.arr (nextT 23 g 0) 1 (u8s (out ++ l)))) := by
   simp only [vAppendT,hy,hemp,hbb,u8s_len,hroom,u8s_sized,u8s_app,List.length_append]
   simp [hov,u8s_len,ht]
   intro h
   omega
  exact ⟨_,_,e1,pre_set hp hb0 _,.inr ⟨b,_,hb0,rfl,by simp [hbl],hne2⟩⟩
def Adds (f : FuncId) (rest : List PV) (x : Str) : Prop := ∀ (σ0 τ : St) (v : PV) (out : Str) (R : Res → St → Prop),GB σ0 τ v out → out.length + x.length ≤ 140737488355328 → (∀ v' τ',GB σ0 τ' v' (out ++ x) → R (.ret v') τ') → W f (v :: rest) τ R
theorem Adds.callB {f : FuncId} {rest : List PV} {x out : Str} (h : Adds f rest x) {σ0 τ : St} {v : PV} {K X : PV → St → Prop} (hg : GB σ0 τ v out) (hr : out.length + x.length ≤ 140737488355328) (k : ∀ v' τ',GB σ0 τ' v' (out ++ x) → K v' τ') : callB W f (v :: rest) τ K X :=
 h σ0 τ v out _ hg hr k
theorem adds_of {f : FuncId} {rest : List PV} {x : Str} (h : ∀ (σ0 τ : St) (v : PV) (out : Str) (R : Res → St → Prop),GB σ0 τ v out → out.length + x.length ≤ 140737488355328 → (∀ v' τ',GB σ0 τ' v' (out ++ x) → R (.ret v') τ') → bodyC (algP W) Tryz.prog annF f (v :: rest) τ R) : Adds f rest x :=
 fun σ0 τ v out R hg hr k => callW_fold (h σ0 τ v out R hg hr k)
theorem c162 {n : Int} (hn : InI n) : Adds 162 [.int .i64 n] (numB n) := adds_of fun σ0 τ v out R hg hr hR => by
 rw [fn162_eq]
 unfold fn162
 have hzl := zig_lt hn.1 hn.2
 obtain ⟨w,u,e1,e2,e3,e4⟩ := num_prep hn
 simp only [e1,e2,zz,Nat.reduceEqDiff]
 refine CutW_by (fun x τ' => x 0 = v ∧ x 5 = .int .u64 (zig n : Int) ∧ τ' = τ) (fun x τ' hx => ?_) ?_
 case refine_2 =>
  refine condB (fun hb => ?_) (fun hb => ?_)
  ·simp only [e3 (of_decide_eq_true hb),zz,Nat.reduceEqDiff]
   exact ⟨trivial,trivial,trivial⟩
  ·rw [e4 (of_decide_eq_false hb)]
   exact ⟨rfl,rfl,rfl⟩
 obtain ⟨q0,q5,rfl⟩ := hx
 simp only [q0,q5,zz,Nat.reduceEqDiff]
 refine CutW_by (fun x τ => ∃ (k : Nat) (cur : Str),x 5 = .int .u64 (k : Int) ∧ k < 128 ∧ GB σ0 τ (x 0) cur ∧ cur ++ [UInt8.ofNat k] = out ++ numB n) (fun x τ hx => ?_) ?_
 ·obtain ⟨k,cur,q5,hk,hw',he⟩ := hx
  have hlen := congrArg List.length he
  simp only [List.length_append,List.length_cons,List.length_nil] at hlen
  have h256 : k % 256 = k := Nat.mod_eq_of_lt (by omega)
  obtain ⟨v',τ1,e2,hw2⟩ := GB.push hw' (y := .list .full [.int .u8 (k : Int)]) (l := [UInt8.ofNat k]) (by rw [u8_nat (by omega)]; rfl) (by simp; omega)
  rw [he] at hw2
  simp only [q5,low_or,h256,b1_u8,e2,zz,Nat.reduceEqDiff]
  exact weakW_keep (hR _ _ hw2)
 refine Lfp_up 9 (fun j x τ => ∃ (k : Nat) (cur : Str) (v : PV),x = lookP [(0,v),(5,.int .u64 (k : Int))] ∧ k < 2 * 128 ^ (9 - j) ∧ GB σ0 τ v cur ∧ cur ++ lebF (9 - j) k = out ++ numB n) ?_ ⟨zig n,out,v,rfl,by simpa using hzl,hg,rfl⟩
 rintro Φ j x τ hj ⟨k,cur,v,rfl,hv,hw',he⟩ next
 simp only [zz,Nat.reduceEqDiff]
 refine condB (fun hb => ?_) (fun hb => ?_)
 ·have h128 : 128 ≤ k := by
   have := of_decide_eq_true hb
   omega
  have hj9 : j < 9 := by
   rcases Nat.lt_or_ge j 9 with h | h
   ·exact h
   ·have : 9 - j = 0 := by omega
    rw [this] at hv
    omega
  have hf : 9 - j = (9 - (j + 1)) + 1 := by omega
  rw [hf] at he hv
  unfold lebF at he
  rw [if_pos h128] at he
  have hlen := congrArg List.length he
  have hl9 := (lebF_len (9 - (j + 1)) (k / 128)).1
  simp only [List.length_append,List.length_cons] at hlen
  obtain ⟨v',τ1,e2,hw2⟩ := GB.push hw' (y := .list .full [.int .u8 ((k % 128 + 128 : Nat) : Int)]) (l := [UInt8.ofNat (k % 128 + 128)]) (by rw [u8_nat (by omega)]; rfl) (by simp; omega)
  simp only [low_or,or_u8,b1_u8,e2,shr_u64,zz,Nat.reduceEqDiff]
  refine next _ _ hj9 ⟨k / 128,_,_,rfl,?_,hw2,?_⟩
  ·rw [Nat.pow_succ] at hv
   omega
  ·rw [List.append_assoc]
   exact he
 ·have h128 : k < 128 := by
   have := of_decide_eq_false hb
   omega
  refine ⟨k,cur,rfl,h128,hw',?_⟩
  rw [← he]
  congr 1
  cases hf : 9 - j with
  | zero => rfl
  | succ f => simp only [lebF,if_neg (show ¬ 128 ≤ k by omega)]
theorem c163 {b : Bool} : Adds 163 [.bool b] (boolB b) := adds_of fun σ0 τ v out R hg hr hR => by
 rw [fn163_eq]
 unfold fn163
 cases b with
 | true =>
  simp only [zz,Nat.reduceEqDiff]
  refine (c162 (n := 1) ⟨by omega,by omega⟩).callB hg hr fun v' τ' hg' => ?_
  exact weakW_keep (hR _ _ hg')
 | false =>
  simp only [zz,Nat.reduceEqDiff]
  refine (c162 (n := 0) ⟨by omega,by omega⟩).callB hg hr fun v' τ' hg' => ?_
  exact weakW_keep (hR _ _ hg')
theorem take_snoc {α : Type} {l : List α} {j : Nat} {a : α} (h : l[j]? = some a) (f : α → Str) : (l.take (j + 1)).flatMap f = (l.take j).flatMap f ++ f a := by
 rw [List.take_add_one,h,List.flatMap_append]
 simp
theorem c164 {lk : LK} {l : List Int} (hl : l.length ≤ 1048576) (hi : ∀ n ∈ l,InI n) : Adds 164 [.list lk (l.map pvI)] (l.flatMap numB) := adds_of fun σ0 τ v out R hg hr hR => by
 rw [fn164_eq]
 unfold fn164
 simp only [zz,Nat.reduceEqDiff]
 refine CutW_by (fun x τ' => GB σ0 τ' (x 0) (out ++ l.flatMap numB)) (fun x τ' hx => ?_) ?_
 ·exact weakW_keep (hR _ _ hx)
 refine Lfp_up l.length (fun j x τ' => ∃ v,x = lookP [(0,v),(1,.list lk (l.map pvI)),(5,.int .i64 j)] ∧ GB σ0 τ' v (out ++ (l.take j).flatMap numB)) ?_ ⟨v,rfl,by simpa using hg⟩
 rintro Φ j x τ' hj ⟨v,rfl,hg⟩ next
 by_cases hlt : j < l.length
 ·have hge : l[j]? = some l[j] := by simp [hlt]
  have hmem : l[j] ∈ l := by simp
  generalize l[j] = a at hge hmem
  have hfl := take_snoc hge numB
  have hb := flat_take numB l (j + 1)
  rw [hfl,List.length_append] at hb
  have hix : vIndex 1 (.list lk (l.map pvI)) (.int .i64 j) = some (.eptr (pvI a) 0) := encI.index hge
  have hpv : pvI a = .int .i64 a := rfl
  simp only [List.length_map,lt_len' hlt,hlt,decide_true,hix,encI.part,hpv,zz,Nat.reduceEqDiff]
  refine (c162 (hi a hmem)).callB hg (by rw [List.length_append]; omega) fun v' τ1 hg' => ?_
  rw [vBin_add _ (by omega) (by omega)]
  simp only [zz,Nat.reduceEqDiff]
  refine next _ _ hlt ⟨_,rfl,?_⟩
  rw [hfl,← List.append_assoc]
  exact hg'
 ·obtain rfl : j = l.length := by omega
  rw [List.take_length] at hg
  simp only [List.length_map,not_lt_len',Nat.lt_irrefl,decide_false,zz,Nat.reduceEqDiff]
  exact hg
theorem c166 {s : Str} : Adds 166 [.str s] (textB s) := adds_of fun σ0 τ v out R hg hr hR => by
 rw [fn166_eq]
 unfold fn166
 unfold textB at hr hR
 rw [List.length_append] at hr
 simp only [zz,Nat.reduceEqDiff]
 refine (c162 (n := s.length) ⟨by omega,by omega⟩).callB hg (by omega) fun v' τ1 hg' => ?_
 obtain ⟨v2,τ2,e2,hw2⟩ := GB.push hg' (y := .str s) (l := s) rfl (by rw [List.length_append]; omega)
 simp only [e2,zz,Nat.reduceEqDiff]
 rw [List.append_assoc] at hw2
 exact weakW_keep (hR _ _ hw2)
theorem c165 {l : Sl (Sl Int)} (hl : l.2.length ≤ 1048576) (hm : ∀ m ∈ l.2,m.2.length ≤ 1048576) (hi : ∀ m ∈ l.2,∀ n ∈ m.2,InI n) : Adds 165 [pvSl pvInts l] (listB (fun m : Sl Int => intsW m.2) l.2) := adds_of fun σ0 τ v out R hg hr hR => by
 rw [fn165_eq]
 unfold fn165
 unfold listB at hr hR
 rw [List.length_append] at hr
 simp only [sl_len,zz,Nat.reduceEqDiff]
 refine (c162 (n := len l) ⟨by unfold len; omega,by unfold len; omega⟩).callB hg (by unfold len; omega) fun v1 τ1 hg1 => ?_
 have hlen : numB (len l) = numB l.2.length := rfl
 rw [hlen] at hg1
 refine CutW_by (fun x τ' => GB σ0 τ' (x 0) (out ++ (numB l.2.length ++ l.2.flatMap fun m : Sl Int => intsW m.2))) (fun x τ' hx => ?_) ?_
 ·exact weakW_keep (hR _ _ hx)
 refine Lfp_up l.2.length (fun j x τ' => ∃ v,x = lookP [(0,v),(1,pvSl pvInts l),(5,.int .i64 j)] ∧ GB σ0 τ' v ((out ++ numB l.2.length) ++ (l.2.take j).flatMap fun m : Sl Int => intsW m.2)) ?_ ⟨v1,rfl,by simpa using hg1⟩
 rintro Φ j x τ' hj ⟨v,rfl,hg⟩ next
 by_cases hlt : j < l.2.length
 ·have hge : l.2[j]? = some l.2[j] := by simp [hlt]
  have hmem : l.2[j] ∈ l.2 := by simp
  generalize l.2[j] = a at hge hmem
  have hfl := take_snoc hge (fun m : Sl Int => intsW m.2)
  have hb := flat_take (fun m : Sl Int => intsW m.2) l.2 (j + 1)
  rw [hfl,List.length_append] at hb
  have haw : (intsW a.2).length = (numB a.2.length).length + (a.2.flatMap numB).length := by
   unfold intsW listB
   rw [List.length_append]
  have hal := hm a hmem
  have hla : ∀ σ : St,vLen .sl (pvInts a) σ = some (.int .i64 (len a)) := fun σ => sl_len _ _ _
  simp only [sl_len,lt_len hlt,hlt,decide_true,sl_idx encInts hge,encInts.part,hla,zz,Nat.reduceEqDiff]
  refine (c162 (n := len a) ⟨by unfold len; omega,by unfold len; omega⟩).callB hg (by have : numB (len a) = numB a.2.length := rfl; rw [this,List.length_append,List.length_append]; omega) fun v2 τ2 hg2 => ?_
  refine (c164 (lk := a.1) (l := a.2) hal (hi a hmem)).callB hg2 (by have : numB (len a) = numB a.2.length := rfl; rw [this,List.length_append,List.length_append,List.length_append]; omega) fun v3 τ3 hg3 => ?_
  rw [vBin_add _ (by omega) (by omega)]
  simp only [zz,Nat.reduceEqDiff]
  refine next _ _ hlt ⟨_,rfl,?_⟩
  rw [hfl]
  have hn : numB (len a) = numB a.2.length := rfl
  rw [hn] at hg3
  simpa only [intsW,listB,List.append_assoc] using hg3
 ·obtain rfl : j = l.2.length := by omega
  rw [List.take_length] at hg
  simp only [sl_len,not_lt_len,Nat.lt_irrefl,decide_false,zz,Nat.reduceEqDiff]
  rw [List.append_assoc] at hg
  exact hg
end Go.Proofs.YtgghfcchanilpaaGreatDoor
