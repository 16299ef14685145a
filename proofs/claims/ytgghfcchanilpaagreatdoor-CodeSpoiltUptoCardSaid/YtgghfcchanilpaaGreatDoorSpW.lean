import Derived.Test.YtgghfcchanilpaaGreatDoorSpZd
import Derived.Test.YtgghfcchanilpaaGreatDoorFnG
import Derived.Test.YtgghfcchanilpaaGreatDoorPlJ
set_option linter.unusedVariables false
set_option linter.unusedSimpArgs false
namespace Go.Proofs.YtgghfcchanilpaaGreatDoor
open Go Go.Abs
def u8s (l : Str) : List PV := l.map fun b => .int .u8 b.toNat
def Wr (p : Nat) (H : List (Nat × Blk)) (τ : St) (out : Str) : Prop := ∃ v,τ[p]? = some (.arr 0 1 [.agg [v]]) ∧ (∀ h ∈ H,τ[h.1]? = some h.2 ∧ h.1 ≠ p) ∧
 ((v = .list .full (u8s out) ∧ out ≠ []) ∨ ∃ b g,v = .sref b g 1 0 out.length ∧ τ[b]? = some (.arr g 1 (u8s out)) ∧ b ≠ p ∧ ∀ h ∈ H,h.1 ≠ b)
theorem u8s_app (a b : Str) : u8s (a ++ b) = u8s a ++ u8s b := List.map_append
theorem u8s_len (a : Str) : (u8s a).length = a.length := List.length_map _
theorem u8s_sized (l : Str) : headSized 1 (u8s l) = true := by
 cases l with
 | nil => rfl
 | cons x l => simp [u8s,headSized,PV.cells?]
theorem Wr.push {p : Nat} {H : List (Nat × Blk)} {τ : St} {out : Str} (h : Wr p H τ out) {y : PV} {l : Str} (hy : vElems y τ = some (u8s l)) (hr : out.length + l.length ≤ 140737488355328) :
  ∃ v,vLoad false 1 (.ptr p 0 0 0) τ = some v ∧ ∃ v' τ1,vAppendT 23 1 1 v y τ = some (v',τ1) ∧ ∃ τ2,vStore 1 (.ptr p 0 0 0) v' τ1 = some τ2 ∧ Wr p H τ2 (out ++ l) := by
 obtain ⟨v,hp,hH,hv⟩ := h
 have hroom : roomy (out.length + l.length) 1 = true := by simp [roomy]; omega
 have hpl : p < τ.length := (List.getElem?_eq_some_iff.1 hp).1
 refine ⟨v,?_,?_⟩
 ·rcases hv with ⟨rfl,-⟩ | ⟨b,g,rfl,-⟩ <;> simp [vLoad,hp,vPart,PV.cells?]
 rcases List.eq_nil_or_concat l with rfl | ⟨l0,x0,hl0⟩
 ·have e1 : vAppendT 23 1 1 v y τ = some (v,τ) := by
   rcases hv with ⟨rfl,-⟩ | ⟨b,g,rfl,-⟩ <;> simp [vAppendT,hy,u8s]
  have e2 : vStore 1 (.ptr p 0 0 0) v τ = some (τ.set p (.arr 0 1 [.agg [v]])) := by
   rcases hv with ⟨rfl,-⟩ | ⟨b,g,rfl,-⟩ <;> simp [vStore,hp,vPut,PV.cells?,setRange]
  refine ⟨v,τ,e1,_,e2,v,by simp [hpl],fun h hh => ?_,?_⟩
  ·obtain ⟨q1,q2⟩ := hH h hh
   exact ⟨by rw [List.getElem?_set_ne (Ne.symm q2)]; exact q1,q2⟩
  ·rw [List.append_nil]
   rcases hv with h1 | ⟨b,g,h1,h2,h3,h4⟩
   ·exact .inl h1
   ·exact .inr ⟨b,g,h1,by rw [List.getElem?_set_ne (Ne.symm h3)]; exact h2,h3,h4⟩
 have hne : l ≠ [] := by rw [hl0]; simp
 have hemp : (u8s l).isEmpty = false := by
  cases l with
  | nil => exact absurd rfl hne
  | cons => rfl
 have key : ∀ (b g : Nat) (τ1 : St),τ1.length ≥ τ.length → (∀ c,c ≠ b → c < τ.length → τ1[c]? = τ[c]?) → b < τ1.length → τ1[b]? = some (.arr g 1 (u8s (out ++ l))) → b ≠ p → (∀ h ∈ H,h.1 ≠ b) →
   ∃ τ2,vStore 1 (.ptr p 0 0 0) (.sref b g 1 0 (out ++ l).length) τ1 = some τ2 ∧ Wr p H τ2 (out ++ l) := by
  intro b g τ1 hlen hsame hb hbb hbp hbH
  have hp1 : τ1[p]? = some (.arr 0 1 [.agg [v]]) := by rw [hsame p (Ne.symm hbp) hpl]; exact hp
  have e2 : vStore 1 (.ptr p 0 0 0) (.sref b g 1 0 (out ++ l).length) τ1 = some (τ1.set p (.arr 0 1 [.agg [.sref b g 1 0 (out ++ l).length]])) := by
   rcases hv with ⟨rfl,-⟩ | ⟨b',g',rfl,-⟩ <;> simp [vStore,hp1,vPut,PV.cells?,setRange]
  refine ⟨_,e2,_,List.getElem?_set_self (by omega),fun h hh => ?_,.inr ⟨b,g,rfl,by rw [List.getElem?_set_ne (Ne.symm hbp)]; exact hbb,hbp,hbH⟩⟩
  obtain ⟨q1,q2⟩ := hH h hh
  refine ⟨?_,q2⟩
  rw [List.getElem?_set_ne (Ne.symm q2),hsame h.1 (hbH h hh) (List.getElem?_eq_some_iff.1 q1).1]
  exact q1
 rcases hv with ⟨rfl,hne0⟩ | ⟨b,g,rfl,hbb,hbp,hbH⟩
 ·have e1 : vAppendT 23 1 1 (.list .full (u8s out)) y τ = some (.sref τ.length 23 1 0 (out ++ l).length,τ ++ [.arr 23 1 (u8s (out ++ l))]) := by
   simp only [vAppendT,hy,hemp,u8s_len,hroom,u8s_sized,u8s_app,List.length_append]
   simp
  obtain ⟨τ2,e2,w⟩ := key τ.length 23 (τ ++ [.arr 23 1 (u8s (out ++ l))]) (by simp) (fun c _ hc => by rw [List.getElem?_append_left hc]) (by simp) (by simp) (by omega) (fun h hh => by
   obtain ⟨q1,-⟩ := hH h hh
   have := (List.getElem?_eq_some_iff.1 q1).1
   omega)
  exact ⟨_,_,e1,τ2,e2,w⟩
 ·have hbl : b < τ.length := (List.getElem?_eq_some_iff.1 hbb).1
  have hov : ¬ (0 + out.length + l.length ≤ out.length) := by
   have : 0 < l.length := List.length_pos_iff.2 hne
   omega
  have e1 : vAppendT 23 1 1 (.sref b g 1 0 out.length) y τ = some (.sref b (nextT 23 g 0) 1 0 (out ++ l).length,τ.set b (.arr (nextT 23 g 0) 1 (u8s (out ++ l)))) := by
   have ht : (u8s out).take out.length = u8s out := List.take_of_length_le (by rw [u8s_len]; omega)
   simp only [vAppendT,hy,hemp,hbb,u8s_len,hroom,u8s_sized,u8s_app,List.length_append]
   simp [hov,u8s_len,ht]
   intro h
   omega
  obtain ⟨τ2,e2,w⟩ := key b (nextT 23 g 0) (τ.set b (.arr (nextT 23 g 0) 1 (u8s (out ++ l)))) (by simp) (fun c hc _ => by rw [List.getElem?_set_ne (Ne.symm hc)]) (by simpa using hbl) (by simp [hbl]) hbp hbH
  exact ⟨_,_,e1,τ2,e2,w⟩
def Puts (g : FuncId) (args : List PV) (p : Nat) (H0 : List (Nat × Blk)) (x : Str) : Prop := ∀ (H : List (Nat × Blk)) (τ : St) (out : Str) (R : Res → St → Prop),(∀ h ∈ H0,h ∈ H) → Wr p H τ out → out.length + x.length ≤ 140737488355328 →
 (∀ τ',Wr p H τ' (out ++ x) → R (.ret (.tuple [])) τ') → W g args τ R
theorem Puts.callB {g : FuncId} {args : List PV} {p : Nat} {H0 H : List (Nat × Blk)} {x out : Str} (h : Puts g args p H0 x) {τ : St} {K X : PV → St → Prop} (h0 : ∀ h ∈ H0,h ∈ H) (hw : Wr p H τ out) (hr : out.length + x.length ≤ 140737488355328) (k : ∀ τ',Wr p H τ' (out ++ x) → K (.tuple []) τ') : callB W g args τ K X :=
 h H τ out _ h0 hw hr k
theorem puts_of {g : FuncId} {args : List PV} {p : Nat} {H0 : List (Nat × Blk)} {x : Str} (h : ∀ (H : List (Nat × Blk)) (τ : St) (out : Str) (R : Res → St → Prop),(∀ h ∈ H0,h ∈ H) → Wr p H τ out → out.length + x.length ≤ 140737488355328 → (∀ τ',Wr p H τ' (out ++ x) → R (.ret (.tuple [])) τ') → bodyC (algP W) Tryz.prog annF g args τ R) : Puts g args p H0 x :=
 fun H τ out R h0 hw hr k => callW_fold (h H τ out R h0 hw hr k)
theorem not_u64 {v : Nat} (h : v < 18446744073709551616) : vUn .xor (.int .u64 (v : Int)) = some (.int .u64 ((18446744073709551615 - v : Nat) : Int)) := by
 show some (PV.int .u64 (IntKind.u64.wrap ((BitVec.ofInt 64 18446744073709551615 ^^^ BitVec.ofInt 64 (v : Int)).toNat : Nat))) = _
 have e1 : (BitVec.ofInt 64 18446744073709551615 : BitVec 64) = BitVec.allOnes 64 := by decide
 rw [e1,BitVec.allOnes_xor,BitVec.toNat_not,wrap_u64]
 have e2 : (BitVec.ofInt 64 (v : Int)).toNat = v := by
  rw [BitVec.ofInt_natCast,BitVec.toNat_ofNat]
  exact Nat.mod_eq_of_lt (by omega)
 rw [e2]
 congr 2
 omega
theorem or_128 : ∀ x : Fin 256,(BitVec.ofInt 8 ((x.val : Nat) : Int) ||| BitVec.ofInt 8 128).toNat = x.val % 128 + 128 := by decide +kernel
theorem low_or {v : Nat} : vConv .u8 (.int .u64 (v : Int)) = some (.int .u8 ((v % 256 : Nat) : Int)) := by
 simp only [vConv,wrap_u8]
 rfl
theorem or_u8 {v : Nat} : vBin none .or (.int .u8 ((v % 256 : Nat) : Int)) (.int .u8 128) = some (.int .u8 ((v % 128 + 128 : Nat) : Int)) := by
 have h := or_128 ⟨v % 256,Nat.mod_lt _ (by omega)⟩
 simp only at h
 show some (PV.int .u8 (IntKind.u8.wrap ((BitVec.ofInt 8 ((v % 256 : Nat) : Int) ||| BitVec.ofInt 8 128).toNat : Nat))) = _
 rw [h,wrap_u8]
 congr 2
 omega
theorem shr_u64 {v : Nat} : vBin none .shr (.int .u64 (v : Int)) (.int .u64 7) = some (.int .u64 ((v / 128 : Nat) : Int)) := by
 have h0 : ¬ ((7 : Int) < 0) := by omega
 have hb : IntKind.u64.bits = 64 := rfl
 simp only [vBin,vShift,h0,if_false,hb]
 have e : min (7 : Int).toNat 64 = 7 := rfl
 rw [e]
 have : (v : Int).fdiv (2 ^ 7) = ((v / 128 : Nat) : Int) := by
  rw [Int.fdiv_eq_ediv_of_nonneg _ (by decide)]
  rfl
 rw [this]
theorem u8_nat {n : Nat} (h : n < 256) : (PV.int .u8 (n : Int)) = .int .u8 ((UInt8.ofNat n).toNat : Int) := by rw [byte_nat h]
theorem conv_pos {n : Int} (h0 : 0 ≤ n) (h1 : n ≤ 9223372036854775807) : ∃ w : Int,vConv .u64 (.int .i64 n) = some (.int .u64 w) ∧ vBin none .shl (.int .u64 w) (.int .u64 1) = some (.int .u64 ((2 * n.toNat : Nat) : Int)) := by
 refine ⟨n,?_,?_⟩
 ·simp only [vConv,wrap_u64]
  congr 2
  omega
 ·have hh : ¬ ((1 : Int) < 0) := by omega
  have hb : IntKind.u64.bits = 64 := rfl
  simp only [vBin,vShift,hh,if_false,wrap_u64,hb]
  have e : min (1 : Int).toNat 64 = 1 := rfl
  rw [e]
  congr 2
  omega
theorem conv_neg {n : Int} (h0 : n < 0) (h1 : -9223372036854775808 ≤ n) : ∃ w : Int,vConv .u64 (.int .i64 n) = some (.int .u64 w) ∧ vBin none .shl (.int .u64 w) (.int .u64 1) = some (.int .u64 ((18446744073709551615 - zig n : Nat) : Int)) := by
 have hz : zig n = (-2 * n - 1).toNat := by
  unfold zig
  rw [if_pos h0]
 refine ⟨n % 18446744073709551616,?_,?_⟩
 ·simp only [vConv,wrap_u64]
 ·have hh : ¬ ((1 : Int) < 0) := by omega
  have hb : IntKind.u64.bits = 64 := rfl
  simp only [vBin,vShift,hh,if_false,wrap_u64,hb]
  have e : min (1 : Int).toNat 64 = 1 := rfl
  rw [e,hz]
  congr 2
  omega
theorem fldP (p : Nat) : vField 0 (.ptr p 0 0 0) = some (.ptr p 0 0 0) := rfl
theorem nilP (p : Nat) : vNil (.ptr p 0 0 0) = some (.ptr p 0 0 0) := rfl
theorem num_prep {n : Int} (hn : InI n) : ∃ w u : Int,vConv .u64 (.int .i64 n) = some (.int .u64 w) ∧ vBin none .shl (.int .u64 w) (.int .u64 1) = some (.int .u64 u) ∧
  (n < 0 → vUn .xor (.int .u64 u) = some (.int .u64 (zig n : Int))) ∧ (¬ n < 0 → u = (zig n : Int)) := by
 have hzl := zig_lt hn.1 hn.2
 rcases Int.lt_or_le n 0 with hneg | hpos
 ·obtain ⟨w,e1,e2⟩ := conv_neg hneg hn.1
  have e4 := not_u64 (v := 18446744073709551615 - zig n) (by omega)
  have e5 : 18446744073709551615 - (18446744073709551615 - zig n) = zig n := by omega
  rw [e5] at e4
  exact ⟨w,_,e1,e2,fun _ => e4,fun h => absurd hneg h⟩
 ·obtain ⟨w,e1,e2⟩ := conv_pos hpos hn.2
  refine ⟨w,_,e1,e2,fun h => by omega,fun _ => ?_⟩
  unfold zig
  rw [if_neg (by omega)]
  omega
theorem c247 {p : Nat} {n : Int} (hn : InI n) : Puts 247 [.ptr p 0 0 0,.int .i64 n] p [] (numB n) := puts_of fun H τ out R h0 hw hr hR => by
 rw [fn247_eq]
 delta fn247 bF lF sF kF nI mF
 have hzl := zig_lt hn.1 hn.2
 obtain ⟨w,u,e1,e2,e3,e4⟩ := num_prep hn
 simp only [e1,e2,zz,Nat.reduceEqDiff]
 refine CutW_by (fun x τ' => x 0 = .ptr p 0 0 0 ∧ x 4 = .int .u64 (zig n : Int) ∧ τ' = τ) (fun x τ' hx => ?_) ?_
 case refine_2 =>
  refine condB (fun hb => ?_) (fun hb => ?_)
  ·simp only [e3 (of_decide_eq_true hb),zz,Nat.reduceEqDiff]
   exact ⟨trivial,trivial,trivial⟩
  ·rw [e4 (of_decide_eq_false hb)]
   exact ⟨rfl,rfl,rfl⟩
 obtain ⟨q0,q4,rfl⟩ := hx
 simp only [q0,q4,zz,Nat.reduceEqDiff]
 refine CutW_by (fun x τ => ∃ (v : Nat) (cur : Str),x 0 = .ptr p 0 0 0 ∧ x 4 = .int .u64 (v : Int) ∧ v < 128 ∧ Wr p H τ cur ∧ cur ++ [UInt8.ofNat v] = out ++ numB n) (fun x τ hx => ?_) ?_
 ·obtain ⟨v,cur,q0,q4,hv,hw',he⟩ := hx
  have hlen := congrArg List.length he
  simp only [List.length_append,List.length_cons,List.length_nil] at hlen
  have h256 : v % 256 = v := Nat.mod_eq_of_lt (by omega)
  obtain ⟨w,e1,w',τ1,e2,τ2,e3,hw2⟩ := hw'.push (y := .list .full [.int .u8 (v : Int)]) (l := [UInt8.ofNat v]) (by rw [u8_nat (by omega)]; rfl) (by simp; omega)
  rw [he] at hw2
  simp only [q0,q4,nilP,fldP,e1,low_or,h256,b1_u8,e2,e3,zz,Nat.reduceEqDiff]
  exact weakW_keep (hR _ hw2)
 refine Lfp_up 9 (fun j x τ => ∃ (v : Nat) (cur : Str),x = lookP [(0,.ptr p 0 0 0),(4,.int .u64 (v : Int))] ∧ v < 2 * 128 ^ (9 - j) ∧ Wr p H τ cur ∧ cur ++ lebF (9 - j) v = out ++ numB n) ?_ ⟨zig n,out,rfl,by simpa using hzl,hw,rfl⟩
 rintro Φ j x τ hj ⟨v,cur,rfl,hv,hw',he⟩ next
 simp only [zz,Nat.reduceEqDiff]
 refine condB (fun hb => ?_) (fun hb => ?_)
 ·have h128 : 128 ≤ v := by
   have := of_decide_eq_true hb
   omega
  have hj9 : j < 9 := by
   rcases Nat.lt_or_ge j 9 with h | h
   ·exact h
   ·have : 9 - j = 0 := by omega
    rw [this] at hv
    omega
  have hf : 9 - j = (9 - (j + 1)) + 1 := by omega
  rw [hf] at he hv
  unfold lebF at he
  rw [if_pos h128] at he
  have hlen := congrArg List.length he
  have hl9 := (lebF_len (9 - (j + 1)) (v / 128)).1
  simp only [List.length_append,List.length_cons] at hlen
  obtain ⟨w,e1,w',τ1,e2,τ2,e3,hw2⟩ := hw'.push (y := .list .full [.int .u8 ((v % 128 + 128 : Nat) : Int)]) (l := [UInt8.ofNat (v % 128 + 128)]) (by rw [u8_nat (by omega)]; rfl) (by simp; omega)
  simp only [nilP,fldP,e1,low_or,or_u8,b1_u8,e2,e3,shr_u64,zz,Nat.reduceEqDiff]
  refine next _ _ hj9 ⟨v / 128,_,rfl,?_,hw2,?_⟩
  ·rw [Nat.pow_succ] at hv
   omega
  ·rw [List.append_assoc]
   exact he
 ·have h128 : v < 128 := by
   have := of_decide_eq_false hb
   omega
  refine ⟨v,cur,trivial,rfl,h128,hw',?_⟩
  rw [← he]
  congr 1
  cases hf : 9 - j with
  | zero => rfl
  | succ f => simp only [lebF,if_neg (show ¬ 128 ≤ v by omega)]
theorem c150 {p : Nat} {n : Int} (hn : InI n) : Puts 150 [.ptr p 0 0 0,.int .i64 n] p [] (numB n) := puts_of fun H τ out R h0 hw hr hR => by
 rw [fn150_eq]
 delta fn150
 refine (c247 hn).callB h0 hw hr fun τ' hw' => ?_
 exact weakW_keep (hR _ hw')
theorem c159 {p : Nat} {b : Bool} : Puts 159 [.ptr p 0 0 0,.bool b] p [] (boolB b) := puts_of fun H τ out R h0 hw hr hR => by
 rw [fn159_eq]
 delta fn159 nI
 cases b with
 | true =>
  simp only [zz,Nat.reduceEqDiff]
  refine (c150 (n := 1) ⟨by omega,by omega⟩).callB h0 hw hr fun τ' hw' => ?_
  exact weakW_keep (hR _ hw')
 | false =>
  simp only [zz,Nat.reduceEqDiff]
  refine (c150 (n := 0) ⟨by omega,by omega⟩).callB h0 hw hr fun τ' hw' => ?_
  exact weakW_keep (hR _ hw')
theorem c156 {p : Nat} {s : Str} : Puts 156 [.ptr p 0 0 0,.str s] p [] (textB s) := puts_of fun H τ out R h0 hw hr hR => by
 rw [fn156_eq]
 delta fn156 lF sF
 simp only [zz,Nat.reduceEqDiff]
 unfold textB at hr hR
 rw [List.length_append] at hr
 refine (c150 (n := s.length) ⟨by omega,by omega⟩).callB h0 hw (by omega) fun τ' hw' => ?_
 obtain ⟨w,e1,w',τ1,e2,τ2,e3,hw2⟩ := hw'.push (y := .str s) (l := s) rfl (by rw [List.length_append]; omega)
 simp only [nilP,fldP,e1,e2,e3,zz,Nat.reduceEqDiff]
 rw [List.append_assoc] at hw2
 exact weakW_keep (hR _ hw2)
end Go.Proofs.YtgghfcchanilpaaGreatDoor
