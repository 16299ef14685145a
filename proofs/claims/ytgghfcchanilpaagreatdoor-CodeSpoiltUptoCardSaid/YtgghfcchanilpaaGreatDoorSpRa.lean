import Derived.Test.YtgghfcchanilpaaGreatDoorSpWd
import Derived.Test.YtgghfcchanilpaaGreatDoorFnH
set_option linter.unusedVariables false
set_option linter.unusedSimpArgs false
namespace Go.Proofs.YtgghfcchanilpaaGreatDoor
open Go Go.Abs
def leftV (b g off n : Nat) : PV := if n = 0 then .list .part [] else .sref b g 1 off n
def rdBlk (b g off n : Nat) : Blk := .arr 0 1 [.agg [leftV b g off n]]
structure Rd (p b g : Nat) (body : Str) (σ : St) (off : Nat) : Prop where
 at_ : σ[p]? = some (rdBlk b g off (body.length - off))
 bytes : σ[b]? = some (.arr g 1 (u8s body))
 ne : b ≠ p
 le : off ≤ body.length
def rdSet (p b g : Nat) (body : Str) (σ : St) (off : Nat) : St := σ.set p (rdBlk b g off (body.length - off))
def Same (p : Nat) (σ τ : St) : Prop := ∀ (i : Nat) k,i ≠ p → σ[i]? = some k → τ[i]? = some k
def wrongPV (e : Int) : PV := .iface 140 (.agg [.int .i64 e])
theorem Same.trans {p : Nat} {σ τ υ : St} (h : Same p σ τ) (k : Same p τ υ) : Same p σ υ := fun i b hi hb => k i b hi (h i b hi hb)
theorem Same.set {p : Nat} {σ : St} (k : Blk) : Same p σ (σ.set p k) := fun i b hi hb => by rw [List.getElem?_set_ne (Ne.symm hi)]; exact hb
theorem Rd.lt {p b g : Nat} {body : Str} {σ : St} {off : Nat} (h : Rd p b g body σ off) : p < σ.length := (List.getElem?_eq_some_iff.1 h.at_).1
theorem Rd.self {p b g : Nat} {body : Str} {σ : St} {off : Nat} (h : Rd p b g body σ off) : rdSet p b g body σ off = σ := by
 unfold rdSet
 apply List.ext_getElem?
 intro i
 rw [List.getElem?_set]
 split
 ·rename_i hi
  subst hi
  rw [if_pos h.lt,h.at_]
 ·rfl
theorem Rd.next {p b g : Nat} {body : Str} {σ : St} {off off' : Nat} (h : Rd p b g body σ off) (hle : off' ≤ body.length) : Rd p b g body (rdSet p b g body σ off') off' where
 at_ := by simp [rdSet,h.lt]
 bytes := by rw [rdSet,List.getElem?_set_ne (Ne.symm h.ne)]; exact h.bytes
 ne := h.ne
 le := hle
theorem rdSet_set {p b g : Nat} {body : Str} {σ : St} {o o' : Nat} : rdSet p b g body (rdSet p b g body σ o) o' = rdSet p b g body σ o' := by
 simp [rdSet,List.set_set]
theorem cells_left (b g off n : Nat) : (leftV b g off n).cells? = some [leftV b g off n] := by
 unfold leftV
 split <;> rfl
theorem Rd.load {p b g : Nat} {body : Str} {σ : St} {off : Nat} (h : Rd p b g body σ off) : vLoad false 1 (.ptr p 0 0 0) σ = some (leftV b g off (body.length - off)) := by
 simp [vLoad,h.at_,rdBlk,vPart,PV.cells?]
theorem left_len (b g off n : Nat) (σ : St) : vLen .sl (leftV b g off n) σ = some (.int .i64 n) := by
 unfold leftV
 split
 ·rename_i h
  subst h
  rfl
 ·rfl
theorem Rd.store {p b g : Nat} {body : Str} {σ : St} {off off' : Nat} (h : Rd p b g body σ off) : vStore 1 (.ptr p 0 0 0) (leftV b g off' (body.length - off')) σ = some (rdSet p b g body σ off') := by
 have hc := cells_left b g off' (body.length - off')
 generalize hv : leftV b g off' (body.length - off') = v at hc
 simp [vStore,h.at_,rdBlk,vPut,hc,setRange,rdSet,hv]
theorem Rd.head {p b g : Nat} {body : Str} {σ : St} {off : Nat} (h : Rd p b g body σ off) {c : UInt8} (hc : body[off]? = some c) : ∃ a,vIndex 1 (leftV b g off (body.length - off)) (.int .i64 0) = some a ∧ vLoad false 1 a σ = some (.int .u8 (c.toNat : Int)) := by
 have hlt : off < body.length := (List.getElem?_eq_some_iff.1 hc).1
 refine ⟨.ptr b g off 0,?_,?_⟩
 ·unfold leftV
  rw [if_neg (by omega)]
  simp [vIndex]
  omega
 ·simp [vLoad,h.bytes,u8s_get hc,vPart,PV.cells?]
theorem left_sub {b g off n k : Nat} (hk : k ≤ n) : vSubSl 1 (leftV b g off n) (some (.int .i64 k)) none = some (leftV b g (off + k) (n - k)) := by
 unfold leftV
 by_cases h0 : n = 0
 ·subst h0
  obtain rfl : k = 0 := by omega
  rfl
 ·rw [if_neg h0]
  have hb : bound (some (.int .i64 (k : Int))) 0 = some k := by simp [bound]
  have hn : bound none n = some n := rfl
  simp only [vSubSl,hb,hn]
  by_cases hkn : k < n
  ·rw [if_pos ⟨trivial,by omega,by omega,hkn⟩,if_neg (by omega)]
  ·rw [if_neg (by omega),if_pos ⟨by omega,by omega⟩,if_pos (by omega)]
def Gets (f : FuncId) (args : List PV) (p : Nat) (H0 : List (Nat × Blk)) {α : Type} (pa : Pa α) (enc : α → PV) : Prop := ∀ (b g : Nat) (body : Str) (σ : St) (off : Nat) (R : Res → St → Prop),Rd p b g body σ off → (∀ h ∈ H0,σ[h.1]? = some h.2 ∧ h.1 ≠ p) → body.length ≤ 1048576 →
 (∀ a off',pa (body.drop off) = .ok (a,body.drop off') → off ≤ off' → off' ≤ body.length → R (.ret (enc a)) (rdSet p b g body σ off')) →
 (∀ e τ,pa (body.drop off) = .error e → Same p σ τ → R (.pan (wrongPV e)) τ) → W f args σ R
theorem gets_of {f : FuncId} {args : List PV} {p : Nat} {H0 : List (Nat × Blk)} {α : Type} {pa : Pa α} {enc : α → PV} (h : ∀ (b g : Nat) (body : Str) (σ : St) (off : Nat) (R : Res → St → Prop),Rd p b g body σ off → (∀ h ∈ H0,σ[h.1]? = some h.2 ∧ h.1 ≠ p) → body.length ≤ 1048576 →
  (∀ a off',pa (body.drop off) = .ok (a,body.drop off') → off ≤ off' → off' ≤ body.length → R (.ret (enc a)) (rdSet p b g body σ off')) →
  (∀ e τ,pa (body.drop off) = .error e → Same p σ τ → R (.pan (wrongPV e)) τ) → bodyC (algP W) Tryz.prog annF f args σ R) : Gets f args p H0 pa enc :=
 fun b g body σ off R h0 h1 h2 h3 h4 => callW_fold (h b g body σ off R h0 h1 h2 h3 h4)
theorem Gets.callB {f : FuncId} {args : List PV} {p : Nat} {H0 : List (Nat × Blk)} {α : Type} {pa : Pa α} {enc : α → PV} (h : Gets f args p H0 pa enc) {b g : Nat} {body : Str} {σ : St} {off : Nat} {K X : PV → St → Prop} (hr : Rd p b g body σ off) (h0 : ∀ h ∈ H0,σ[h.1]? = some h.2 ∧ h.1 ≠ p) (hl : body.length ≤ 1048576)
  (k : ∀ a off',pa (body.drop off) = .ok (a,body.drop off') → off ≤ off' → off' ≤ body.length → Rd p b g body (rdSet p b g body σ off') off' → K (enc a) (rdSet p b g body σ off')) (x : ∀ e τ,pa (body.drop off) = .error e → Same p σ τ → X (wrongPV e) τ) : callB W f args σ K X :=
 h b g body σ off _ hr h0 hl (fun a off' h1 h2 h3 => k a off' h1 h2 h3 (hr.next h3)) x
theorem c255 (e : Int) (σ : St) {K X : PV → St → Prop} (x : X (wrongPV e) σ) : callB W 255 [.int .i64 e] σ K X := by
 refine callW_fold (f := 255) ?_
 rw [fn255_eq]
 delta fn255 nI
 exact x
theorem and_127 : ∀ x : Fin 256,(BitVec.ofInt 8 ((x.val : Nat) : Int) &&& BitVec.ofInt 8 127).toNat = x.val % 128 := by decide +kernel
theorem low7 (c : UInt8) : vBin none .and (.int .u8 (c.toNat : Int)) (.int .u8 127) = some (.int .u8 ((c.toNat % 128 : Nat) : Int)) := by
 have h := and_127 ⟨c.toNat,c.toNat_lt⟩
 simp only at h
 show some (PV.int .u8 (IntKind.u8.wrap ((BitVec.ofInt 8 (c.toNat : Int) &&& BitVec.ofInt 8 127).toNat : Nat))) = _
 rw [h,wrap_u8]
 congr 2
 omega
theorem conv64 {n : Nat} (h : n < 256) : vConv .u64 (.int .u8 (n : Int)) = some (.int .u64 (n : Int)) := by
 simp only [vConv,wrap_u64]
 congr 2
 omega
theorem shl7 {n k : Nat} (hk : k ≤ 9) (h : n * 128 ^ k < 18446744073709551616) : vBin none .shl (.int .u64 (n : Int)) (.int .i64 (7 * (k : Int))) = some (.int .u64 ((n * 128 ^ k : Nat) : Int)) := by
 have h0 : ¬ ((7 * (k : Int)) < 0) := by omega
 show (if (7 * (k : Int)) < 0 then none else some (PV.int .u64 (IntKind.u64.wrap ((n : Int) * 2 ^ (min (7 * (k : Int)).toNat 64))))) = _
 rw [if_neg h0,wrap_u64]
 have hm : min (7 * (k : Int)).toNat 64 = 7 * k := by omega
 rw [hm]
 have hp : ((2 : Int) ^ (7 * k)) = ((128 ^ k : Nat) : Int) := by
  rw [Int.pow_mul]
  simp
 rw [hp]
 congr 2
 rw [← Int.natCast_mul]
 omega
theorem or64 {u n k : Nat} (hu : u < 128 ^ k) (h : u + n * 128 ^ k < 18446744073709551616) : vBin none .or (.int .u64 (u : Int)) (.int .u64 ((n * 128 ^ k : Nat) : Int)) = some (.int .u64 ((u + n * 128 ^ k : Nat) : Int)) := by
 show some (PV.int .u64 (IntKind.u64.wrap ((BitVec.ofInt 64 (u : Int) ||| BitVec.ofInt 64 ((n * 128 ^ k : Nat) : Int)).toNat : Nat))) = _
 rw [BitVec.ofInt_natCast,BitVec.ofInt_natCast,BitVec.toNat_or,BitVec.toNat_ofNat,BitVec.toNat_ofNat,Nat.mod_eq_of_lt (by omega),Nat.mod_eq_of_lt (by omega),wrap_u64]
 have hp : (128 : Nat) ^ k = 2 ^ (7 * k) := by rw [Nat.pow_mul]
 have he : u ||| n * 128 ^ k = u + n * 128 ^ k := by
  rw [hp] at hu ⊢
  rw [Nat.or_comm,Nat.mul_comm n,← Nat.two_pow_add_eq_or_of_lt hu]
  omega
 rw [he]
 congr 2
 omega
theorem half64 {u : Nat} (h : u < 18446744073709551616) : ∃ w : Int,vBin none .shr (.int .u64 (u : Int)) (.int .u64 1) = some (.int .u64 w) ∧ vConv .i64 (.int .u64 w) = some (.int .i64 ((u / 2 : Nat) : Int)) := by
 refine ⟨((u / 2 : Nat) : Int),?_,?_⟩
 ·show some (PV.int .u64 ((u : Int).fdiv (2 ^ (min (1 : Int).toNat 64)))) = _
  have hm : min (1 : Int).toNat 64 = 1 := rfl
  rw [hm,Int.fdiv_eq_ediv_of_nonneg _ (by decide)]
  rfl
 ·simp only [vConv]
  congr 2
  simp [IntKind.wrap,IntKind.bits,IntKind.signed]
  omega
theorem odd64 {u : Nat} (h : u < 18446744073709551616) : vBin none .and (.int .u64 (u : Int)) (.int .u64 1) = some (.int .u64 ((u % 2 : Nat) : Int)) := by
 show some (PV.int .u64 (IntKind.u64.wrap ((BitVec.ofInt 64 (u : Int) &&& BitVec.ofInt 64 1).toNat : Nat))) = _
 have h1 : (BitVec.ofInt 64 1 : BitVec 64) = BitVec.ofNat 64 1 := by decide
 rw [h1,BitVec.ofInt_natCast,BitVec.toNat_and,BitVec.toNat_ofNat,BitVec.toNat_ofNat,Nat.mod_eq_of_lt (by omega),wrap_u64]
 have : u &&& 1 % 2 ^ 64 = u % 2 := by
  rw [show 1 % 2 ^ 64 = 1 from rfl,Nat.and_one_is_mod]
 rw [this]
 congr 2
 omega
theorem not_i64 {v : Nat} (h : v < 9223372036854775808) : vUn .xor (.int .i64 (v : Int)) = some (.int .i64 (-(v : Int) - 1)) := by
 show some (PV.int .i64 (IntKind.i64.wrap ((BitVec.ofInt 64 (-1) ^^^ BitVec.ofInt 64 (v : Int)).toNat : Nat))) = _
 have e1 : (BitVec.ofInt 64 (-1) : BitVec 64) = BitVec.allOnes 64 := by decide
 rw [e1,BitVec.allOnes_xor,BitVec.toNat_not,BitVec.ofInt_natCast,BitVec.toNat_ofNat,Nat.mod_eq_of_lt (by omega)]
 congr 2
 simp [IntKind.wrap,IntKind.bits,IntKind.signed]
 split <;> omega
theorem body_cons {body : Str} {off : Nat} {c : UInt8} (h : body[off]? = some c) : body.drop off = c :: body.drop (off + 1) := by
 obtain ⟨h1,h2⟩ := List.getElem?_eq_some_iff.1 h
 rw [List.drop_eq_getElem_cons h1,h2]
end Go.Proofs.YtgghfcchanilpaaGreatDoor
