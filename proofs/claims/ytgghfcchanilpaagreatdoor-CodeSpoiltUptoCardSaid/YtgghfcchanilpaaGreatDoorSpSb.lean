import Derived.Test.YtgghfcchanilpaaGreatDoorSpRj
set_option linter.unusedVariables false
set_option linter.unusedSimpArgs false
namespace Go.Proofs.YtgghfcchanilpaaGreatDoor
open Go Go.Abs
def fitsS (s : Str) : Bool := if s.length < 8 then false else s.drop (s.length - 4) == fourB (sumS (s.take (s.length - 4)))
theorem c35 {s : Str} (hs : s.length ≤ 140737488355328) (σ : St) : Ret W 35 [.str s] σ (.bool (fitsS s)) := by
 refine ret_of fun R hR => ?_
 rw [fn35_eq]
 delta fn35 bF nI
 unfold fitsS at hR
 simp only [zz,Nat.reduceEqDiff]
 refine condB (fun hb => ?_) (fun hb => ?_)
 ·have h1 : s.length < 8 := by
   have : (s.length : Int) < 8 := by simpa using hb
   omega
  rw [if_pos h1] at hR
  exact weakW_keep hR
 have h1 : ¬ s.length < 8 := by
  have : ¬ (s.length : Int) < 8 := by simpa using hb
  omega
 rw [if_neg h1] at hR
 simp only [sub_int (n := s.length) (by omega) (by omega),sub_head (s := s) (n := s.length - 4) (by omega),sub_tail (s := s) (n := s.length - 4) (by omega),zz,Nat.reduceEqDiff]
 refine (c31 (by simp; omega) _).callB ?_
 obtain ⟨e0,⟨w1,e1,f1⟩,⟨w2,e2,f2⟩,⟨w3,e3,f3⟩⟩ := four_parts (sumS (s.take (s.length - 4)))
 have hv : vToStr (.list .full (u8s (fourB (sumS (s.take (s.length - 4)))))) σ = some (.str (fourB (sumS (s.take (s.length - 4))))) := BytesV.str (.inl rfl)
 have hq : ∀ a b : Str,vBin none .eql (.str a) (.str b) = some (.bool (a == b)) := fun _ _ => rfl
 have hv' := hv
 unfold fourB at hv'
 simp only [sub_int (n := s.length) (by omega) (by omega),sub_tail (s := s) (n := s.length - 4) (by omega),e0,e1,f1,e2,f2,e3,f3,b4_u8,hv',hq,zz,Nat.reduceEqDiff]
 exact weakW_keep hR
theorem read_ok {s : Str} (hl : s.length ≤ 1048576) : (∃ e,readR s = .error e ∧ (e = 16 ∧ s.length < 8 ∨ e = 13 ∧ s.take 4 ≠ markB ∧ 8 ≤ s.length ∨ e = 15)) ∨ fitsS s = true := by
 unfold readR fitsS
 rw [if_neg (by omega)]
 by_cases h1 : s.length < 8
 ·rw [if_pos h1]
  exact .inl ⟨16,rfl,.inl ⟨rfl,h1⟩⟩
 rw [if_neg h1,if_neg h1]
 by_cases h2 : s.take 4 ≠ markB
 ·rw [if_pos h2]
  exact .inl ⟨13,rfl,.inr (.inl ⟨rfl,h2,by omega⟩)⟩
 rw [if_neg h2]
 by_cases h3 : fourB (sumS (s.take (s.length - 4))) ≠ s.drop (s.length - 4)
 ·rw [if_pos h3]
  exact .inl ⟨15,rfl,.inr (.inr rfl)⟩
 ·right
  rw [beq_iff_eq]
  exact (Decidable.not_not.1 h3).symm
end Go.Proofs.YtgghfcchanilpaaGreatDoor
namespace Go.Proofs.YtgghfcchanilpaaGreatDoor
open Go Go.Abs
theorem write_zero {c : CodeS} (h : (writeS c).2 = 0) : (writeS c).1 = wholeB c ∧ (wholeB c).length ≤ 1048576 := by
 unfold writeS at h ⊢
 split at h
 ·rename_i hne
  exact absurd h hne
 ·rename_i hne
  rw [if_neg hne]
  split at h
  ·cases h
  ·rename_i hl
   rw [if_neg hl]
   exact ⟨rfl,by omega⟩
theorem whole_head (c : CodeS) : (wholeB c).take 4 = markB ∧ 8 ≤ (wholeB c).length := by
 have e : wholeB c = markB ++ (codeW (codeL c) ++ fourB (sumS (bodyB c))) := by simp [wholeB,bodyB]
 have h4 : (fourB (sumS (bodyB c))).length = 4 := rfl
 have hm : markB.length = 4 := rfl
 rw [e]
 constructor
 ·rw [List.take_append_of_le_length (by omega),List.take_of_length_le (by omega)]
 ·simp only [List.length_append]
  omega
theorem res_parts (r : Except Int CodeL) : ∃ cs e,resR r = .tuple [.agg cs,.int .i64 e] ∧ cs.length = 10 ∧ ∀ d,r = .error d → e = d := by
 cases r with
 | error d => exact ⟨_,d,rfl,rfl,fun d' h => by cases h; rfl⟩
 | ok c => exact ⟨_,0,rfl,rfl,fun d' h => by cases h⟩
theorem read_parts {s : Str} (hl : s.length ≤ 1048576) : ∃ cs e,resR (readR s) = .tuple [.agg cs,.int .i64 e] ∧ cs.length = 10 ∧ ((e = 16 ∧ s.length < 8 ∨ e = 13 ∧ s.take 4 ≠ markB ∧ 8 ≤ s.length ∨ e = 15) ∨ fitsS s = true) := by
 obtain ⟨cs,e,h1,h2,h3⟩ := res_parts (readR s)
 refine ⟨cs,e,h1,h2,?_⟩
 rcases read_ok hl with ⟨d,hd,hk⟩ | hf
 ·rw [h3 d hd]
  exact .inl hk
 ·exact .inr hf
theorem xor_u8 (a : UInt8) (d : Int) : ∃ c : UInt8,vBin none .xor (.int .u8 (a.toNat : Int)) (.int .u8 d) = some (.int .u8 (c.toNat : Int)) := by
 refine ⟨UInt8.ofNat (BitVec.ofInt 8 (a.toNat : Int) ^^^ BitVec.ofInt 8 d).toNat,?_⟩
 show some (PV.int .u8 (IntKind.u8.wrap ((BitVec.ofInt 8 (a.toNat : Int) ^^^ BitVec.ofInt 8 d).toNat : Nat))) = _
 have h := (BitVec.ofInt 8 (a.toNat : Int) ^^^ BitVec.ofInt 8 d).isLt
 rw [byte_nat h,wrap_u8]
 congr 2
 omega
theorem u8s_set (w : Str) (i : Nat) (c : UInt8) : (u8s w).set i (.int .u8 (c.toNat : Int)) = u8s (w.set i c) := by
 unfold u8s
 rw [List.map_set]
theorem rem_nat {m n : Nat} (h : 0 < n) : vBin none .rem (.int .i64 (m : Int)) (.int .i64 (n : Int)) = some (.int .i64 ((m % n : Nat) : Int)) := by
 have h0 : (n : Int) ≠ 0 := by omega
 show (if (n : Int) = 0 then none else some (PV.int .i64 ((m : Int).tmod n))) = _
 rw [if_neg h0,Int.tmod_eq_emod_of_nonneg (by omega)]
 rfl
theorem conv_16 {m : Nat} (h : m < 65536) : vConv .i64 (.int .u16 (m : Int)) = some (.int .i64 (m : Int)) := by
 simp only [vConv]
 congr 2
 simp [IntKind.wrap,IntKind.bits,IntKind.signed]
 omega
set_option maxRecDepth 100000 in
theorem c11 {c : CodeS} (hc : Okay c) (hi : CodeI (codeL c)) {m : Nat} (hm : m < 65536) {d : Int} : Ret W 11 [pvCode c,.int .u16 m,.int .u8 d] [] (.bool true) := by
 refine ret_of fun R hR => ?_
 rw [fn11_eq]
 delta fn11 bF gF nI nL
 simp only [code_parts,zz,Nat.reduceEqDiff]
 refine c12.callB ?_
 simp only [zz,Nat.reduceEqDiff]
 refine (c23 hc _).callB fun b => ?_
 cases b with
 | false =>
  simp only [zz,Nat.reduceEqDiff]
  refine c12.callB ?_
  exact weakW_keep hR
 | true =>
  simp only [zz,Nat.reduceEqDiff]
  refine condB (fun hb => ?_) (fun hb => ?_)
  ·refine c12.callB ?_
   exact weakW_keep hR
  refine (c29 hc hi _).callB ?_
  have hne : vBin none .neq (.int .i64 (writeS c).2) (.int .i64 0) = some (.bool ((writeS c).2 != 0)) := rfl
  simp only [pvWr,hne,zz,Nat.reduceEqDiff]
  refine condB (fun hz => ?_) (fun hz => ?_)
  ·exact weakW_keep hR
  have hz0 : (writeS c).2 = 0 := by simpa using hz
  obtain ⟨hw,hwl⟩ := write_zero hz0
  obtain ⟨hw4,hw8⟩ := whole_head c
  rw [hw]
  generalize wholeB c = w at hwl hw4 hw8
  have hpos : 0 < w.length := by omega
  have hil : m % w.length < w.length := Nat.mod_lt _ hpos
  have hby : vToBytes 23 (.str w) [] = some (.sref 0 23 1 0 w.length,[.arr 23 1 (u8s w)]) := by
   unfold vToBytes
   dsimp only
   rw [if_pos (by omega)]
   split
   ·simp at hpos
   ·rfl
  simp only [conv_16 hm,rem_nat hpos,hby,zz,Nat.reduceEqDiff]
  generalize m % w.length = i at hil
  have hg : w[i]? = some w[i] := by simp [hil]
  generalize w[i] = a at hg
  obtain ⟨a',hx⟩ := xor_u8 a d
  have e1 : vIndex 1 (.sref 0 23 1 0 w.length) (.int .i64 (i : Int)) = some (.ptr 0 23 i 0) := by simp [vIndex,hil]
  have e2 : vLoad false 1 (.ptr 0 23 i 0) [.arr 23 1 (u8s w)] = some (.int .u8 (a.toNat : Int)) := by simp [vLoad,u8s_get hg,vPart,PV.cells?]
  have e3 : vStore 1 (.ptr 0 23 i 0) (.int .u8 (a'.toNat : Int)) [.arr 23 1 (u8s w)] = some [.arr 23 1 (u8s (w.set i a'))] := by
   rw [← u8s_set]
   simp [vStore,u8s_get hg,vPut,PV.cells?]
  have hsl : (w.set i a').length = w.length := by simp
  have e4 : vToStr (.sref 0 23 1 0 w.length) [.arr 23 1 (u8s (w.set i a'))] = some (.str (w.set i a')) := by
   have := sref_str (b := 0) (g := 23) (off := 0) (n := w.length) (body := w.set i a') (σ := [.arr 23 1 (u8s (w.set i a'))]) rfl (by omega)
   rw [this]
   congr 2
   rw [List.drop_zero,List.take_of_length_le (by omega)]
  simp only [e1,e2,hx,e3,e4,zz,Nat.reduceEqDiff]
  generalize hs : w.set i a' = s at hsl
  obtain ⟨cs,e,hr,hcs,hE⟩ := read_parts (s := s) (by omega)
  refine (c32 s (by omega) _).callB ?_
  have hp : vPut 10 (.agg nil10) 0 (.agg cs) = some (.agg cs) := vPut_agg rfl hcs
  have hpl : (w.take i).length = i := by simp; omega
  obtain ⟨ds,e',hr',hds,hE'⟩ := read_parts (s := w.take i) (by omega)
  have hp' : vPut 10 (.agg nil10) 0 (.agg ds) = some (.agg ds) := vPut_agg rfl hds
  rw [hr]
  simp only [hp,sub_head (s := w) (n := i) (by omega),zz,Nat.reduceEqDiff]
  refine (c32 (w.take i) (by omega) _).callB ?_
  rw [hr']
  have h1 : (e == 15) = true ∨ (e == 13) = true ∨ fitsS s = true := by
   rcases hE with (⟨-,h⟩ | ⟨rfl,-⟩ | rfl) | h
   ·omega
   ·exact .inr (.inl rfl)
   ·exact .inl rfl
   ·exact .inr (.inr h)
  have h2 : (e' == 16) = true ∨ (e' == 15) = true ∨ fitsS (w.take i) = true := by
   rcases hE' with (⟨rfl,h⟩ | ⟨rfl,h,h8⟩ | rfl) | h
   ·exact .inl rfl
   ·exfalso
    rw [List.take_take,Nat.min_eq_left (by omega)] at h
    exact h hw4
   ·exact .inr (.inl rfl)
   ·exact .inr (.inr h)
  have q1 : ∀ k : Int,vBin none .eql (.int .i64 e) (.int .i64 k) = some (.bool (e == k)) := fun _ => rfl
  have q2 : ∀ k : Int,vBin none .eql (.int .i64 e') (.int .i64 k) = some (.bool (e' == k)) := fun _ => rfl
  have fin : ∀ τ : St,weakW [] (.bool true) τ fun v σ => R (.ret v) σ := fun τ => weakW_kill (fun c => 0 ≤ c) ⟨fun _ _ => Nat.zero_le _,Nat.zero_le _,fun _ _ _ => Nat.zero_le _,fun b k hk => by simp at hk⟩ (.base _ (.bool _)) hR
  simp only [hp',q1,q2,zz,Nat.reduceEqDiff]
  generalize (e == 15) = b1 at h1 ⊢
  generalize (e == 13) = b2 at h1 ⊢
  generalize (e' == 16) = b3 at h2 ⊢
  generalize (e' == 15) = b4 at h2 ⊢
  have f1 := c35 (s := s) (by omega) [.arr 23 1 (u8s s)]
  have f2 := c35 (s := w.take i) (by omega) [.arr 23 1 (u8s s)]
  rw [hs] at e4
  generalize fitsS s = b5 at h1 f1
  generalize fitsS (w.take i) = b6 at h2 f2
  cases b1 <;> cases b2 <;> cases b3 <;> cases b4
  all_goals simp only [e4,zz,Nat.reduceEqDiff]
  all_goals try (refine f1.callB ?_; have h5 : b5 = true := by simpa using h1
                 simp only [h5,zz,Nat.reduceEqDiff])
  all_goals try (refine f2.callB ?_; have h6 : b6 = true := by simpa using h2
                 simp only [h6,zz,Nat.reduceEqDiff])
  all_goals exact fin _
end Go.Proofs.YtgghfcchanilpaaGreatDoor
