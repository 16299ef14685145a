import Derived.Test.YtgghfcchanilpaaGreatDoorSpZd
import Derived.Test.YtgghfcchanilpaaGreatDoorOpsC
import Derived.KernelRfl
import Derived.Test.YtgghfcchanilpaaGreatDoorSpWc
import Derived.Test.YtgghfcchanilpaaGreatDoorSpZb
import Derived.Test.YtgghfcchanilpaaGreatDoorAnn
import Derived.Test.YtgghfcchanilpaaGreatDoorProg
import Derived.Test.YtgghfcchanilpaaGreatDoorAbsExt
import Derived.Test.YtgghfcchanilpaaGreatDoorPlJ
set_option linter.unusedVariables false
set_option linter.unusedSimpArgs false
namespace Go.Proofs.YtgghfcchanilpaaGreatDoor
open Go Go.Abs
theorem in_of {n : Int} (h : InI n) : inI64 n = true := by
 simpa [inI64,InI] using h
theorem oper_of {o : OperS} (h : OperI o) : o.ok = true := by
 simp [OperS.ok,in_of h.1,in_of h.2.1,in_of h.2.2]
theorem inst_of {i : InstS} (h : InstI i) : i.ok = true := by
 simp [InstS.ok,in_of h.1,oper_of h.2.1,oper_of h.2.2.1,oper_of h.2.2.2.1,in_of h.2.2.2.2.1,in_of h.2.2.2.2.2]
theorem nums_of {c : CodeS} (h : CodeI (codeL c)) : Nums c := by
 refine ⟨fun r hr => ?_,fun i hi => inst_of (h.insts.2 i hi)⟩
 have := (h.routs.2 (routL r) (List.mem_map_of_mem hr)).2.2.2.2.2.2.1
 have := this.2
 simp only [routL] at this
 omega
end Go.Proofs.YtgghfcchanilpaaGreatDoor
namespace Go.Proofs.YtgghfcchanilpaaGreatDoor
open Go Go.Abs
def sumF (h : Int) (b : UInt8) : Int := IntKind.u32.wrap (IntKind.u32.wrap ((BitVec.ofInt 32 h ^^^ BitVec.ofInt 32 (b.toNat : Int)).toNat : Nat) * 16777619)
def sumS (l : Str) : Int := l.foldl sumF 2166136261
def byteAt (s : Int) (k : Nat) : UInt8 := UInt8.ofNat (IntKind.u8.wrap (s.fdiv (2 ^ k))).toNat
def fourB (s : Int) : Str := [byteAt s 0,byteAt s 8,byteAt s 16,byteAt s 24]
theorem conv_u32 (b : UInt8) : vConv .u32 (.int .u8 (b.toNat : Int)) = some (.int .u32 (b.toNat : Int)) := by
 have h := b.toNat_lt
 simp only [vConv]
 have : IntKind.u32.wrap (b.toNat : Int) = (b.toNat : Int) := by
  simp [IntKind.wrap,IntKind.bits,IntKind.signed]
  omega
 rw [this]
theorem step_u32 (h : Int) (b : UInt8) : ∃ w : Int,vBin none .xor (.int .u32 h) (.int .u32 (b.toNat : Int)) = some (.int .u32 w) ∧ vBin none .mul (.int .u32 w) (.int .u32 16777619) = some (.int .u32 (sumF h b)) := ⟨_,rfl,rfl⟩
theorem u8_byte (s : Int) (k : Nat) : (PV.int .u8 (IntKind.u8.wrap (s.fdiv (2 ^ k)))) = .int .u8 ((byteAt s k).toNat : Int) := by
 unfold byteAt
 rw [wrap_u8]
 have h0 : 0 ≤ s.fdiv (2 ^ k) % 256 := Int.emod_nonneg _ (by omega)
 have h1 : s.fdiv (2 ^ k) % 256 < 256 := Int.emod_lt_of_pos _ (by omega)
 rw [byte_nat (by omega)]
 congr 1
 omega
theorem four_parts (s : Int) : vConv .u8 (.int .u32 s) = some (.int .u8 ((byteAt s 0).toNat : Int)) ∧
  (∃ w : Int,vBin none .shr (.int .u32 s) (.int .u64 8) = some (.int .u32 w) ∧ vConv .u8 (.int .u32 w) = some (.int .u8 ((byteAt s 8).toNat : Int))) ∧
  (∃ w : Int,vBin none .shr (.int .u32 s) (.int .u64 16) = some (.int .u32 w) ∧ vConv .u8 (.int .u32 w) = some (.int .u8 ((byteAt s 16).toNat : Int))) ∧
  (∃ w : Int,vBin none .shr (.int .u32 s) (.int .u64 24) = some (.int .u32 w) ∧ vConv .u8 (.int .u32 w) = some (.int .u8 ((byteAt s 24).toNat : Int))) := by
 refine ⟨?_,⟨s.fdiv (2 ^ 8),rfl,?_⟩,⟨s.fdiv (2 ^ 16),rfl,?_⟩,⟨s.fdiv (2 ^ 24),rfl,?_⟩⟩
 ·rw [← u8_byte s 0]
  simp [vConv,Int.fdiv_one]
 ·rw [← u8_byte s 8]
  rfl
 ·rw [← u8_byte s 16]
  rfl
 ·rw [← u8_byte s 24]
  rfl
theorem b4_u8 (a b c d : UInt8) : vBuildSl 1 (List.replicate 4 (.int .u8 0)) [(0,.int .u8 (a.toNat : Int)),(1,.int .u8 (b.toNat : Int)),(2,.int .u8 (c.toNat : Int)),(3,.int .u8 (d.toNat : Int))] = some (u8s [a,b,c,d]) := rfl
theorem c78 (s : Int) (σ : St) : Ret W 78 [.int .u32 s] σ (.list .full (u8s (fourB s))) := by
 refine ret_of fun R hR => ?_
 rw [fn78_eq]
 delta fn78 bF
 obtain ⟨e0,⟨w1,e1,f1⟩,⟨w2,e2,f2⟩,⟨w3,e3,f3⟩⟩ := four_parts s
 simp only [e0,e1,f1,e2,f2,e3,f3,b4_u8,zz,Nat.reduceEqDiff]
 exact weakW_keep hR
theorem sum_take {l : Str} {j : Nat} {b : UInt8} (h : l[j]? = some b) : (l.take (j + 1)).foldl sumF 2166136261 = sumF ((l.take j).foldl sumF 2166136261) b := by
 rw [List.take_add_one,h,List.foldl_append]
 rfl
def BytesV (τ : St) (v : PV) (out : Str) : Prop := v = .list .full (u8s out) ∨ ∃ b g,v = .sref b g 1 0 out.length ∧ τ[b]? = some (.arr g 1 (u8s out))
theorem u8s_get {out : Str} {j : Nat} {c : UInt8} (h : out[j]? = some c) : (u8s out)[j]? = some (.int .u8 (c.toNat : Int)) := by
 unfold u8s
 rw [List.getElem?_map,h]
 rfl
theorem BytesV.at {τ : St} {v : PV} {out : Str} (h : BytesV τ v out) {j : Nat} {c : UInt8} (hc : out[j]? = some c) : ∃ a,vIndex 1 v (.int .i64 j) = some a ∧ vLoad false 1 a τ = some (.int .u8 (c.toNat : Int)) := by
 have hj : j < out.length := (List.getElem?_eq_some_iff.1 hc).1
 rcases h with rfl | ⟨b,g,rfl,hb⟩
 ·refine ⟨.eptr (.int .u8 (c.toNat : Int)) 0,vIndex_list .i64 (u8s_get hc) rfl rfl,rfl⟩
 ·refine ⟨.ptr b g j 0,by simp [vIndex,hj],by simp [vLoad,hb,u8s_get hc,vPart,PV.cells?]⟩
theorem BytesV.len {τ : St} {v : PV} {out : Str} (h : BytesV τ v out) (τ' : St) : vLen .sl v τ' = some (.int .i64 out.length) := by
 rcases h with rfl | ⟨b,g,rfl,hb⟩
 ·simp [vLen,u8s_len]
 ·rfl
theorem BytesV.elems {τ : St} {v : PV} {out : Str} (h : BytesV τ v out) : vElems v τ = some (u8s out) := by
 rcases h with rfl | ⟨b,g,rfl,hb⟩
 ·rfl
 ·simp [vElems,hb,u8s_len,List.take_of_length_le]
theorem bytesOf_u8s : ∀ l : Str,bytesOf? (u8s l) = some l
 | [] => rfl
 | b :: l => by
  have h : UInt8.ofNat ((b.toNat : Int).toNat) = b := by simp
  show (match bytesOf? (u8s l) with | some r => some (UInt8.ofNat ((b.toNat : Int).toNat) :: r) | none => none) = _
  rw [bytesOf_u8s l,h]
theorem BytesV.str {τ : St} {v : PV} {out : Str} (h : BytesV τ v out) : vToStr v τ = some (.str out) := by
 have he := h.elems
 rcases h with rfl | ⟨b,g,rfl,hb⟩
 ·simp only [vToStr,he,bytesOf_u8s]
 ·simp only [vToStr,he,bytesOf_u8s]
theorem Wr.val {p : Nat} {H : List (Nat × Blk)} {τ : St} {out : Str} (h : Wr p H τ out) : ∃ v,vLoad false 1 (.ptr p 0 0 0) τ = some v ∧ BytesV τ v out := by
 obtain ⟨v,hp,hH,hv⟩ := h
 refine ⟨v,?_,?_⟩
 ·rcases hv with ⟨rfl,-⟩ | ⟨b,g,rfl,-⟩ <;> simp [vLoad,hp,vPart,PV.cells?]
 ·rcases hv with ⟨rfl,-⟩ | ⟨b,g,rfl,hb,-⟩
  ·exact .inl rfl
  ·exact .inr ⟨b,g,rfl,hb⟩
theorem c79 {v : PV} {out : Str} {τ : St} (h : BytesV τ v out) (hl : out.length ≤ 140737488355328) : Ret W 79 [v] τ (.int .u32 (sumS out)) := by
 refine ret_of fun R hR => ?_
 rw [fn79_eq]
 delta fn79 bF kF nI
 simp only [h.len,zz,Nat.reduceEqDiff]
 refine CutW_by (fun x τ' => x 3 = .int .u32 (sumS out) ∧ τ' = τ) (fun x τ' hx => ?_) ?_
 ·obtain ⟨q3,rfl⟩ := hx
  rw [q3]
  exact weakW_keep hR
 refine Lfp_up out.length (fun j x τ' => x = lookP [(3,.int .u32 ((out.take j).foldl sumF 2166136261)),(6,v),(7,.int .i64 out.length),(8,.int .i64 j)] ∧ τ' = τ) ?_ ⟨rfl,rfl⟩
 rintro Φ j x τ' hj ⟨rfl,rfl⟩ next
 by_cases hlt : j < out.length
 ·have hg : out[j]? = some out[j] := by simp [hlt]
  generalize out[j] = c at hg
  have hst := sum_take hg
  obtain ⟨w,e1,e2⟩ := step_u32 ((out.take j).foldl sumF 2166136261) c
  obtain ⟨a,hix,hld⟩ := h.at hg
  simp only [lt_len' hlt,hlt,decide_true,hix,hld,conv_u32,e1,e2,zz,Nat.reduceEqDiff]
  rw [vBin_add _ (by omega) (by omega)]
  simp only [zz,Nat.reduceEqDiff]
  exact next _ _ hlt ⟨by rw [hst]; rfl,rfl⟩
 ·obtain rfl : j = out.length := by omega
  simp only [not_lt_len',Nat.lt_irrefl,decide_false,zz,Nat.reduceEqDiff,List.take_length]
  exact ⟨rfl,trivial⟩
theorem c31 {s : Str} (hl : s.length ≤ 140737488355328) (σ : St) : Ret W 31 [.str s] σ (.int .u32 (sumS s)) := by
 refine ret_of fun R hR => ?_
 rw [fn31_eq]
 delta fn31 bF kF nI
 simp only [zz,Nat.reduceEqDiff]
 refine CutW_by (fun x τ' => x 3 = .int .u32 (sumS s) ∧ τ' = σ) (fun x τ' hx => ?_) ?_
 ·obtain ⟨q3,rfl⟩ := hx
  rw [q3]
  exact weakW_keep hR
 refine Lfp_up s.length (fun j x τ' => x = lookP [(0,.str s),(3,.int .u32 ((s.take j).foldl sumF 2166136261)),(4,.int .i64 j)] ∧ τ' = σ) ?_ ⟨rfl,rfl⟩
 rintro Φ j x τ' hj ⟨rfl,rfl⟩ next
 by_cases hlt : j < s.length
 ·have hg : s[j]? = some s[j] := by simp [hlt]
  generalize s[j] = c at hg
  have hst := sum_take hg
  obtain ⟨w,e1,e2⟩ := step_u32 ((s.take j).foldl sumF 2166136261) c
  have hsa : vStrAt (.str s) (.int .i64 j) = some (.int .u8 (c.toNat : Int)) := by simp [vStrAt,hg]
  simp only [lt_len' hlt,hlt,decide_true,hsa,conv_u32,e1,e2,zz,Nat.reduceEqDiff]
  rw [vBin_add _ (by omega) (by omega)]
  simp only [zz,Nat.reduceEqDiff]
  exact next _ _ hlt ⟨by rw [hst]; rfl,rfl⟩
 ·obtain rfl : j = s.length := by omega
  simp only [not_lt_len',Nat.lt_irrefl,decide_false,zz,Nat.reduceEqDiff,List.take_length]
  exact ⟨rfl,trivial⟩
theorem flat_le {α : Type} {f : α → Str} {B : Nat} : ∀ (l : List α),(∀ a ∈ l,(f a).length ≤ B) → (l.flatMap f).length ≤ l.length * B
 | [],_ => by simp
 | a :: l,h => by
  have h1 := h a (by simp)
  have h2 := flat_le l fun b hb => h b (by simp [hb])
  rw [List.flatMap_cons,List.length_append,List.length_cons,Nat.add_mul]
  omega
theorem listB_le {α : Type} {f : α → Str} {B n : Nat} {l : List α} (hn : l.length ≤ n) (h : ∀ a ∈ l,(f a).length ≤ B) : (listB f l).length ≤ 10 + n * B := by
 have h1 := flat_le l h
 have h2 := (numB_len l.length).2
 have h3 : l.length * B ≤ n * B := Nat.mul_le_mul_right _ hn
 unfold listB
 rw [List.length_append]
 omega
theorem codeW_len {c : CodeS} (hc : Okay c) : (codeW (codeL c)).length ≤ 130000000000000 := by
 have nb := fun n => (numB_len n).2
 have ints : ∀ l : List Int,l.length ≤ 1048576 → (intsW l).length ≤ 10485770 := fun l hl => listB_le (B := 10) hl fun n _ => nb n
 have lists : ∀ p : Sl (Sl Int),p.2.length ≤ 1048576 → (∀ m ∈ p.2,m.2.length ≤ 1048576) → (listB intsW (p.2.map (fun m : Sl Int => m.2))).length ≤ 10995126763530 := fun p h1 h2 => by
  rw [← listB_map intsW (fun m : Sl Int => m.2) p.2]
  exact listB_le (n := 1048576) (B := 10485770) h1 fun m hm => ints _ (h2 m hm)
 have bb : ∀ b : Bool,(boolB b).length ≤ 10 := fun b => by unfold boolB; split <;> exact nb _
 have sg : ∀ p : Int × Int,(sigW p).length ≤ 20 := fun p => by
  have := nb p.1; have := nb p.2
  unfold sigW
  rw [List.length_append]
  omega
 have e1 : (listB mapW (c.maps.2.map (fun m : Sl SlotS => m.2))).length ≤ 54975591874570 := by
  rw [← listB_map mapW (fun m : Sl SlotS => m.2) c.maps.2]
  refine listB_le (n := 1048576) (B := 52428810) hc.maps fun m hm => ?_
  refine listB_le (n := 1048576) (B := 50) (hc.slots m hm) fun s _ => ?_
  have := nb s.kind; have := nb s.size; have := nb s.map; have := nb s.dims; have := bb s.flex
  simp only [slotW,List.length_append]
  omega
 have e2 := lists c.unions hc.unions hc.union
 have e3 : (listB sigW c.sigs.2).length ≤ 20971530 := listB_le hc.sigs fun p _ => sg p
 have e4 : (listB routW (c.routs.2.map routL)).length ≤ 32985443205130 := by
  rw [← listB_map routW routL c.routs.2]
  refine listB_le (n := 1048576) (B := 31457370) hc.routs fun r hr => ?_
  have hrg : (listB rangeW r.ranges.2).length ≤ 31457290 := listB_le (n := 1048576) (B := 30) (hc.ranges r hr) fun g _ => by
   have := nb g.outer; have := nb g.fr; have := nb g.to
   simp only [rangeW,List.length_append]
   omega
  have := nb r.sig; have := nb r.frame; have := nb r.fr; have := nb r.to; have := nb r.outer; have := nb r.within; have := nb r.level; have := nb r.needs
  simp only [routW,routL,List.length_append]
  omega
 have e5 : (listB instW c.insts.2).length ≤ 125829130 := listB_le (n := 1048576) (B := 120) hc.insts fun i _ => by
  have ow : ∀ o : OperS,(operW o).length ≤ 30 := fun o => by
   have := nb o.k; have := nb o.a; have := nb o.b
   simp only [operW,List.length_append]
   omega
  have := nb i.op; have := ow i.s; have := ow i.t; have := ow i.d; have := nb i.n; have := nb i.k
  simp only [instW,List.length_append]
  omega
 have e6 := lists c.jumps hc.jumps hc.jump
 have e7 := lists c.parts hc.parts hc.part
 have tx : ∀ s : Str,s.length ≤ 1048576 → (textB s).length ≤ 1048586 := fun s hs => by
  have := nb s.length
  simp only [textB,List.length_append]
  omega
 have e8 : (listB textB c.texts.2).length ≤ 1099522113546 := listB_le (n := 1048576) (B := 1048586) hc.texts fun s hs => tx s (hc.text s hs)
 have e9 : (listB transW c.trans.2).length ≤ 1099543085066 := listB_le (n := 1048576) (B := 1048606) hc.trans fun t ht => by
  have := tx t.word (hc.word t ht); have := bb t.file; have := nb t.map
  simp only [transW,List.length_append]
  omega
 have e10 : (listB sigW c.lines.2).length ≤ 20971530 := listB_le hc.lines fun p _ => sg p
 simp only [codeW,codeL,List.length_append]
 omega
def markB : Str := [69,78,86,49]
def bodyB (c : CodeS) : Str := markB ++ codeW (codeL c)
def wholeB (c : CodeS) : Str := bodyB c ++ fourB (sumS (bodyB c))
def writeS (c : CodeS) : Str × Int := if (checkS c 470 49).2 ≠ 0 then ([],(checkS c 470 49).2) else if ((wholeB c).length : Int) > 1048576 then ([],3) else (wholeB c,0)
def pvWr (p : Str × Int) : PV := .tuple [.str p.1,.int .i64 p.2]
theorem sig_put2 (p : Int × Int) : vPut 2 (.agg [.int .i64 0,.int .i64 0]) 0 (pvSig p) = some (pvSig p) := rfl
def allH (σ : St) : List (Nat × Blk) := σ.zipIdx.map fun x => (x.2,x.1)
theorem mem_allH {σ : St} {h : Nat × Blk} (hh : h ∈ allH σ) : σ[h.1]? = some h.2 := by
 obtain ⟨x,hx,rfl⟩ := List.mem_map.1 hh
 exact List.mem_zipIdx_iff_getElem?.1 hx
theorem allH_mem {σ : St} {i : Nat} {k : Blk} (h : σ[i]? = some k) : (i,k) ∈ allH σ :=
 List.mem_map.2 ⟨(k,i),List.mem_zipIdx_iff_getElem?.2 h,rfl⟩
theorem Wr.pre {p : Nat} {σ τ : St} {out : Str} (h : Wr p (allH σ) τ out) : σ <+: τ := by
 obtain ⟨v,hp,hH,hv⟩ := h
 rw [List.prefix_iff_getElem?]
 intro i hi
 exact (hH (i,σ[i]) (allH_mem (by simp [hi]))).1
theorem frz_wr {σ : St} {n : Nat} (s : Str) (e : Int) : Frz σ n (.tuple [.str s,.int .i64 e]) (.tuple [.str s,.int .i64 e]) := .tuple _ _ rfl fun j x y hx hy => by
 match j with
 | 0 => simp at hx hy; subst hx hy; exact .base _ (.str _)
 | 1 => simp at hx hy; subst hx hy; exact .base _ (.int _ _)
 | j + 2 => simp at hx
theorem c29 {c : CodeS} (hc : Okay c) (hi : CodeI (codeL c)) (σ : St) : Ret W 29 [pvCode c] σ (pvWr (writeS c)) := by
 refine ret_of fun R hR => ?_
 rw [fn29_eq]
 delta fn29 bF pF lF sF nI nL
 have hn := nums_of hi
 simp only [code_parts,zz,Nat.reduceEqDiff]
 refine (c24 hc hn _).callB ?_
 simp only [sig_put2,put_sig,flt_ne,zz,Nat.reduceEqDiff]
 refine condB (fun hb => ?_) (fun hb => ?_)
 ·have hne : (checkS c 470 49).2 ≠ 0 := by simpa using hb
  unfold writeS at hR
  rw [if_pos hne] at hR
  exact weakW_keep hR
 have hz : ¬ (checkS c 470 49).2 ≠ 0 := by simpa using hb
 unfold writeS at hR
 rw [if_neg hz] at hR
 have hlen := codeW_len hc
 have hbl : (bodyB c).length = 4 + (codeW (codeL c)).length := by
  unfold bodyB
  rw [List.length_append]
  rfl
 have hmk : ∀ K : List PV → Prop,markW (.list .full (u8s markB)) K = K (u8s markB) := fun K => rfl
 have hb4 : vBuildSl 1 (List.replicate 4 (.int .u8 0)) [(0,(.int .u8 69)),(1,(.int .u8 78)),(2,(.int .u8 86)),(3,(.int .u8 49))] = some (u8s markB) := rfl
 have hbd : vBuild [(.list .nil [])] [(0,1,(.list .full (u8s markB)))] = some [.list .full (u8s markB)] := rfl
 have hbox : opC.vBoxAny (.agg [.list .full (u8s markB)]) = some (1,.agg [.list .full (u8s markB)]) := rfl
 have h01 : (0 : Nat) < 1 := by omega
 simp only [hb4,hmk,hbd,hbox,h01,if_true,newW_eq,zz,Nat.reduceEqDiff]
 have hw0 : Wr σ.length (allH σ) (σ ++ [.arr 0 1 [.agg [.list .full (u8s markB)]]]) markB := by
  refine ⟨.list .full (u8s markB),by simp,fun h hh => ?_,.inl ⟨rfl,by decide⟩⟩
  have := mem_allH hh
  have hlt := (List.getElem?_eq_some_iff.1 this).1
  exact ⟨by rw [List.getElem?_append_left hlt]; exact this,by omega⟩
 refine (c77 hc hi).callB nil_sub hw0 (by have : markB.length = 4 := rfl; omega) fun τ hw => ?_
 have hbb : markB ++ codeW (codeL c) = bodyB c := rfl
 rw [hbb] at hw
 obtain ⟨v,e1,hv⟩ := hw.val
 have hf4 : (fourB (sumS (bodyB c))).length = 4 := rfl
 obtain ⟨v0,e0,v',τ1,e2,τ2,e3,hw2⟩ := hw.push (y := .list .full (u8s (fourB (sumS (bodyB c))))) (l := fourB (sumS (bodyB c))) rfl (by omega)
 obtain rfl : v0 = v := by
  rw [e1] at e0
  exact (Option.some.inj e0).symm
 have hwh : bodyB c ++ fourB (sumS (bodyB c)) = wholeB c := rfl
 rw [hwh] at hw2
 obtain ⟨v2,e4,hv2⟩ := hw2.val
 have hpre := hw2.pre
 simp only [nilP,fldP,e1,zz,Nat.reduceEqDiff]
 refine (c79 hv (by omega)).callC ?_
 refine (c78 _ _).callC ?_
 simp only [nilP,fldP,e2,e3,e4,hv2.len,hv2.str,zz,Nat.reduceEqDiff]
 refine condB (fun hb => ?_) (fun hb => ?_)
 ·rw [if_pos (of_decide_eq_true hb)] at hR
  exact weakW_clean hpre (frz_wr _ _) hR
 ·rw [if_neg (of_decide_eq_false hb)] at hR
  exact weakW_clean hpre (frz_wr _ _) hR
end Go.Proofs.YtgghfcchanilpaaGreatDoor
