import Derived.Test.YtgghfcchanilpaaGreatDoorPlJ
import Derived.Test.YtgghfcchanilpaaGreatDoorSpRh
import Derived.Test.YtgghfcchanilpaaGreatDoorSpWd
set_option linter.unusedVariables false
set_option linter.unusedSimpArgs false
namespace Go.Abs
def Post {α : Type} (p : Pa α) (P : α → Prop) : Prop := ∀ s a l,p s = .ok (a,l) → s.length ≤ 1048576 → l.length ≤ s.length ∧ P a
theorem post_ret {α : Type} {P : α → Prop} {a : α} (h : P a) : Post (pRet a) P := fun s b l hb hs => by
 cases hb
 exact ⟨Nat.le_refl _,h⟩
theorem post_bind {α β : Type} {p : Pa α} {P : α → Prop} {f : α → Pa β} {Q : β → Prop} (h : Post p P) (k : ∀ a,P a → Post (f a) Q) : Post (pBind p f) Q := fun s b l hb hs => by
 unfold pBind at hb
 split at hb
 ·cases hb
 ·rename_i a m e
  obtain ⟨h1,h2⟩ := h s a m e hs
  obtain ⟨h3,h4⟩ := k a h2 m b l hb (by omega)
  exact ⟨by omega,h4⟩
theorem lebR_post : ∀ (f k u : Nat) (s : Str) (v : Nat) (l : Str),f + k = 10 → u < 128 ^ k → lebR f k u s = .ok (v,l) → l.length ≤ s.length ∧ v < 2 * 128 ^ 9
 | 0,k,u,s,v,l,_,_,h => by cases h
 | f + 1,k,u,[],v,l,_,_,h => by cases h
 | f + 1,k,u,c :: s,v,l,hk,hu,h => by
  unfold lebR at h
  split at h
  ·cases h
  ·rename_i hg
   split at h
   ·rename_i hc
    cases h
    refine ⟨by simp,?_⟩
    rcases Nat.lt_or_ge k 9 with h9 | h9
    ·have h3 : c.toNat * 128 ^ k ≤ 127 * 128 ^ k := Nat.mul_le_mul_right _ (by omega)
     have h4 : 128 ^ k ≤ 128 ^ 8 := Nat.pow_le_pow_right (by omega) (by omega)
     have h5 : (128 : Nat) ^ 9 = 128 * 128 ^ 8 := rfl
     omega
    ·obtain rfl : k = 9 := by omega
     have h3 : c.toNat * 128 ^ 9 ≤ 1 * 128 ^ 9 := Nat.mul_le_mul_right _ (by omega)
     omega
   ·rename_i hc
    have hs : u + (c.toNat - 128) * 128 ^ k < 128 ^ (k + 1) := by
     rw [Nat.pow_succ]
     have := c.toNat_lt
     have : (c.toNat - 128) * 128 ^ k ≤ 127 * 128 ^ k := Nat.mul_le_mul_right _ (by omega)
     omega
    obtain ⟨h1,h2⟩ := lebR_post f (k + 1) _ s v l (by omega) hs h
    exact ⟨by simp; omega,h2⟩
set_option maxRecDepth 100000 in
theorem post_num : Post pNum InI := fun s n l h hs => by
 unfold pNum at h
 split at h
 ·cases h
 ·rename_i u m e
  obtain ⟨h1,h2⟩ := lebR_post 10 0 0 s u m rfl (by simp) e
  cases h
  refine ⟨h1,?_⟩
  have h5 : (128 : Nat) ^ 9 = 9223372036854775808 := by decide
  unfold InI zag
  split <;> constructor <;> omega
theorem post_len : Post pLen (fun n => n ≤ 1048576) := fun s n l h hs => by
 unfold pLen pBind at h
 split at h
 ·cases h
 ·rename_i a m e
  have h1 := (post_num s a m e hs).1
  dsimp only at h
  split at h
  ·cases h
  ·cases h
   exact ⟨h1,by omega⟩
theorem post_text : Post pText (fun s => s.length ≤ 1048576) := fun s n l h hs => by
 unfold pText pBind at h
 split at h
 ·cases h
 ·rename_i a m e
  have h1 := (post_len s a m e hs)
  cases h
  refine ⟨by simp; omega,by simp; omega⟩
theorem post_bool : Post pBool (fun _ => True) := fun s n l h hs => by
 unfold pBool pBind at h
 split at h
 ·cases h
 ·rename_i a m e
  have h1 := (post_num s a m e hs).1
  dsimp only at h
  split at h
  ·cases h
  ·cases h
   exact ⟨h1,trivial⟩
theorem post_rep {α : Type} {p : Pa α} {P : α → Prop} (h : Post p P) : ∀ n,Post (pRep p n) (fun l => l.length = n ∧ ∀ a ∈ l,P a)
 | 0 => post_ret (by simp)
 | n + 1 => post_bind h fun a ha => post_bind (post_rep h n) fun l hl => post_ret ⟨by simp [hl.1],fun b hb => by
   rcases List.mem_cons.1 hb with rfl | hb
   ·exact ha
   ·exact hl.2 b hb⟩
def ShortL {α : Type} (P : α → Prop) (l : List α) : Prop := l.length ≤ 1048576 ∧ ∀ a ∈ l,P a
theorem post_list {α : Type} {p : Pa α} {P : α → Prop} (h : Post p P) : Post (pList p) (ShortL P) := fun s l m e hs =>
 post_bind post_len (fun n hn => fun s l m e hs => by
  obtain ⟨h1,h2,h3⟩ := post_rep h n s l m e hs
  exact ⟨h1,by show l.length ≤ _; omega,h3⟩) s l m e hs
theorem post_slot : Post pSlot SlotI := post_bind post_num fun _ h1 => post_bind post_num fun _ h2 => post_bind post_num fun _ h3 => post_bind post_num fun _ h4 => post_bind post_bool fun _ _ => post_ret ⟨h1,h2,h3,h4⟩
theorem post_sig : Post pSig SigI := post_bind post_num fun _ h1 => post_bind post_num fun _ h2 => post_ret ⟨h1,h2⟩
theorem post_range : Post pRange1 RangeI := post_bind post_num fun _ h1 => post_bind post_num fun _ h2 => post_bind post_num fun _ h3 => post_ret ⟨h1,h2,h3⟩
theorem post_oper : Post pOper1 OperI := post_bind post_num fun _ h1 => post_bind post_num fun _ h2 => post_bind post_num fun _ h3 => post_ret ⟨h1,h2,h3⟩
theorem post_inst : Post pInst1 InstI := post_bind post_num fun _ h1 => post_bind post_oper fun _ h2 => post_bind post_oper fun _ h3 => post_bind post_oper fun _ h4 => post_bind post_num fun _ h5 => post_bind post_num fun _ h6 => post_ret ⟨h1,h2,h3,h4,h5,h6⟩
theorem post_trans : Post pTrans1 (fun t => t.word.length ≤ 1048576 ∧ InI t.map) := post_bind post_text fun _ h1 => post_bind post_bool fun _ _ => post_bind post_num fun _ h3 => post_ret ⟨h1,h3⟩
def RoutP (r : RoutL) : Prop := RoutI r ∧ r.ranges.length ≤ 1048576
theorem post_rout : Post pRout1 RoutP := post_bind post_num fun _ h1 => post_bind post_num fun _ h2 => post_bind post_num fun _ h3 => post_bind post_num fun _ h4 => post_bind post_num fun _ h5 => post_bind post_num fun _ h6 => post_bind post_num fun _ h7 => post_bind post_num fun _ h8 =>
 post_bind (post_list post_range) fun l h9 => post_ret ⟨⟨h1,h2,h3,h4,h5,h6,h7,h8,by unfold LenI; have := h9.1; show l.length ≤ _; omega,h9.2⟩,h9.1⟩
structure CodeP (c : CodeL) : Prop where
 maps : ShortL (ShortL SlotI) c.maps
 unions : ShortL (ShortL InI) c.unions
 sigs : ShortL SigI c.sigs
 routs : ShortL RoutP c.routs
 insts : ShortL InstI c.insts
 jumps : ShortL (ShortL InI) c.jumps
 parts : ShortL (ShortL InI) c.parts
 texts : ShortL (fun s => s.length ≤ 1048576) c.texts
 trans : ShortL (fun t => t.word.length ≤ 1048576 ∧ InI t.map) c.trans
 lines : ShortL SigI c.lines
theorem post_ints : Post pInts1 (ShortL InI) := post_list post_num
theorem post_code : Post pCode1 CodeP := post_bind (post_list (post_list post_slot)) fun _ h1 => post_bind (post_list post_ints) fun _ h2 => post_bind (post_list post_sig) fun _ h3 => post_bind (post_list post_rout) fun _ h4 => post_bind (post_list post_inst) fun _ h5 =>
 post_bind (post_list post_ints) fun _ h6 => post_bind (post_list post_ints) fun _ h7 => post_bind (post_list post_text) fun _ h8 => post_bind (post_list post_trans) fun _ h9 => post_bind (post_list post_sig) fun _ h10 => post_ret ⟨h1,h2,h3,h4,h5,h6,h7,h8,h9,h10⟩
theorem short_list {α : Type} {P Q : α → Prop} (h : ∀ a,P a → Q a) {l : List α} (hl : ShortL P l) : ListI Q l := ⟨by unfold LenI; have := hl.1; omega,fun a ha => h a (hl.2 a ha)⟩
theorem CodeP.codeI {c : CodeL} (h : CodeP c) : CodeI c where
 maps := short_list (fun _ h => short_list (fun _ h => h) h) h.maps
 unions := short_list (fun _ h => short_list (fun _ h => h) h) h.unions
 sigs := short_list (fun _ h => h) h.sigs
 routs := short_list (fun _ h => h.1) h.routs
 insts := short_list (fun _ h => h) h.insts
 jumps := short_list (fun _ h => short_list (fun _ h => h) h) h.jumps
 parts := short_list (fun _ h => short_list (fun _ h => h) h) h.parts
 texts := short_list (fun s h => by unfold LenI; omega) h.texts
 trans := short_list (fun t h => ⟨by unfold LenI; have := h.1; omega,h.2⟩) h.trans
 lines := short_list (fun _ h => h) h.lines
def mkSl {α β : Type} (f : α → β) (l : List α) : Sl β := ((match l with | [] => .nil | _ => .part),l.map f)
def routS (r : RoutL) : RoutS := ⟨r.sig,r.frame,r.fr,r.to,r.outer,r.within,r.level,r.needs,mkSl id r.ranges⟩
def codeS (c : CodeL) : CodeS := ⟨mkSl (mkSl id) c.maps,mkSl (mkSl id) c.unions,mkSl id c.sigs,mkSl routS c.routs,mkSl id c.insts,mkSl (mkSl id) c.jumps,mkSl (mkSl id) c.parts,mkSl id c.texts,mkSl id c.trans,mkSl id c.lines⟩
theorem CodeP.okay {c : CodeL} (h : CodeP c) : Okay (codeS c) where
 maps := by show (c.maps.map _).length ≤ _; rw [List.length_map]; exact h.maps.1
 slots := fun m hm => by
  obtain ⟨l,hl,rfl⟩ := List.mem_map.1 hm
  show (l.map id).length ≤ _; rw [List.length_map]; exact (h.maps.2 l hl).1
 unions := by show (c.unions.map _).length ≤ _; rw [List.length_map]; exact h.unions.1
 union := fun m hm => by
  obtain ⟨l,hl,rfl⟩ := List.mem_map.1 hm
  show (l.map id).length ≤ _; rw [List.length_map]; exact (h.unions.2 l hl).1
 sigs := by show (c.sigs.map _).length ≤ _; rw [List.length_map]; exact h.sigs.1
 routs := by show (c.routs.map _).length ≤ _; rw [List.length_map]; exact h.routs.1
 ranges := fun m hm => by
  obtain ⟨l,hl,rfl⟩ := List.mem_map.1 hm
  show (l.ranges.map id).length ≤ _; rw [List.length_map]; exact (h.routs.2 l hl).2
 insts := by show (c.insts.map _).length ≤ _; rw [List.length_map]; exact h.insts.1
 jumps := by show (c.jumps.map _).length ≤ _; rw [List.length_map]; exact h.jumps.1
 jump := fun m hm => by
  obtain ⟨l,hl,rfl⟩ := List.mem_map.1 hm
  show (l.map id).length ≤ _; rw [List.length_map]; exact (h.jumps.2 l hl).1
 parts := by show (c.parts.map _).length ≤ _; rw [List.length_map]; exact h.parts.1
 part := fun m hm => by
  obtain ⟨l,hl,rfl⟩ := List.mem_map.1 hm
  show (l.map id).length ≤ _; rw [List.length_map]; exact (h.parts.2 l hl).1
 texts := by show (c.texts.map _).length ≤ _; rw [List.length_map]; exact h.texts.1
 text := fun m hm => by
  obtain ⟨l,hl,rfl⟩ := List.mem_map.1 hm
  exact h.texts.2 l hl
 trans := by show (c.trans.map _).length ≤ _; rw [List.length_map]; exact h.trans.1
 word := fun m hm => by
  obtain ⟨l,hl,rfl⟩ := List.mem_map.1 hm
  exact (h.trans.2 l hl).1
 lines := by show (c.lines.map _).length ≤ _; rw [List.length_map]; exact h.lines.1
end Go.Abs
namespace Go.Proofs.YtgghfcchanilpaaGreatDoor
open Go Go.Abs
theorem grow_mk {α β : Type} {enc : β → PV} {enc' : α → PV} {f : α → β} (h : ∀ a,enc' a = enc (f a)) (l : List α) : growV (l.map enc') = pvSl enc (mkSl f l) := by
 cases l with
 | nil => rfl
 | cons a l =>
  show PV.list .part _ = PV.list .part ((List.map f (a :: l)).map enc)
  rw [List.map_map]
  congr 1
  exact List.map_congr_left fun b _ => h b
theorem grow_id {α : Type} (enc : α → PV) (l : List α) : growV (l.map enc) = pvSl enc (mkSl id l) := grow_mk (fun _ => rfl) l
theorem pv_code (c : CodeL) : pvCodeL c = pvCode (codeS c) := by
 have hm : ∀ l,pvMapL l = pvMap (mkSl id l) := fun l => by
  unfold pvMapL pvMap
  rw [grow_id pvSlot]
 have hi : ∀ l,pvIntsL l = pvInts (mkSl id l) := fun l => grow_id pvI l
 have hr : ∀ r,pvRoutL r = pvRout (routS r) := fun r => by
  unfold pvRoutL pvRout routS
  rw [grow_id pvRange]
 unfold pvCodeL pvCode codeCells codeS
 rw [grow_mk hm,grow_mk hi,grow_mk hi,grow_mk hi,grow_mk hr,grow_id pvSig,grow_id pvSig,grow_id pvInst,grow_id PV.str,grow_id pvTrans]
theorem code_back (c : CodeL) : codeL (codeS c) = c := by
 cases c
 simp [codeL,codeS,mkSl,routL,routS,Function.comp_def]
theorem nums_P {c : CodeL} (h : CodeP c) : Nums (codeS c) := nums_of (by rw [code_back]; exact h.codeI)
def readR (s : Str) : Except Int CodeL :=
 if s.length > 1048576 then .error 3
 else if s.length < 8 then .error 16
 else if s.take 4 ≠ markB then .error 13
 else if fourB (sumS (s.take (s.length - 4))) ≠ s.drop (s.length - 4) then .error 15
 else match pCode1 ((s.take (s.length - 4)).drop 4) with
  | .error e => .error e
  | .ok (c,rest) => if rest.length > 0 then .error 2 else if (checkS (codeS c) 470 49).2 ≠ 0 then .error (checkS (codeS c) 470 49).2 else .ok c
abbrev nil10 : List PV := [(.list .nil []),(.list .nil []),(.list .nil []),(.list .nil []),(.list .nil []),(.list .nil []),(.list .nil []),(.list .nil []),(.list .nil []),(.list .nil [])]
def resR (r : Except Int CodeL) : PV := match r with
 | .error e => .tuple [.agg nil10,.int .i64 e]
 | .ok c => .tuple [pvCodeL c,.int .i64 0]
structure Hold (σ : St) (cs : List PV) (e : Int) (τ : St) : Prop where
 pre : σ <+: τ
 code : τ[σ.length]? = some (.arr 0 10 [.agg cs])
 err : τ[σ.length + 1]? = some (.arr 0 1 [.int .i64 e])
 ten : cs.length = 10
theorem pre_get {σ τ : St} (h : ∀ (i : Nat) k,σ[i]? = some k → τ[i]? = some k) : σ <+: τ := by
 rw [List.prefix_iff_eq_take]
 apply List.ext_getElem?
 intro i
 rw [List.getElem?_take]
 split
 ·rename_i hi
  rw [List.getElem?_eq_getElem hi]
  exact (h i _ (List.getElem?_eq_getElem hi)).symm
 ·rename_i hi
  exact List.getElem?_eq_none (by omega)
theorem Hold.same {σ τ υ : St} {cs : List PV} {e : Int} (h : Hold σ cs e τ) {p : Nat} (hp : σ.length + 2 ≤ p) (hs : Same p τ υ) : Hold σ cs e υ where
 pre := pre_get fun i k hk => by
  have := (List.getElem?_eq_some_iff.1 hk).1
  exact hs i k (by omega) (get_pre h.pre hk)
 code := hs _ _ (by omega) h.code
 err := hs _ _ (by omega) h.err
 ten := h.ten
theorem Hold.app {σ τ : St} {cs : List PV} {e : Int} (h : Hold σ cs e τ) (t : St) : Hold σ cs e (τ ++ t) :=
 ⟨h.pre.trans ⟨_,rfl⟩,get_pre ⟨_,rfl⟩ h.code,get_pre ⟨_,rfl⟩ h.err,h.ten⟩
theorem Hold.load0 {σ τ : St} {cs : List PV} {e : Int} (h : Hold σ cs e τ) : vLoad true 10 (.ptr σ.length 0 0 0) τ = some (.agg cs) := by
 simp [vLoad,h.code,vPart,h.ten]
theorem Hold.load1 {σ τ : St} {cs : List PV} {e : Int} (h : Hold σ cs e τ) : vLoad false 1 (.ptr (σ.length + 1) 0 0 0) τ = some (.int .i64 e) := by
 simp [vLoad,h.err,vPart,PV.cells?]
theorem Hold.store0 {σ τ : St} {cs : List PV} {e : Int} (h : Hold σ cs e τ) {ds : List PV} (hd : ds.length = 10) : ∃ υ,vStore 10 (.ptr σ.length 0 0 0) (.agg ds) τ = some υ ∧ Hold σ ds e υ ∧ ∀ i,i ≠ σ.length → υ[i]? = τ[i]? := by
 have hl := (List.getElem?_eq_some_iff.1 h.code).1
 refine ⟨τ.set σ.length (.arr 0 10 [.agg ds]),by simp [vStore,h.code,vPut_agg h.ten hd],⟨pre_set h.pre (Nat.le_refl _) _,by simp [hl],?_,hd⟩,fun i hi => List.getElem?_set_ne (Ne.symm hi)⟩
 rw [List.getElem?_set_ne (by omega)]
 exact h.err
theorem Hold.store1 {σ τ : St} {cs : List PV} {e : Int} (h : Hold σ cs e τ) (d : Int) : ∃ υ,vStore 1 (.ptr (σ.length + 1) 0 0 0) (.int .i64 d) τ = some υ ∧ Hold σ cs d υ ∧ ∀ i,i ≠ σ.length + 1 → υ[i]? = τ[i]? := by
 have hl := (List.getElem?_eq_some_iff.1 h.err).1
 refine ⟨τ.set (σ.length + 1) (.arr 0 1 [.int .i64 d]),by simp [vStore,h.err,vPut,PV.cells?],⟨pre_set h.pre (by omega) _,?_,by simp [hl],h.ten⟩,fun i hi => List.getElem?_set_ne (Ne.symm hi)⟩
 rw [List.getElem?_set_ne (by omega)]
 exact h.code
theorem str_neq (a b : Str) : vBin none .neq (.str a) (.str b) = some (.bool (!(a == b))) := rfl
theorem flatNil : Flat (.agg nil10) := .agg _ fun x h => by
 simp only [nil10,List.mem_cons,List.not_mem_nil,or_false] at h
 rcases h with rfl | rfl | rfl | rfl | rfl | rfl | rfl | rfl | rfl | rfl <;> exact .list _ _ (by simp)
theorem Hold.back {σ τ : St} {cs : List PV} {e : Int} (h : Hold σ cs e τ) (hf : Flat (.agg cs)) {K : PV → St → Prop} (k : K (.tuple [.agg cs,.int .i64 e]) σ) : weakW σ (.tuple [.agg cs,.int .i64 e]) τ K :=
 weakW_kill (fun c => σ.length ≤ c) ⟨fun b hb => hb,h.pre.length_le,fun b hb _ => hb,fun b k hk => .inr ⟨by have := (List.getElem?_eq_some_iff.1 hk).1; omega,k,get_pre h.pre hk,.inr ⟨rfl,hk⟩⟩⟩ (.base _ (.tuple _ fun i x hx => by
  match i,hx with
  | 0,hx => cases hx; exact hf.free _
  | 1,hx => cases hx; exact .int _ _)) k
end Go.Proofs.YtgghfcchanilpaaGreatDoor
