import Derived.Test.YtgghfcchanilpaaGreatDoorSpWd
import Derived.Test.YtgghfcchanilpaaGreatDoorSpRh
set_option linter.unusedVariables false
set_option linter.unusedSimpArgs false
namespace Go.Abs
def UM {α : Type} (p : Pa α) (P : α → Prop) : Prop := ∀ s a l,p s = .ok (a,l) → s.length ≤ 1048576 → l.length ≤ s.length ∧ P a
theorem Yw {α : Type} {P : α → Prop} {a : α} (h : P a) : UM (Vd a) P := fun s b l hb hs => by
 cases hb
 exact ⟨Nat.le_refl _,h⟩
theorem QA {α β : Type} {p : Pa α} {P : α → Prop} {f : α → Pa β} {Q : β → Prop} (h : UM p P) (k : ∀ a,P a → UM (f a) Q) : UM (QJ p f) Q := fun s b l hb hs => by
 unfold QJ at hb
 split at hb
 ·cases hb
 ·rename_i a m e
  obtain ⟨h1,h2⟩ := h s a m e hs
  obtain ⟨h3,h4⟩ := k a h2 m b l hb (by omega)
  exact ⟨by omega,h4⟩
theorem L0 : ∀ (f k u : Nat) (s : Str) (v : Nat) (l : Str),f + k = 10 → u < 128 ^ k → S2 f k u s = .ok (v,l) → l.length ≤ s.length ∧ v < 2 * 128 ^ 9
 | 0,k,u,s,v,l,_,_,h => by cases h
 | f + 1,k,u,[],v,l,_,_,h => by cases h
 | f + 1,k,u,c :: s,v,l,hk,hu,h => by
  unfold S2 at h
  split at h
  ·cases h
  ·rename_i hg
   split at h
   ·rename_i hc
    cases h
    refine ⟨by simp,?_⟩
    rcases Nat.lt_or_ge k 9 with h9 | h9
    ·have h3 : c.toNat * 128 ^ k ≤ 127 * 128 ^ k := Nat.mul_le_mul_right _ (by omega)
     have h4 : 128 ^ k ≤ 128 ^ 8 := Nat.pow_le_pow_right (by omega) (by omega)
     have h5 : (128 : Nat) ^ 9 = 128 * 128 ^ 8 := rfl
     omega
    ·obtain rfl : k = 9 := by omega
     have h3 : c.toNat * 128 ^ 9 ≤ 1 * 128 ^ 9 := Nat.mul_le_mul_right _ (by omega)
     omega
   ·rename_i hc
    have hs : u + (c.toNat - 128) * 128 ^ k < 128 ^ (k + 1) := by
     rw [Nat.pow_succ]
     have := c.toNat_lt
     have : (c.toNat - 128) * 128 ^ k ≤ 127 * 128 ^ k := Nat.mul_le_mul_right _ (by omega)
     omega
    obtain ⟨h1,h2⟩ := L0 f (k + 1) _ s v l (by omega) hs h
    exact ⟨by simp; omega,h2⟩
set_option maxRecDepth 100000 in
theorem X9 : UM Xq InI := fun s n l h hs => by
 unfold Xq at h
 split at h
 ·cases h
 ·rename_i u m e
  obtain ⟨h1,h2⟩ := L0 10 0 0 s u m rfl (by simp) e
  cases h
  refine ⟨h1,?_⟩
  have h5 : (128 : Nat) ^ 9 = 9223372036854775808 := by decide
  unfold InI zag
  split <;> constructor <;> omega
theorem KC : UM Oc (fun n => n ≤ 1048576) := fun s n l h hs => by
 unfold Oc QJ at h
 split at h
 ·cases h
 ·rename_i a m e
  have h1 := (X9 s a m e hs).1
  dsimp only at h
  split at h
  ·cases h
  ·cases h
   exact ⟨h1,by omega⟩
theorem Lc : UM S0 (fun s => s.length ≤ 1048576) := fun s n l h hs => by
 unfold S0 QJ at h
 split at h
 ·cases h
 ·rename_i a m e
  have h1 := (KC s a m e hs)
  cases h
  refine ⟨by simp; omega,by simp; omega⟩
theorem MW : UM SO (fun _ => True) := fun s n l h hs => by
 unfold SO QJ at h
 split at h
 ·cases h
 ·rename_i a m e
  have h1 := (X9 s a m e hs).1
  dsimp only at h
  split at h
  ·cases h
  ·cases h
   exact ⟨h1,trivial⟩
theorem JU {α : Type} {p : Pa α} {P : α → Prop} (h : UM p P) : ∀ n,UM (XJ p n) (fun l => l.length = n ∧ ∀ a ∈ l,P a)
 | 0 => Yw (by simp)
 | n + 1 => QA h fun a ha => QA (JU h n) fun l hl => Yw ⟨by simp [hl.1],fun b hb => by
   rcases List.mem_cons.1 hb with rfl | hb
   ·exact ha
   ·exact hl.2 b hb⟩
def Yf {α : Type} (P : α → Prop) (l : List α) : Prop := l.length ≤ 1048576 ∧ ∀ a ∈ l,P a
theorem Z1 {α : Type} {p : Pa α} {P : α → Prop} (h : UM p P) : UM (Xf p) (Yf P) := fun s l m e hs =>
 QA KC (fun n hn => fun s l m e hs => by
  obtain ⟨h1,h2,h3⟩ := JU h n s l m e hs
  exact ⟨h1,by show l.length ≤ _; omega,h3⟩) s l m e hs
theorem HQ : UM N4 EZ := QA X9 fun _ h1 => QA X9 fun _ h2 => QA X9 fun _ h3 => QA X9 fun _ h4 => QA MW fun _ _ => Yw ⟨h1,h2,h3,h4⟩
theorem Jd : UM PO FM := QA X9 fun _ h1 => QA X9 fun _ h2 => Yw ⟨h1,h2⟩
theorem JY : UM Vp FU := QA X9 fun _ h1 => QA X9 fun _ h2 => QA X9 fun _ h3 => Yw ⟨h1,h2,h3⟩
theorem Oa : UM OB J6 := QA X9 fun _ h1 => QA X9 fun _ h2 => QA X9 fun _ h3 => Yw ⟨h1,h2,h3⟩
theorem Hs : UM Uf H6 := QA X9 fun _ h1 => QA Oa fun _ h2 => QA Oa fun _ h3 => QA Oa fun _ h4 => QA X9 fun _ h5 => QA X9 fun _ h6 => Yw ⟨h1,h2,h3,h4,h5,h6⟩
theorem IA : UM Ux (fun t => t.word.length ≤ 1048576 ∧ InI t.map) := QA Lc fun _ h1 => QA MW fun _ _ => QA X9 fun _ h3 => Yw ⟨h1,h3⟩
def BG (r : YA) : Prop := B2 r ∧ r.ranges.length ≤ 1048576
theorem Ga : UM TH BG := QA X9 fun _ h1 => QA X9 fun _ h2 => QA X9 fun _ h3 => QA X9 fun _ h4 => QA X9 fun _ h5 => QA X9 fun _ h6 => QA X9 fun _ h7 => QA X9 fun _ h8 =>
 QA (Z1 JY) fun l h9 => Yw ⟨⟨h1,h2,h3,h4,h5,h6,h7,h8,by unfold Ky; have := h9.1; show l.length ≤ _; omega,h9.2⟩,h9.1⟩
structure Lm (c : ZD) : Prop where
 maps : Yf (Yf EZ) c.maps
 unions : Yf (Yf InI) c.unions
 sigs : Yf FM c.sigs
 routs : Yf BG c.routs
 insts : Yf H6 c.insts
 jumps : Yf (Yf InI) c.jumps
 parts : Yf (Yf InI) c.parts
 texts : Yf (fun s => s.length ≤ 1048576) c.texts
 trans : Yf (fun t => t.word.length ≤ 1048576 ∧ InI t.map) c.trans
 lines : Yf FM c.lines
theorem Om : UM UI (Yf InI) := Z1 X9
theorem OG : UM TB Lm := QA (Z1 (Z1 HQ)) fun _ h1 => QA (Z1 Om) fun _ h2 => QA (Z1 Jd) fun _ h3 => QA (Z1 Ga) fun _ h4 => QA (Z1 Hs) fun _ h5 =>
 QA (Z1 Om) fun _ h6 => QA (Z1 Om) fun _ h7 => QA (Z1 Lc) fun _ h8 => QA (Z1 IA) fun _ h9 => QA (Z1 Jd) fun _ h10 => Yw ⟨h1,h2,h3,h4,h5,h6,h7,h8,h9,h10⟩
theorem short_list {α : Type} {P Q : α → Prop} (h : ∀ a,P a → Q a) {l : List α} (hl : Yf P l) : Uh Q l := ⟨by unfold Ky; have := hl.1; omega,fun a ha => h a (hl.2 a ha)⟩
theorem Lm.AD {c : ZD} (h : Lm c) : BE c where
 maps := short_list (fun _ h => short_list (fun _ h => h) h) h.maps
 unions := short_list (fun _ h => short_list (fun _ h => h) h) h.unions
 sigs := short_list (fun _ h => h) h.sigs
 routs := short_list (fun _ h => h.1) h.routs
 insts := short_list (fun _ h => h) h.insts
 jumps := short_list (fun _ h => short_list (fun _ h => h) h) h.jumps
 parts := short_list (fun _ h => short_list (fun _ h => h) h) h.parts
 texts := short_list (fun s h => by unfold Ky; omega) h.texts
 trans := short_list (fun t h => ⟨by unfold Ky; have := h.1; omega,h.2⟩) h.trans
 lines := short_list (fun _ h => h) h.lines
def Y1 {α β : Type} (f : α → β) (l : List α) : Sl β := ((match l with | [] => .nil | _ => .part),l.map f)
def IZ (r : YA) : Vv := ⟨r.sig,r.frame,r.fr,r.to,r.outer,r.within,r.level,r.needs,Y1 id r.ranges⟩
def XF (c : ZD) : Qp := ⟨Y1 (Y1 id) c.maps,Y1 (Y1 id) c.unions,Y1 id c.sigs,Y1 IZ c.routs,Y1 id c.insts,Y1 (Y1 id) c.jumps,Y1 (Y1 id) c.parts,Y1 id c.texts,Y1 id c.trans,Y1 id c.lines⟩
theorem Lm.A5 {c : ZD} (h : Lm c) : VX (XF c) where
 maps := by show (c.maps.map _).length ≤ _; rw [List.length_map]; exact h.maps.1
 slots := fun m hm => by
  obtain ⟨l,hl,rfl⟩ := List.mem_map.1 hm
  show (l.map id).length ≤ _; rw [List.length_map]; exact (h.maps.2 l hl).1
 unions := by show (c.unions.map _).length ≤ _; rw [List.length_map]; exact h.unions.1
 union := fun m hm => by
  obtain ⟨l,hl,rfl⟩ := List.mem_map.1 hm
  show (l.map id).length ≤ _; rw [List.length_map]; exact (h.unions.2 l hl).1
 sigs := by show (c.sigs.map _).length ≤ _; rw [List.length_map]; exact h.sigs.1
 routs := by show (c.routs.map _).length ≤ _; rw [List.length_map]; exact h.routs.1
 ranges := fun m hm => by
  obtain ⟨l,hl,rfl⟩ := List.mem_map.1 hm
  show (l.ranges.map id).length ≤ _; rw [List.length_map]; exact (h.routs.2 l hl).2
 insts := by show (c.insts.map _).length ≤ _; rw [List.length_map]; exact h.insts.1
 jumps := by show (c.jumps.map _).length ≤ _; rw [List.length_map]; exact h.jumps.1
 jump := fun m hm => by
  obtain ⟨l,hl,rfl⟩ := List.mem_map.1 hm
  show (l.map id).length ≤ _; rw [List.length_map]; exact (h.jumps.2 l hl).1
 parts := by show (c.parts.map _).length ≤ _; rw [List.length_map]; exact h.parts.1
 part := fun m hm => by
  obtain ⟨l,hl,rfl⟩ := List.mem_map.1 hm
  show (l.map id).length ≤ _; rw [List.length_map]; exact (h.parts.2 l hl).1
 texts := by show (c.texts.map _).length ≤ _; rw [List.length_map]; exact h.texts.1
 text := fun m hm => by
  obtain ⟨l,hl,rfl⟩ := List.mem_map.1 hm
  exact h.texts.2 l hl
 trans := by show (c.trans.map _).length ≤ _; rw [List.length_map]; exact h.trans.1
 word := fun m hm => by
  obtain ⟨l,hl,rfl⟩ := List.mem_map.1 hm
  exact (h.trans.2 l hl).1
 lines := by show (c.lines.map _).length ≤ _; rw [List.length_map]; exact h.lines.1
end Go.Abs
namespace Go.Proofs.YtgghfcchanilpaaGreatDoor
open Go Go.Abs
theorem Sp {α β : Type} {enc : β → PV} {enc' : α → PV} {f : α → β} (h : ∀ a,enc' a = enc (f a)) (l : List α) : Q1 (l.map enc') = QB enc (Y1 f l) := by
 cases l with
 | nil => rfl
 | cons a l =>
  show PV.list .part _ = PV.list .part ((List.map f (a :: l)).map enc)
  rw [List.map_map]
  congr 1
  exact List.map_congr_left fun b _ => h b
theorem Ur {α : Type} (enc : α → PV) (l : List α) : Q1 (l.map enc) = QB enc (Y1 id l) := Sp (fun _ => rfl) l
theorem LY (c : ZD) : Y8 c = Qt (XF c) := by
 have hm : ∀ l,QK l = Xj (Y1 id l) := fun l => by
  unfold QK Xj
  rw [Ur Qm]
 have hi : ∀ l,Qa l = QP (Y1 id l) := fun l => Ur pvI l
 have hr : ∀ r,Qx r = Qo (IZ r) := fun r => by
  unfold Qx Qo IZ
  rw [Ur X7]
 unfold Y8 Qt Td XF
 rw [Sp hm,Sp hi,Sp hi,Sp hi,Sp hr,Ur Qw,Ur Qw,Ur QD,Ur PV.str,Ur QY]
theorem G9 (c : ZD) : KU (XF c) = c := by
 cases c
 simp [KU,XF,Y1,N8,IZ,Function.comp_def]
theorem Fy {c : ZD} (h : Lm c) : Lz (XF c) := Dm (by rw [G9]; exact h.AD)
def YZ (s : Str) : Except Int ZD :=
 if s.length > 1048576 then .error 3
 else if s.length < 8 then .error 16
 else if s.take 4 ≠ PN then .error 13
 else if Yb (Uj (s.take (s.length - 4))) ≠ s.drop (s.length - 4) then .error 15
 else match TB ((s.take (s.length - 4)).drop 4) with
  | .error e => .error e
  | .ok (c,rest) => if rest.length > 0 then .error 2 else if (Zp (XF c) 470 49).2 ≠ 0 then .error (Zp (XF c) 470 49).2 else .ok c
abbrev ZG : List PV := [(.list .nil []),(.list .nil []),(.list .nil []),(.list .nil []),(.list .nil []),(.list .nil []),(.list .nil []),(.list .nil []),(.list .nil []),(.list .nil [])]
def Hk (r : Except Int ZD) : PV := match r with
 | .error e => .tuple [.agg ZG,.int .i64 e]
 | .ok c => .tuple [Y8 c,.int .i64 0]
structure T8 (σ : St) (cs : List PV) (e : Int) (τ : St) : Prop where
 pre : σ <+: τ
 code : τ[σ.length]? = some (.arr 0 10 [.agg cs])
 err : τ[σ.length + 1]? = some (.arr 0 1 [.int .i64 e])
 ten : cs.length = 10
theorem Cc {σ τ : St} (h : ∀ (i : Nat) k,σ[i]? = some k → τ[i]? = some k) : σ <+: τ := by
 rw [List.prefix_iff_eq_take]
 apply List.ext_getElem?
 intro i
 rw [List.getElem?_take]
 split
 ·rename_i hi
  rw [List.getElem?_eq_getElem hi]
  exact (h i _ (List.getElem?_eq_getElem hi)).symm
 ·rename_i hi
  exact List.getElem?_eq_none (by omega)
theorem T8.same {σ τ υ : St} {cs : List PV} {e : Int} (h : T8 σ cs e τ) {p : Nat} (hp : σ.length + 2 ≤ p) (hs : YF p τ υ) : T8 σ cs e υ where
 pre := Cc fun i k hk => by
  have := (List.getElem?_eq_some_iff.1 hk).1
  exact hs i k (by omega) (XI h.pre hk)
 code := hs _ _ (by omega) h.code
 err := hs _ _ (by omega) h.err
 ten := h.ten
theorem T8.app {σ τ : St} {cs : List PV} {e : Int} (h : T8 σ cs e τ) (t : St) : T8 σ cs e (τ ++ t) :=
 ⟨h.pre.trans ⟨_,rfl⟩,XI ⟨_,rfl⟩ h.code,XI ⟨_,rfl⟩ h.err,h.ten⟩
theorem T8.N6 {σ τ : St} {cs : List PV} {e : Int} (h : T8 σ cs e τ) : Q4 true 10 (.ptr σ.length 0 0 0) τ = some (.agg cs) := by
 simp [Q4,h.code,Q6,h.ten]
theorem T8.JN {σ τ : St} {cs : List PV} {e : Int} (h : T8 σ cs e τ) : Q4 false 1 (.ptr (σ.length + 1) 0 0 0) τ = some (.int .i64 e) := by
 simp [Q4,h.err,Q6,PV.cells?]
theorem T8.Ov {σ τ : St} {cs : List PV} {e : Int} (h : T8 σ cs e τ) {ds : List PV} (hd : ds.length = 10) : ∃ υ,QQ 10 (.ptr σ.length 0 0 0) (.agg ds) τ = some υ ∧ T8 σ ds e υ ∧ ∀ i,i ≠ σ.length → υ[i]? = τ[i]? := by
 have hl := (List.getElem?_eq_some_iff.1 h.code).1
 refine ⟨τ.set σ.length (.arr 0 10 [.agg ds]),by simp [QQ,h.code,VG h.ten hd],⟨O9 h.pre (Nat.le_refl _) _,by simp [hl],?_,hd⟩,fun i hi => List.getElem?_set_ne (Ne.symm hi)⟩
 rw [List.getElem?_set_ne (by omega)]
 exact h.err
theorem T8.My {σ τ : St} {cs : List PV} {e : Int} (h : T8 σ cs e τ) (d : Int) : ∃ υ,QQ 1 (.ptr (σ.length + 1) 0 0 0) (.int .i64 d) τ = some υ ∧ T8 σ cs d υ ∧ ∀ i,i ≠ σ.length + 1 → υ[i]? = τ[i]? := by
 have hl := (List.getElem?_eq_some_iff.1 h.err).1
 refine ⟨τ.set (σ.length + 1) (.arr 0 1 [.int .i64 d]),by simp [QQ,h.err,Qv,PV.cells?],⟨O9 h.pre (by omega) _,?_,by simp [hl],h.ten⟩,fun i hi => List.getElem?_set_ne (Ne.symm hi)⟩
 rw [List.getElem?_set_ne (by omega)]
 exact h.code
theorem Nh (a b : Str) : QR none .neq (.str a) (.str b) = some (.bool (!(a == b))) := rfl
theorem Tt : Flat (.agg ZG) := .agg _ fun x h => by
 simp only [ZG,List.mem_cons,List.not_mem_nil,or_false] at h
 rcases h with rfl | rfl | rfl | rfl | rfl | rfl | rfl | rfl | rfl | rfl <;> exact .list _ _ (by simp)
theorem T8.back {σ τ : St} {cs : List PV} {e : Int} (h : T8 σ cs e τ) (hf : Flat (.agg cs)) {K : PV → St → Prop} (k : K (.tuple [.agg cs,.int .i64 e]) σ) : XG σ (.tuple [.agg cs,.int .i64 e]) τ K :=
 Z2 (fun c => σ.length ≤ c) ⟨fun b hb => hb,h.pre.length_le,fun b hb _ => hb,fun b k hk => .inr ⟨by have := (List.getElem?_eq_some_iff.1 hk).1; omega,k,XI h.pre hk,.inr ⟨rfl,hk⟩⟩⟩ (.base _ (.tuple _ fun i x hx => by
  match i,hx with
  | 0,hx => cases hx; exact hf.free _
  | 1,hx => cases hx; exact .int _ _)) k
end Go.Proofs.YtgghfcchanilpaaGreatDoor
