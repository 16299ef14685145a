import Derived.Test.YtgghfcchanilpaaGreatDoorSpRa
set_option linter.unusedVariables false
set_option linter.unusedSimpArgs false
namespace Go.Proofs.YtgghfcchanilpaaGreatDoor
open Go Go.Abs
theorem pow128_le {k : Nat} (h : k ≤ 9) : 128 ^ k ≤ 9223372036854775808 := by
 have : 128 ^ k ≤ 128 ^ 9 := Nat.pow_le_pow_right (by omega) h
 simpa using this
theorem lebR_step {f k u : Nat} {c : UInt8} {l : Str} : lebR (f + 1) k u (c :: l) = if (k = 9 ∧ c.toNat > 1) ∨ (k > 0 ∧ c.toNat = 0) then .error 2 else if c.toNat < 128 then .ok (u + c.toNat * 128 ^ k,l) else lebR f (k + 1) (u + (c.toNat - 128) * 128 ^ k) l := rfl
set_option maxRecDepth 100000 in
theorem c252 {p : Nat} : Gets 252 [.ptr p 0 0 0] p [] pNum (PV.int .i64) := gets_of fun b g body σ off R hrd h0 hl hok herr => by
 rw [fn252_eq]
 delta fn252 bF lF sF gF kF nI
 simp only [zz,Nat.reduceEqDiff]
 
 refine CutW_by (fun x τ => ∃ (u off' : Nat),x 3 = .int .u64 (u : Int) ∧ τ = rdSet p b g body σ off' ∧ off ≤ off' ∧ off' ≤ body.length ∧ u < 18446744073709551616 ∧ lebR 10 0 0 (body.drop off) = .ok (u,body.drop off')) (fun x τ hx => ?_) ?_
 ·obtain ⟨u,off',q3,rfl,h1,h2,hu,he⟩ := hx
  obtain ⟨w,e1,e2⟩ := half64 hu
  simp only [q3,e1,e2,odd64 hu,zz,Nat.reduceEqDiff]
  have hpn : pNum (body.drop off) = .ok (zag u,body.drop off') := by
   unfold pNum
   rw [he]
  refine CutW_by (fun x τ => x 6 = .int .i64 (zag u) ∧ τ = rdSet p b g body σ off') (fun x τ hx => ?_) ?_
  ·obtain ⟨q6,rfl⟩ := hx
   rw [q6]
   exact weakW_keep (hok _ _ hpn h1 h2)
  refine condB (fun hb => ?_) (fun hb => ?_)
  ·have h2 : u % 2 = 1 := by
    have : ((u % 2 : Nat) : Int) ≠ 0 := by simpa using hb
    omega
   have hz : zag u = -((u / 2 : Nat) : Int) - 1 := by
    unfold zag
    rw [if_pos h2]
   simp only [not_i64 (v := u / 2) (by omega),zz,Nat.reduceEqDiff]
   rw [hz]
   exact ⟨rfl,trivial⟩
  ·have h2 : ¬ u % 2 = 1 := by
    have : ((u % 2 : Nat) : Int) = 0 := by simpa using hb
    omega
   have hz : zag u = ((u / 2 : Nat) : Int) := by
    unfold zag
    rw [if_neg h2]
   rw [hz]
   exact ⟨rfl,rfl⟩
 refine Lfp_up 9 (fun k x τ => ∃ (u off1 : Nat),x = lookP [(0,.ptr p 0 0 0),(3,.int .u64 (u : Int)),(4,.int .i64 k)] ∧ τ = rdSet p b g body σ off1 ∧ off ≤ off1 ∧ off1 ≤ body.length ∧ u < 128 ^ k ∧ lebR 10 0 0 (body.drop off) = lebR (10 - k) k u (body.drop off1)) ?_ ⟨0,off,rfl,hrd.self.symm,Nat.le_refl _,hrd.le,by simp,rfl⟩
 rintro Φ k x τ hk9 ⟨u,off1,rfl,rfl,ho,hob,hu,hle⟩ next
 have hrd1 := hrd.next hob
 have hsame : Same p σ (rdSet p b g body σ off1) := Same.set _
 have hf : 10 - k = (9 - k) + 1 := by omega
 rw [hf] at hle
 have herr' : ∀ e,lebR 10 0 0 (body.drop off) = .error e → ∀ τ,Same p σ τ → R (.pan (wrongPV e)) τ := fun e he τ hs => herr e τ (by unfold pNum; rw [he]) hs
 have hpk := pow128_le hk9
 simp only [zz,Nat.reduceEqDiff]
 refine CutW_by (fun x τ => ∃ (u2 : Nat),k < 9 ∧ x 0 = .ptr p 0 0 0 ∧ x 3 = .int .u64 (u2 : Int) ∧ x 4 = .int .i64 k ∧ τ = rdSet p b g body σ (off1 + 1) ∧ off1 + 1 ≤ body.length ∧ u2 < 128 ^ (k + 1) ∧ lebR 10 0 0 (body.drop off) = lebR (10 - (k + 1)) (k + 1) u2 (body.drop (off1 + 1))) (fun x τ hx => ?_) ?_
 ·obtain ⟨u2,hk,q0,q3,q4,rfl,hb2,hu2,he2⟩ := hx
  simp only [q0,q3,q4,zz,Nat.reduceEqDiff]
  rw [vBin_add _ (by omega) (by omega)]
  simp only [zz,Nat.reduceEqDiff]
  exact next _ _ hk ⟨u2,off1 + 1,rfl,rfl,by omega,hb2,hu2,he2⟩
 refine CutW_by (fun x τ => x 0 = .ptr p 0 0 0 ∧ x 3 = .int .u64 (u : Int) ∧ x 4 = .int .i64 k ∧ τ = rdSet p b g body σ off1 ∧ off1 < body.length) (fun x τ hx => ?_) ?_
 case refine_2 =>
  simp only [nilP,fldP,hrd1.load,left_len,zz,Nat.reduceEqDiff]
  refine condB (fun hb => ?_) (fun hb => ?_)
  ·have h00 : body.length - off1 = 0 := by
    have : ((body.length - off1 : Nat) : Int) = 0 := by simpa using hb
    omega
   have hd : body.drop off1 = [] := List.drop_eq_nil_of_le (by omega)
   rw [hd] at hle
   exact c255 16 _ (herr' 16 hle _ hsame)
  ·have h00 : body.length - off1 ≠ 0 := by
    have : ((body.length - off1 : Nat) : Int) ≠ 0 := by simpa using hb
    omega
   exact ⟨trivial,trivial,trivial,trivial,by omega⟩
 obtain ⟨q0,q3,q4,rfl,hlt⟩ := hx
 have hg : body[off1]? = some body[off1] := by simp [hlt]
 generalize body[off1] = c at hg
 rw [body_cons hg,lebR_step] at hle
 obtain ⟨a,e1,e2⟩ := hrd1.head hg
 have hsub : vSubSl 1 (leftV b g off1 (body.length - off1)) (some (.int .i64 1)) none = some (leftV b g (off1 + 1) (body.length - (off1 + 1))) := by
  have := left_sub (b := b) (g := g) (off := off1) (n := body.length - off1) (k := 1) (by omega)
  rw [show body.length - off1 - 1 = body.length - (off1 + 1) by omega] at this
  exact this
 have hst := hrd1.store (off' := off1 + 1)
 rw [rdSet_set] at hst
 have hsame2 : Same p σ (rdSet p b g body σ (off1 + 1)) := Same.set _
 have hc := c.toNat_lt
 simp only [q0,q3,q4,nilP,fldP,hrd1.load,e1,e2,hsub,hst,zz,Nat.reduceEqDiff]
 refine CutW_by (fun x τ => x 0 = .ptr p 0 0 0 ∧ x 3 = .int .u64 (u : Int) ∧ x 4 = .int .i64 k ∧ x 5 = .int .u8 (c.toNat : Int) ∧ τ = rdSet p b g body σ (off1 + 1) ∧ ¬ ((k = 9 ∧ c.toNat > 1) ∨ (k > 0 ∧ c.toNat = 0))) (fun x τ hx => ?_) ?_
 case refine_2 =>
  have bad : ((k = 9 ∧ c.toNat > 1) ∨ (k > 0 ∧ c.toNat = 0)) → R (.pan (wrongPV 2)) (rdSet p b g body σ (off1 + 1)) := fun h => by
   rw [if_pos h] at hle
   exact herr' 2 hle _ hsame2
  refine andG (decide ((c.toNat : Int) > 1)) (fun _ J hJ => hJ _ rfl) ?_
  have hB : ((k : Int) == 9 && decide ((c.toNat : Int) > 1)) = decide (k = 9 ∧ c.toNat > 1) := by
   rw [Bool.eq_iff_iff]
   simp only [Bool.and_eq_true,beq_iff_eq,decide_eq_true_eq]
   omega
  rw [hB]
  by_cases h1 : k = 9 ∧ c.toNat > 1
  ·simp only [decide_eq_true h1,zz,Nat.reduceEqDiff]
   exact c255 2 _ (bad (.inl h1))
  ·simp only [decide_eq_false h1,zz,Nat.reduceEqDiff]
   by_cases hk0 : (k : Int) > 0
   ·simp only [decide_eq_true hk0,zz,Nat.reduceEqDiff]
    by_cases hc0 : (c.toNat : Int) = 0
    ·have hbq : ((c.toNat : Int) == 0) = true := by simpa using hc0
     simp only [hbq,zz,Nat.reduceEqDiff]
     exact c255 2 _ (bad (.inr ⟨by omega,by omega⟩))
    ·have hbq : ((c.toNat : Int) == 0) = false := by simpa using hc0
     simp only [hbq,zz,Nat.reduceEqDiff]
     exact ⟨trivial,trivial,trivial,trivial,trivial,by omega⟩
   ·simp only [decide_eq_false hk0,zz,Nat.reduceEqDiff]
    exact ⟨trivial,trivial,trivial,trivial,trivial,by omega⟩
 obtain ⟨q0,q3,q4,q5,rfl,hgood⟩ := hx
 rw [if_neg hgood] at hle
 have hsum : u + c.toNat % 128 * 128 ^ k < 18446744073709551616 := by
  rcases Nat.lt_or_ge k 9 with h | h
  ·have h8 : 128 ^ k ≤ 128 ^ 8 := Nat.pow_le_pow_right (by omega) (by omega)
   have h88 : (128 : Nat) ^ 8 = 72057594037927936 := by decide
   have : c.toNat % 128 ≤ 127 := by omega
   have h3 : c.toNat % 128 * 128 ^ k ≤ 127 * 128 ^ k := Nat.mul_le_mul_right _ this
   omega
  ·obtain rfl : k = 9 := by omega
   have h99 : (128 : Nat) ^ 9 = 9223372036854775808 := by decide
   have : c.toNat % 128 ≤ 1 := by omega
   have h3 : c.toNat % 128 * 128 ^ 9 ≤ 1 * 128 ^ 9 := Nat.mul_le_mul_right _ this
   omega
 have hmul : vBin none .mul (.int .i64 7) (.int .i64 (k : Int)) = some (.int .i64 (7 * (k : Int))) := by
  show some (PV.int .i64 (IntKind.i64.wrap (7 * (k : Int)))) = _
  congr 2
  simp [IntKind.wrap,IntKind.bits,IntKind.signed]
  omega
 simp only [q0,q3,q4,q5,low7,conv64 (show c.toNat % 128 < 256 by omega),hmul,shl7 hk9 (show c.toNat % 128 * 128 ^ k < 18446744073709551616 by omega),or64 hu hsum,zz,Nat.reduceEqDiff]
 have hTT : True := trivial
 rcases Nat.lt_or_ge c.toNat 128 with h128 | h128
 ·have e7 : decide ((c.toNat : Int) < 128) = true := decide_eq_true (by omega)
  rw [if_pos h128] at hle
  have hm : c.toNat % 128 = c.toNat := Nat.mod_eq_of_lt h128
  rw [hm] at hsum ⊢
  generalize u + c.toNat * 128 ^ k = s at hsum hle
  rw [e7]
  show ∃ u_1 off',_
  exact ⟨s,off1 + 1,rfl,rfl,by omega,by omega,hsum,hle⟩
 ·have e7 : decide ((c.toNat : Int) < 128) = false := decide_eq_false (by omega)
  rw [if_neg (by omega)] at hle
  have hk9 : k < 9 := by
   rcases Nat.lt_or_ge k 9 with h | h
   ·exact h
   ·exfalso
    exact hgood (.inl ⟨by omega,by omega⟩)
  have hm : c.toNat % 128 = c.toNat - 128 := by omega
  rw [hm]
  have hs : u + (c.toNat - 128) * 128 ^ k < 128 ^ (k + 1) := by
   rw [Nat.pow_succ]
   have : (c.toNat - 128) * 128 ^ k ≤ 127 * 128 ^ k := Nat.mul_le_mul_right _ (by omega)
   omega
  have hk1 : 10 - (k + 1) = 9 - k := by omega
  generalize u + (c.toNat - 128) * 128 ^ k = s at hs hle
  rw [e7]
  show ∃ u2,_
  exact ⟨s,hk9,trivial,rfl,trivial,trivial,by omega,hs,by rw [hle,hk1]⟩
end Go.Proofs.YtgghfcchanilpaaGreatDoor
namespace Go.Proofs.YtgghfcchanilpaaGreatDoor
open Go Go.Abs
theorem c175 {p : Nat} : Gets 175 [.ptr p 0 0 0] p [] pNum (PV.int .i64) := gets_of fun b g body σ off R hrd h0 hl hok herr => by
 rw [fn175_eq]
 delta fn175
 exact c252.callB hrd h0 hl (fun a off' h1 h2 h3 hr => weakW_keep (hok _ _ h1 h2 h3)) (fun e τ he hs => herr e τ he hs)
theorem pBind_ok {α β : Type} {pa : Pa α} {f : α → Pa β} {s l : Str} {a : α} (h : pa s = .ok (a,l)) : pBind pa f s = f a l := by
 unfold pBind
 rw [h]
theorem pBind_err {α β : Type} {pa : Pa α} {f : α → Pa β} {s : Str} {e : Int} (h : pa s = .error e) : pBind pa f s = .error e := by
 unfold pBind
 rw [h]
theorem pLen_le {s s' : Str} {n : Nat} (h : pLen s = .ok (n,s')) : n ≤ s'.length := by
 unfold pLen pBind at h
 split at h
 ·cases h
 ·dsimp only at h
  split at h
  ·cases h
  ·cases h
   omega
theorem c250 {p : Nat} : Gets 250 [.ptr p 0 0 0] p [] pLen (fun n => PV.int .i64 (n : Int)) := gets_of fun b g body σ off R hrd h0 hl hok herr => by
 rw [fn250_eq]
 delta fn250 bF gF kF nI
 refine c252.callB hrd h0 hl (fun a off' h1 h2 h3 hr => ?_) (fun e τ he hs => herr e τ (pBind_err he) hs)
 have hle : pLen (body.drop off) = if a < 0 ∨ a > ((body.drop off').length : Int) then .error 2 else .ok (a.toNat,body.drop off') := pBind_ok h1
 rw [List.length_drop] at hle
 refine CutW_by (fun x τ => x 3 = .int .i64 a ∧ τ = rdSet p b g body σ off' ∧ ¬ (a < 0 ∨ a > ((body.length - off' : Nat) : Int))) (fun x τ hx => ?_) ?_
 ·obtain ⟨q3,rfl,hn⟩ := hx
  rw [if_neg hn] at hle
  rw [q3]
  have := hok _ _ hle h2 h3
  rw [show ((a.toNat : Nat) : Int) = a by omega] at this
  exact weakW_keep this
 simp only [nilP,fldP,hr.load,left_len,zz,Nat.reduceEqDiff]
 by_cases hb : a < 0
 ·simp only [decide_eq_true hb,zz,Nat.reduceEqDiff]
  rw [if_pos (.inl hb)] at hle
  exact c255 2 _ (herr 2 _ hle (Same.set _))
 ·simp only [decide_eq_false hb,zz,Nat.reduceEqDiff]
  by_cases hc : a > ((body.length - off' : Nat) : Int)
  ·simp only [decide_eq_true hc,zz,Nat.reduceEqDiff]
   rw [if_pos (.inr hc)] at hle
   exact c255 2 _ (herr 2 _ hle (Same.set _))
  ·simp only [decide_eq_false hc,zz,Nat.reduceEqDiff]
   exact ⟨trivial,trivial,by omega⟩
theorem c184 {p : Nat} : Gets 184 [.ptr p 0 0 0] p [] pBool PV.bool := gets_of fun b g body σ off R hrd h0 hl hok herr => by
 rw [fn184_eq]
 delta fn184 bF gF kF nI
 refine c252.callB hrd h0 hl (fun a off' h1 h2 h3 hr => ?_) (fun e τ he hs => herr e τ (pBind_err he) hs)
 have hle : pBool (body.drop off) = if a ≠ 0 ∧ a ≠ 1 then .error 2 else .ok (a == 1,body.drop off') := pBind_ok h1
 refine CutW_by (fun x τ => x 3 = .int .i64 a ∧ τ = rdSet p b g body σ off' ∧ ¬ (a ≠ 0 ∧ a ≠ 1)) (fun x τ hx => ?_) ?_
 ·obtain ⟨q3,rfl,hn⟩ := hx
  rw [if_neg hn] at hle
  simp only [q3,zz,Nat.reduceEqDiff]
  exact weakW_keep (hok _ _ hle h2 h3)
 simp only [zz,Nat.reduceEqDiff]
 by_cases hb : a = 0
 ·have e0 : (a != 0) = false := by simpa using hb
  simp only [e0,zz,Nat.reduceEqDiff]
  exact ⟨trivial,trivial,by omega⟩
 ·have e0 : (a != 0) = true := by simpa using hb
  simp only [e0,zz,Nat.reduceEqDiff]
  by_cases hc : a = 1
  ·have e1 : (a != 1) = false := by simpa using hc
   simp only [e1,zz,Nat.reduceEqDiff]
   exact ⟨trivial,trivial,by omega⟩
  ·have e1 : (a != 1) = true := by simpa using hc
   simp only [e1,zz,Nat.reduceEqDiff]
   rw [if_pos ⟨hb,hc⟩] at hle
   exact c255 2 _ (herr 2 _ hle (Same.set _))
theorem sref_str {b g off n : Nat} {body : Str} {σ : St} (hb : σ[b]? = some (.arr g 1 (u8s body))) (h : off + n ≤ body.length) : vToStr (.sref b g 1 off n) σ = some (.str ((body.drop off).take n)) := by
 have e : vElems (.sref b g 1 off n) σ = some (u8s ((body.drop off).take n)) := by
  simp only [vElems,hb]
  rw [if_pos ⟨trivial,by rw [u8s_len]; exact h⟩]
  simp [u8s,List.map_take,List.map_drop]
 simp only [vToStr,e,bytesOf_u8s]
theorem left_pre {b g off n k : Nat} {body : Str} {σ : St} (hb : σ[b]? = some (.arr g 1 (u8s body))) (hk : k ≤ n) (h : off + n ≤ body.length) : ∃ v,vSubSl 1 (leftV b g off n) none (some (.int .i64 k)) = some v ∧ vToStr v σ = some (.str ((body.drop off).take k)) := by
 have hbd : ∀ m,bound (some (.int .i64 (k : Int))) m = some k := fun m => by simp [bound]
 have hn : ∀ m,bound none m = some m := fun _ => rfl
 unfold leftV
 by_cases h0 : n = 0
 ·subst h0
  obtain rfl : k = 0 := by omega
  exact ⟨.list .part [],rfl,rfl⟩
 ·rw [if_neg h0]
  refine ⟨.sref b g 1 off k,?_,sref_str hb (by omega)⟩
  simp only [vSubSl,hbd,hn]
  rw [if_pos ⟨trivial,by omega,by omega,by omega⟩]
  rfl
theorem c181 {p : Nat} : Gets 181 [.ptr p 0 0 0] p [] pText PV.str := gets_of fun b g body σ off R hrd h0 hl hok herr => by
 rw [fn181_eq]
 delta fn181 lF sF
 refine c250.callB hrd h0 hl (fun n off' h1 h2 h3 hr => ?_) (fun e τ he hs => herr e τ (pBind_err he) hs)
 have hn := pLen_le h1
 rw [List.length_drop] at hn
 have hle : pText (body.drop off) = .ok ((body.drop off').take n,(body.drop off').drop n) := pBind_ok h1
 rw [List.drop_drop] at hle
 have hst := hr.store (off' := off' + n)
 rw [rdSet_set] at hst
 have hsub : vSubSl 1 (leftV b g off' (body.length - off')) (some (.int .i64 n)) none = some (leftV b g (off' + n) (body.length - (off' + n))) := by
  have := left_sub (b := b) (g := g) (off := off') hn
  rw [show body.length - off' - n = body.length - (off' + n) by omega] at this
  exact this
 obtain ⟨v,e1,e2⟩ := left_pre (off := off') (n := body.length - off') hr.bytes hn (by omega)
 simp only [nilP,fldP,hr.load,e1,e2,hsub,hst,zz,Nat.reduceEqDiff]
 exact weakW_keep (hok _ _ hle (by omega) (by omega))
end Go.Proofs.YtgghfcchanilpaaGreatDoor
