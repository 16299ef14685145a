import Derived.Test.YteikomnahelckaaGreatDoorPlF
set_option linter.unusedVariables false
set_option linter.unusedSimpArgs false
namespace Go.Abs
def strM (l : Tbl) (a b : Nat) : Prop := a < l.length ∧ structK (mAtM l a) = true ∧ b ∈ elemsN (mAtM l a)
theorem str_wf {l : Tbl} (ok : OkT l) : WellFounded fun b a => strM l a b :=
 Subrelation.wf (r := fun b a => layM l a b) (fun {b a} h => ⟨h.1,by simp [h.2.1],h.2.2⟩) (lay_wf ok.plain ok.good)
open Classical in
noncomputable def leaves (l : Tbl) : Nat → List Nat :=
 if h : WellFounded (fun b a => strM l a b) then
  h.fix fun a ih => if hh : a < l.length ∧ structK (mAtM l a) = true then (elemsN (mAtM l a)).attach.flatMap (fun e => ih e.1 ⟨hh.1,hh.2,e.2⟩) else if (mAtM l a).kind = 0 then [] else [a]
 else fun _ => []
theorem leaves_eq {l : Tbl} (ok : OkT l) (a : Nat) : leaves l a = if a < l.length ∧ structK (mAtM l a) = true then (elemsN (mAtM l a)).flatMap (leaves l) else if (mAtM l a).kind = 0 then [] else [a] := by
 have h := str_wf ok
 unfold leaves
 rw [dif_pos h,h.fix_eq]
 by_cases hh : a < l.length ∧ structK (mAtM l a) = true
 ·rw [dif_pos hh,if_pos hh]
  rw [List.flatMap_subtype (g := h.fix fun a ih => if hh : a < l.length ∧ structK (mAtM l a) = true then (elemsN (mAtM l a)).attach.flatMap (fun e => ih e.1 ⟨hh.1,hh.2,e.2⟩) else if (mAtM l a).kind = 0 then [] else [a]) (fun _ _ => rfl),List.unattach_attach]
 ·rw [dif_neg hh,if_neg hh]
theorem mAtM_out {l : Tbl} {a : Nat} (h : ¬ a < l.length) : mAtM l a = zeroM := by
 unfold mAtM
 rw [List.getD_eq_getElem?_getD,List.getElem?_eq_none (by omega)]
 rfl
theorem leaves_struct {l : Tbl} (ok : OkT l) {a : Nat} (h : structK (mAtM l a) = true) : leaves l a = (elemsN (mAtM l a)).flatMap (leaves l) := by
 have ha : a < l.length := by
  by_cases ha : a < l.length
  ·exact ha
  ·rw [mAtM_out ha] at h; cases h
 rw [leaves_eq ok,if_pos ⟨ha,h⟩]
theorem leaves_void {l : Tbl} (ok : OkT l) {a : Nat} (h : (mAtM l a).kind = 0) : leaves l a = [] := by
 rw [leaves_eq ok,if_neg (fun hh => by have := hh.2; simp [structK,h] at this),if_pos h]
theorem leaves_one {l : Tbl} (ok : OkT l) {a : Nat} (h : structK (mAtM l a) = false) (h0 : (mAtM l a).kind ≠ 0) : leaves l a = [a] := by
 rw [leaves_eq ok,if_neg (fun hh => by simp [h] at hh),if_neg h0]
theorem elem_lt {l : Tbl} (ok : OkT l) {a b : Nat} (hb : b ∈ elemsN (mAtM l a)) : b < l.length := by
 by_cases ha : a < l.length
 ·exact plain_elemN ok.plain (mAtM_mem ha) hb
 ·rw [mAtM_out ha] at hb; cases hb
theorem leaves_mem {l : Tbl} (ok : OkT l) : ∀ a,a < l.length → ∀ m ∈ leaves l a,m < l.length ∧ structK (mAtM l m) = false ∧ (mAtM l m).kind ≠ 0 := by
 intro a
 induction a using (str_wf ok).induction with
 | _ a ih =>
 intro ha m hm
 cases hs : structK (mAtM l a) with
 | true =>
  rw [leaves_struct ok hs] at hm
  obtain ⟨e,he,hme⟩ := List.mem_flatMap.1 hm
  exact ih e ⟨ha,hs,he⟩ (elem_lt ok he) m hme
 | false =>
  by_cases h0 : (mAtM l a).kind = 0
  ·rw [leaves_void ok h0] at hm; cases hm
  ·rw [leaves_one ok hs h0] at hm
   simp at hm
   subst hm
   exact ⟨ha,hs,h0⟩
noncomputable def parsL (l : Tbl) (m : Nat) : List Nat := (elemsN (mAtM l m)).dropLast.flatMap (leaves l)
noncomputable def nodeL (l : Tbl) (x : Nat) : List Nat := if x < l.length then leaves l x else if procK (mAtM l (x - l.length)) = true then parsL l (x - l.length) else []
def kindS : Int → Int
 | 2 => 1 | 3 => 2 | 4 => 4 | 5 => 3 | 6 => 5 | 7 => 6 | 8 => 7 | 9 => 8 | 10 => 9 | 12 => 10 | 13 => 11 | _ => 0
def slotOf (m : ModeS) : SlotS := ⟨kindS m.kind,m.size,0,m.dims,m.flex⟩
def lastE (m : ModeS) : Nat := (elemsN m).getLastD 0
def toN (l : Tbl) (m : Nat) : List Nat :=
 if refK (mAtM l m) || rowK (mAtM l m) then [(elemsN (mAtM l m)).headD 0]
 else if unionK (mAtM l m) then elemsN (mAtM l m)
 else if procK (mAtM l m) then [l.length + m,lastE (mAtM l m)] else []
noncomputable def ndT (l : Tbl) : Nds := fun x => (nodeL l x).map fun m => (slotOf (mAtM l m),toN l m)
noncomputable abbrev repT (l : Tbl) : Nat → Nat := repN (ndT l)
def keyFrom (s : SlotS) (tg : List Nat) : Option Key :=
 if s.kind = 8 ∨ s.kind = 9 then some (.node (tg.headD 0))
 else if s.kind = 10 then some (.uni tg)
 else if s.kind = 11 then some (.sig (tg.headD 0) (tg.getLastD 0))
 else none
noncomputable def keyM (l : Tbl) (m : Nat) : Option Key := keyFrom (slotOf (mAtM l m)) ((toN l m).map (repT l))
noncomputable def rwT (l : Tbl) : Rws := fun c => (kyF (ndT l) (repT l) c).map fun r => (r.1,keyFrom r.1 r.2)
theorem rwT_eq (l : Tbl) (c : Nat) : rwT l c = (nodeL l c).map fun m => (slotOf (mAtM l m),keyM l m) := by
 unfold rwT kyF ndT keyM
 simp only [List.map_map]
 rfl
theorem repN_repN {nd : Nds} (x : Nat) : repN nd (repN nd x) = repN nd x := repN_eq.2 (repN_alk x)
theorem rwT_rep (l : Tbl) (x : Nat) : rwT l (repT l x) = rwT l x := by
 unfold rwT
 rw [ky_rep.2 (repN_repN x)]
theorem nodeL_mode {l : Tbl} {x : Nat} (h : x < l.length) : nodeL l x = leaves l x := by unfold nodeL; rw [if_pos h]
theorem nodeL_par {l : Tbl} {m : Nat} (h : procK (mAtM l m) = true) : nodeL l (l.length + m) = parsL l m := by
 unfold nodeL
 rw [if_neg (by omega),Nat.add_sub_cancel_left,if_pos h]
theorem kindS_ref {m : ModeS} (h : refK m = true) : kindS m.kind = 8 := by simp only [refK,beq_iff_eq] at h; rw [h]; rfl
theorem kindS_row {m : ModeS} (h : rowK m = true) : kindS m.kind = 9 := by simp only [rowK,beq_iff_eq] at h; rw [h]; rfl
theorem kindS_union {m : ModeS} (h : unionK m = true) : kindS m.kind = 10 := by simp only [unionK,beq_iff_eq] at h; rw [h]; rfl
theorem kindS_proc {m : ModeS} (h : procK m = true) : kindS m.kind = 11 := by simp only [procK,beq_iff_eq] at h; rw [h]; rfl
theorem kindS_other {m : ModeS} (h1 : refK m = false) (h2 : rowK m = false) (h3 : unionK m = false) (h4 : procK m = false) : kindS m.kind ≠ 8 ∧ kindS m.kind ≠ 9 ∧ kindS m.kind ≠ 10 ∧ kindS m.kind ≠ 11 := by
 simp only [refK,rowK,unionK,procK,beq_eq_false_iff_ne] at h1 h2 h3 h4
 unfold kindS
 split <;> simp_all
theorem key_ref {l : Tbl} {m : Nat} (h : refK (mAtM l m) = true) : keyM l m = some (.node (repT l ((elemsN (mAtM l m)).headD 0))) := by
 simp [keyM,keyFrom,slotOf,kindS_ref h,toN,h]
theorem key_row {l : Tbl} {m : Nat} (h : rowK (mAtM l m) = true) : keyM l m = some (.node (repT l ((elemsN (mAtM l m)).headD 0))) := by
 simp [keyM,keyFrom,slotOf,kindS_row h,toN,h]
theorem key_union {l : Tbl} {m : Nat} (h : unionK (mAtM l m) = true) : keyM l m = some (.uni ((elemsN (mAtM l m)).map (repT l))) := by
 have h1 : refK (mAtM l m) = false := by simp only [unionK,beq_iff_eq] at h; simp [refK,h]
 have h2 : rowK (mAtM l m) = false := by simp only [unionK,beq_iff_eq] at h; simp [rowK,h]
 simp [keyM,keyFrom,slotOf,kindS_union h,toN,h,h1,h2]
theorem key_proc {l : Tbl} {m : Nat} (h : procK (mAtM l m) = true) : keyM l m = some (.sig (repT l (l.length + m)) (repT l (lastE (mAtM l m)))) := by
 have h1 : refK (mAtM l m) = false := by simp only [procK,beq_iff_eq] at h; simp [refK,h]
 have h2 : rowK (mAtM l m) = false := by simp only [procK,beq_iff_eq] at h; simp [rowK,h]
 have h3 : unionK (mAtM l m) = false := by simp only [procK,beq_iff_eq] at h; simp [unionK,h]
 simp [keyM,keyFrom,slotOf,kindS_proc h,toN,h,h1,h2,h3]
theorem key_other {l : Tbl} {m : Nat} (h1 : refK (mAtM l m) = false) (h2 : rowK (mAtM l m) = false) (h3 : unionK (mAtM l m) = false) (h4 : procK (mAtM l m) = false) : keyM l m = none := by
 obtain ⟨a,b,c,d⟩ := kindS_other h1 h2 h3 h4
 simp [keyM,keyFrom,slotOf,a,b,c,d]
def procs (l : Tbl) : List Nat := (List.range l.length).filter fun m => procK (mAtM l m)
def gN (l : Tbl) : List Nat := List.range l.length ++ (procs l).map (l.length + ·)
noncomputable def univ (l : Tbl) : List Key :=
 (gN l).map (fun x => .node (repT l x)) ++ (List.range l.length).map (fun m => .uni ((elemsN (mAtM l m)).map (repT l))) ++ (procs l).map fun m => .sig (repT l (l.length + m)) (repT l (lastE (mAtM l m)))
theorem mem_procs {l : Tbl} {m : Nat} : m ∈ procs l ↔ m < l.length ∧ procK (mAtM l m) = true := by simp [procs]
theorem mem_gN {l : Tbl} {x : Nat} : x ∈ gN l ↔ x < l.length ∨ ∃ m ∈ procs l,l.length + m = x := by simp [gN]
theorem gN_lt {l : Tbl} {x : Nat} (h : x ∈ gN l) : x < 2 * l.length := by
 rcases mem_gN.1 h with h | ⟨m,hm,rfl⟩
 ·omega
 ·have := (mem_procs.1 hm).1; omega
theorem procs_len (l : Tbl) : (procs l).length ≤ l.length := by
 have := List.length_filter_le (fun m => procK (mAtM l m)) (List.range l.length)
 simpa [procs] using this
theorem gN_len (l : Tbl) : (gN l).length = l.length + (procs l).length := by simp [gN]
theorem univ_len (l : Tbl) : (univ l).length ≤ 4 * l.length := by
 have := procs_len l
 simp only [univ,List.length_append,List.length_map,List.length_range,gN_len]
 omega
theorem free_le (l : Tbl) (T : List Key) : free (univ l) T ≤ 4 * l.length := Nat.le_trans List.countP_le_length (univ_len l)
theorem univ_rep {l : Tbl} {x : Nat} (h : x ∈ gN l) : Key.node (repT l x) ∈ univ l := by
 unfold univ
 simp only [List.mem_append,List.mem_map]
 exact .inl (.inl ⟨x,h,rfl⟩)
theorem univ_mode {l : Tbl} {x : Nat} (h : x < l.length) : Key.node (repT l x) ∈ univ l := univ_rep (mem_gN.2 (.inl h))
theorem univ_uni {l : Tbl} {m : Nat} (h : m < l.length) : Key.uni ((elemsN (mAtM l m)).map (repT l)) ∈ univ l := by
 unfold univ
 simp only [List.mem_append,List.mem_map,List.mem_range]
 exact .inl (.inr ⟨m,h,rfl⟩)
theorem univ_sig {l : Tbl} {m : Nat} (h : m ∈ procs l) : Key.sig (repT l (l.length + m)) (repT l (lastE (mAtM l m))) ∈ univ l := by
 unfold univ
 simp only [List.mem_append,List.mem_map]
 exact .inr ⟨m,h,rfl⟩
theorem univ_codes {l : Tbl} {c : Nat} (h : Key.node c ∈ univ l) : ∃ x ∈ gN l,c = repT l x := by
 unfold univ at h
 simp only [List.mem_append,List.mem_map] at h
 rcases h with (⟨x,hx,h⟩ | ⟨m,_,h⟩) | ⟨m,_,h⟩
 ·injection h with h; exact ⟨x,hx,h.symm⟩
 ·cases h
 ·cases h
theorem parts_pos {l : Tbl} (ok : OkT l) {m : Nat} (hm : m < l.length) (h : (refK (mAtM l m) || rowK (mAtM l m)) = true ∨ procK (mAtM l m) = true) : elemsN (mAtM l m) ≠ [] := by
 have hp := ok.plain _ (mAtM_mem hm)
 simp only [plainOk,Bool.and_eq_true] at hp
 have := shapeOk_parts hp.1.1.1
 unfold partsOk at this
 intro he
 have hl : (mAtM l m).elems.2.length = 0 := by
  have := congrArg List.length he
  simpa [elemsN] using this
 rcases h with h | h
 ·rw [if_pos h,hl] at this
  cases this
 ·have h1 : refK (mAtM l m) = false := by simp only [procK,beq_iff_eq] at h; simp [refK,h]
  have h2 : rowK (mAtM l m) = false := by simp only [procK,beq_iff_eq] at h; simp [rowK,h]
  rw [if_neg (by simp [h1,h2]),if_pos (by simp [h]),hl] at this
  cases this
theorem head_mem {es : List Nat} (h : es ≠ []) : es.headD 0 ∈ es := by
 cases es with
 | nil => exact absurd rfl h
 | cons a es => simp
theorem last_mem {es : List Nat} (h : es ≠ []) : es.getLastD 0 ∈ es := by
 cases es with
 | nil => exact absurd rfl h
 | cons a es =>
  rw [List.getLastD_eq_getLast?,List.getLast?_eq_some_getLast (by simp)]
  exact List.getLast_mem _
theorem node_mem {l : Tbl} (ok : OkT l) {x : Nat} (hx : x < 2 * l.length) : ∀ m ∈ nodeL l x,m < l.length ∧ structK (mAtM l m) = false ∧ (mAtM l m).kind ≠ 0 := by
 intro m hm
 unfold nodeL at hm
 split at hm
 ·rename_i h
  exact leaves_mem ok x h m hm
 ·split at hm
  ·unfold parsL at hm
   obtain ⟨e,he,hme⟩ := List.mem_flatMap.1 hm
   exact leaves_mem ok e (elem_lt ok (List.dropLast_subset _ he)) m hme
  ·cases hm
theorem node_mem_g {l : Tbl} (ok : OkT l) {x : Nat} (hx : x ∈ gN l) : ∀ m ∈ nodeL l x,m < l.length ∧ structK (mAtM l m) = false ∧ (mAtM l m).kind ≠ 0 := node_mem ok (gN_lt hx)
theorem ref_head {l : Tbl} (ok : OkT l) {m : Nat} (hm : m < l.length) (h : (refK (mAtM l m) || rowK (mAtM l m)) = true) : (elemsN (mAtM l m)).headD 0 < l.length := elem_lt ok (head_mem (parts_pos ok hm (.inl h)))
theorem proc_last {l : Tbl} (ok : OkT l) {m : Nat} (hm : m < l.length) (h : procK (mAtM l m) = true) : lastE (mAtM l m) < l.length := elem_lt ok (last_mem (parts_pos ok hm (.inr h)))
theorem keyM_univ {l : Tbl} (ok : OkT l) {m : Nat} (hm : m < l.length) {k : Key} (h : keyM l m = some k) : k ∈ univ l := by
 by_cases h1 : refK (mAtM l m) = true
 ·rw [key_ref h1] at h
  cases h
  exact univ_mode (ref_head ok hm (by simp [h1]))
 by_cases h2 : rowK (mAtM l m) = true
 ·rw [key_row h2] at h
  cases h
  exact univ_mode (ref_head ok hm (by simp [h2]))
 by_cases h3 : unionK (mAtM l m) = true
 ·rw [key_union h3] at h
  cases h
  exact univ_uni hm
 by_cases h4 : procK (mAtM l m) = true
 ·rw [key_proc h4] at h
  cases h
  exact univ_sig (mem_procs.2 ⟨hm,h4⟩)
 rw [key_other (by simpa using h1) (by simpa using h2) (by simpa using h3) (by simpa using h4)] at h
 cases h
theorem ch_node (l : Tbl) (x : Nat) : chR (rwT l) (.node (repT l x)) = (nodeL l x).filterMap (keyM l) := by
 show (rwT l (repT l x)).filterMap (·.2) = _
 rw [rwT_rep,rwT_eq,List.filterMap_map]
 rfl
theorem univ_closed {l : Tbl} (ok : OkT l) : ∀ k ∈ univ l,∀ j ∈ chR (rwT l) k,j ∈ univ l := by
 intro k hk j hj
 unfold univ at hk
 simp only [List.mem_append,List.mem_map,List.mem_range] at hk
 rcases hk with (⟨c,hc,rfl⟩ | ⟨m,hm,rfl⟩) | ⟨m,hm,rfl⟩
 ·rw [ch_node,List.mem_filterMap] at hj
  obtain ⟨m,hm,h⟩ := hj
  exact keyM_univ ok (node_mem_g ok hc m hm).1 h
 ·simp only [chR,List.mem_map] at hj
  obtain ⟨c,⟨e,he,rfl⟩,rfl⟩ := hj
  exact univ_mode (elem_lt ok he)
 ·have hm' := mem_procs.1 hm
  simp only [chR,List.mem_cons,List.not_mem_nil,or_false] at hj
  rcases hj with rfl | rfl
  ·exact univ_rep (mem_gN.2 (.inr ⟨m,hm,rfl⟩))
  ·exact univ_mode (proc_last ok hm'.1 hm'.2)
end Go.Abs
