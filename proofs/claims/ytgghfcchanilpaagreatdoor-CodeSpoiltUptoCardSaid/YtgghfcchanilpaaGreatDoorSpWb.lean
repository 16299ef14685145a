import Derived.Test.YtgghfcchanilpaaGreatDoorSpW
set_option linter.unusedVariables false
set_option linter.unusedSimpArgs false
namespace Go.Proofs.YtgghfcchanilpaaGreatDoor
open Go Go.Abs
theorem flat_take {α : Type} (f : α → Str) : ∀ (l : List α) (n : Nat),((l.take n).flatMap f).length ≤ (l.flatMap f).length
 | [],n => by simp
 | a :: l,0 => by simp
 | a :: l,n + 1 => by
  have := flat_take f l n
  rw [List.take_succ_cons,List.flatMap_cons,List.flatMap_cons,List.length_append,List.length_append]
  omega
theorem c246 {l : Sl (Int)} (hl : l.2.length ≤ 1048576) {p : Nat} {H0 : List (Nat × Blk)} {g k : Nat} {caps : List PV} (hg : hasBody g = true) {f : Int → Str} (h : ∀ a ∈ l.2,Puts g (argsF k [pvI a] caps) p H0 (f a)) :
  Puts 246 [.ptr p 0 0 0,pvSl pvI l,.func g k caps] p H0 (listB f l.2) := puts_of fun H τ out R h0 hw hr hR => by
 rw [fn246_eq]
 delta fn246 bF kF nI
 unfold listB at hr hR
 rw [List.length_append] at hr
 simp only [sl_len,zz,Nat.reduceEqDiff]
 refine (c150 (n := len l) ⟨by unfold len; omega,by unfold len; omega⟩).callB (fun h hh => by cases hh) hw (by unfold len; omega) fun τ1 hw1 => ?_
 have hlen : numB (len l) = numB l.2.length := rfl
 rw [hlen] at hw1
 refine Lfp_up l.2.length (fun j x τ => x = lookP [(2,.func g k caps),(12,pvSl pvI l),(13,.int .i64 (len l)),(14,.int .i64 j)] ∧ Wr p H τ ((out ++ numB l.2.length) ++ (l.2.take j).flatMap f)) ?_ ⟨rfl,by simpa using hw1⟩
 rintro Φ j x τ2 hj ⟨rfl,hw2⟩ next
 by_cases hlt : j < l.2.length
 ·have hg' : l.2[j]? = some l.2[j] := by simp [hlt]
  have hmem : l.2[j] ∈ l.2 := by simp
  have htake : l.2.take (j + 1) = l.2.take j ++ [l.2[j]] := by rw [List.take_add_one,hg']; rfl
  generalize l.2[j] = a at hg' hmem htake
  have hfl : (l.2.take (j + 1)).flatMap f = (l.2.take j).flatMap f ++ f a := by rw [htake,List.flatMap_append]; simp
  have hb := flat_take f l.2 (j + 1)
  rw [hfl,List.length_append] at hb
  simp only [lt_len hlt,hlt,decide_true,sl_idx encI hg',encI.part,callG_func hg,zz,Nat.reduceEqDiff]
  refine (h a hmem).callB h0 hw2 (by rw [List.length_append,List.length_append]; omega) fun τ3 hw3 => ?_
  rw [vBin_add _ (by omega) (by omega)]
  simp only [zz,Nat.reduceEqDiff]
  refine next _ _ hlt ⟨rfl,?_⟩
  rw [hfl,← List.append_assoc]
  exact hw3
 ·obtain rfl : j = l.2.length := by omega
  simp only [not_lt_len,Nat.lt_irrefl,decide_false,zz,Nat.reduceEqDiff]
  rw [List.take_length,List.append_assoc] at hw2
  exact weakW_keep (hR _ hw2)
theorem c146 {l : Sl (Sl Int)} (hl : l.2.length ≤ 1048576) {p : Nat} {H0 : List (Nat × Blk)} {g k : Nat} {caps : List PV} (hg : hasBody g = true) {f : Sl Int → Str} (h : ∀ a ∈ l.2,Puts g (argsF k [pvInts a] caps) p H0 (f a)) :
  Puts 146 [.ptr p 0 0 0,pvSl pvInts l,.func g k caps] p H0 (listB f l.2) := puts_of fun H τ out R h0 hw hr hR => by
 rw [fn146_eq]
 delta fn146 bF kF nI
 unfold listB at hr hR
 rw [List.length_append] at hr
 simp only [sl_len,zz,Nat.reduceEqDiff]
 refine (c150 (n := len l) ⟨by unfold len; omega,by unfold len; omega⟩).callB (fun h hh => by cases hh) hw (by unfold len; omega) fun τ1 hw1 => ?_
 have hlen : numB (len l) = numB l.2.length := rfl
 rw [hlen] at hw1
 refine Lfp_up l.2.length (fun j x τ => x = lookP [(2,.func g k caps),(12,pvSl pvInts l),(13,.int .i64 (len l)),(14,.int .i64 j)] ∧ Wr p H τ ((out ++ numB l.2.length) ++ (l.2.take j).flatMap f)) ?_ ⟨rfl,by simpa using hw1⟩
 rintro Φ j x τ2 hj ⟨rfl,hw2⟩ next
 by_cases hlt : j < l.2.length
 ·have hg' : l.2[j]? = some l.2[j] := by simp [hlt]
  have hmem : l.2[j] ∈ l.2 := by simp
  have htake : l.2.take (j + 1) = l.2.take j ++ [l.2[j]] := by rw [List.take_add_one,hg']; rfl
  generalize l.2[j] = a at hg' hmem htake
  have hfl : (l.2.take (j + 1)).flatMap f = (l.2.take j).flatMap f ++ f a := by rw [htake,List.flatMap_append]; simp
  have hb := flat_take f l.2 (j + 1)
  rw [hfl,List.length_append] at hb
  simp only [lt_len hlt,hlt,decide_true,sl_idx encInts hg',encInts.part,callG_func hg,zz,Nat.reduceEqDiff]
  refine (h a hmem).callB h0 hw2 (by rw [List.length_append,List.length_append]; omega) fun τ3 hw3 => ?_
  rw [vBin_add _ (by omega) (by omega)]
  simp only [zz,Nat.reduceEqDiff]
  refine next _ _ hlt ⟨rfl,?_⟩
  rw [hfl,← List.append_assoc]
  exact hw3
 ·obtain rfl : j = l.2.length := by omega
  simp only [not_lt_len,Nat.lt_irrefl,decide_false,zz,Nat.reduceEqDiff]
  rw [List.take_length,List.append_assoc] at hw2
  exact weakW_keep (hR _ hw2)
theorem c155 {l : Sl (Str)} (hl : l.2.length ≤ 1048576) {p : Nat} {H0 : List (Nat × Blk)} {g k : Nat} {caps : List PV} (hg : hasBody g = true) {f : Str → Str} (h : ∀ a ∈ l.2,Puts g (argsF k [PV.str a] caps) p H0 (f a)) :
  Puts 155 [.ptr p 0 0 0,pvSl PV.str l,.func g k caps] p H0 (listB f l.2) := puts_of fun H τ out R h0 hw hr hR => by
 rw [fn155_eq]
 delta fn155 bF kF nI
 unfold listB at hr hR
 rw [List.length_append] at hr
 simp only [sl_len,zz,Nat.reduceEqDiff]
 refine (c150 (n := len l) ⟨by unfold len; omega,by unfold len; omega⟩).callB (fun h hh => by cases hh) hw (by unfold len; omega) fun τ1 hw1 => ?_
 have hlen : numB (len l) = numB l.2.length := rfl
 rw [hlen] at hw1
 refine Lfp_up l.2.length (fun j x τ => x = lookP [(2,.func g k caps),(12,pvSl PV.str l),(13,.int .i64 (len l)),(14,.int .i64 j)] ∧ Wr p H τ ((out ++ numB l.2.length) ++ (l.2.take j).flatMap f)) ?_ ⟨rfl,by simpa using hw1⟩
 rintro Φ j x τ2 hj ⟨rfl,hw2⟩ next
 by_cases hlt : j < l.2.length
 ·have hg' : l.2[j]? = some l.2[j] := by simp [hlt]
  have hmem : l.2[j] ∈ l.2 := by simp
  have htake : l.2.take (j + 1) = l.2.take j ++ [l.2[j]] := by rw [List.take_add_one,hg']; rfl
  generalize l.2[j] = a at hg' hmem htake
  have hfl : (l.2.take (j + 1)).flatMap f = (l.2.take j).flatMap f ++ f a := by rw [htake,List.flatMap_append]; simp
  have hb := flat_take f l.2 (j + 1)
  rw [hfl,List.length_append] at hb
  simp only [lt_len hlt,hlt,decide_true,sl_idx encStr hg',encStr.part,callG_func hg,zz,Nat.reduceEqDiff]
  refine (h a hmem).callB h0 hw2 (by rw [List.length_append,List.length_append]; omega) fun τ3 hw3 => ?_
  rw [vBin_add _ (by omega) (by omega)]
  simp only [zz,Nat.reduceEqDiff]
  refine next _ _ hlt ⟨rfl,?_⟩
  rw [hfl,← List.append_assoc]
  exact hw3
 ·obtain rfl : j = l.2.length := by omega
  simp only [not_lt_len,Nat.lt_irrefl,decide_false,zz,Nat.reduceEqDiff]
  rw [List.take_length,List.append_assoc] at hw2
  exact weakW_keep (hR _ hw2)
theorem c144 {l : Sl (SlotS)} (hl : l.2.length ≤ 1048576) {p : Nat} {H0 : List (Nat × Blk)} {g k : Nat} {caps : List PV} (hg : hasBody g = true) {f : SlotS → Str} (h : ∀ a ∈ l.2,Puts g (argsF k [pvSlot a] caps) p H0 (f a)) :
  Puts 144 [.ptr p 0 0 0,pvSl pvSlot l,.func g k caps] p H0 (listB f l.2) := puts_of fun H τ out R h0 hw hr hR => by
 rw [fn144_eq]
 delta fn144 bF kF nI
 unfold listB at hr hR
 rw [List.length_append] at hr
 simp only [sl_len,zz,Nat.reduceEqDiff]
 refine (c150 (n := len l) ⟨by unfold len; omega,by unfold len; omega⟩).callB (fun h hh => by cases hh) hw (by unfold len; omega) fun τ1 hw1 => ?_
 have hlen : numB (len l) = numB l.2.length := rfl
 rw [hlen] at hw1
 refine Lfp_up l.2.length (fun j x τ => x = lookP [(2,.func g k caps),(12,pvSl pvSlot l),(13,.int .i64 (len l)),(14,.int .i64 j)] ∧ Wr p H τ ((out ++ numB l.2.length) ++ (l.2.take j).flatMap f)) ?_ ⟨rfl,by simpa using hw1⟩
 rintro Φ j x τ2 hj ⟨rfl,hw2⟩ next
 by_cases hlt : j < l.2.length
 ·have hg' : l.2[j]? = some l.2[j] := by simp [hlt]
  have hmem : l.2[j] ∈ l.2 := by simp
  have htake : l.2.take (j + 1) = l.2.take j ++ [l.2[j]] := by rw [List.take_add_one,hg']; rfl
  generalize l.2[j] = a at hg' hmem htake
  have hfl : (l.2.take (j + 1)).flatMap f = (l.2.take j).flatMap f ++ f a := by rw [htake,List.flatMap_append]; simp
  have hb := flat_take f l.2 (j + 1)
  rw [hfl,List.length_append] at hb
  have hput : vPut 5 (.agg [(.int .i64 0),(.int .i64 0),(.int .i64 0),(.int .i64 0),(.bool false)]) 0 (pvSlot a) = some (pvSlot a) := rfl
  have hpart : vPart true 5 (pvSlot a) 0 = some (pvSlot a) := rfl
  simp only [lt_len hlt,hlt,decide_true,sl_idx encSlot hg',encSlot.part,hput,hpart,callG_func hg,zz,Nat.reduceEqDiff]
  refine (h a hmem).callB h0 hw2 (by rw [List.length_append,List.length_append]; omega) fun τ3 hw3 => ?_
  rw [vBin_add _ (by omega) (by omega)]
  simp only [zz,Nat.reduceEqDiff]
  refine next _ _ hlt ⟨rfl,?_⟩
  rw [hfl,← List.append_assoc]
  exact hw3
 ·obtain rfl : j = l.2.length := by omega
  simp only [not_lt_len,Nat.lt_irrefl,decide_false,zz,Nat.reduceEqDiff]
  rw [List.take_length,List.append_assoc] at hw2
  exact weakW_keep (hR _ hw2)
theorem c142 {l : Sl (Sl SlotS)} (hl : l.2.length ≤ 1048576) {p : Nat} {H0 : List (Nat × Blk)} {g k : Nat} {caps : List PV} (hg : hasBody g = true) {f : Sl SlotS → Str} (h : ∀ a ∈ l.2,Puts g (argsF k [pvMap a] caps) p H0 (f a)) :
  Puts 142 [.ptr p 0 0 0,pvSl pvMap l,.func g k caps] p H0 (listB f l.2) := puts_of fun H τ out R h0 hw hr hR => by
 rw [fn142_eq]
 delta fn142 bF uF kF nI nL
 unfold listB at hr hR
 rw [List.length_append] at hr
 simp only [sl_len,zz,Nat.reduceEqDiff]
 refine (c150 (n := len l) ⟨by unfold len; omega,by unfold len; omega⟩).callB (fun h hh => by cases hh) hw (by unfold len; omega) fun τ1 hw1 => ?_
 have hlen : numB (len l) = numB l.2.length := rfl
 rw [hlen] at hw1
 refine Lfp_up l.2.length (fun j x τ => x = lookP [(2,.func g k caps),(12,pvSl pvMap l),(13,.int .i64 (len l)),(14,.int .i64 j)] ∧ Wr p H τ ((out ++ numB l.2.length) ++ (l.2.take j).flatMap f)) ?_ ⟨rfl,by simpa using hw1⟩
 rintro Φ j x τ2 hj ⟨rfl,hw2⟩ next
 by_cases hlt : j < l.2.length
 ·have hg' : l.2[j]? = some l.2[j] := by simp [hlt]
  have hmem : l.2[j] ∈ l.2 := by simp
  have htake : l.2.take (j + 1) = l.2.take j ++ [l.2[j]] := by rw [List.take_add_one,hg']; rfl
  generalize l.2[j] = a at hg' hmem htake
  have hfl : (l.2.take (j + 1)).flatMap f = (l.2.take j).flatMap f ++ f a := by rw [htake,List.flatMap_append]; simp
  have hb := flat_take f l.2 (j + 1)
  rw [hfl,List.length_append] at hb
  have hput : vPut 1 (.agg [(.list .nil [])]) 0 (pvMap a) = some (pvMap a) := rfl
  have hpart : vPart true 1 (pvMap a) 0 = some (pvMap a) := rfl
  simp only [lt_len hlt,hlt,decide_true,sl_idx encMap hg',encMap.part,hput,hpart,callG_func hg,zz,Nat.reduceEqDiff]
  refine (h a hmem).callB h0 hw2 (by rw [List.length_append,List.length_append]; omega) fun τ3 hw3 => ?_
  rw [vBin_add _ (by omega) (by omega)]
  simp only [zz,Nat.reduceEqDiff]
  refine next _ _ hlt ⟨rfl,?_⟩
  rw [hfl,← List.append_assoc]
  exact hw3
 ·obtain rfl : j = l.2.length := by omega
  simp only [not_lt_len,Nat.lt_irrefl,decide_false,zz,Nat.reduceEqDiff]
  rw [List.take_length,List.append_assoc] at hw2
  exact weakW_keep (hR _ hw2)
theorem c148 {l : Sl (Int × Int)} (hl : l.2.length ≤ 1048576) {p : Nat} {H0 : List (Nat × Blk)} {g k : Nat} {caps : List PV} (hg : hasBody g = true) {f : Int × Int → Str} (h : ∀ a ∈ l.2,Puts g (argsF k [pvSig a] caps) p H0 (f a)) :
  Puts 148 [.ptr p 0 0 0,pvSl pvSig l,.func g k caps] p H0 (listB f l.2) := puts_of fun H τ out R h0 hw hr hR => by
 rw [fn148_eq]
 delta fn148 bF kF nI
 unfold listB at hr hR
 rw [List.length_append] at hr
 simp only [sl_len,zz,Nat.reduceEqDiff]
 refine (c150 (n := len l) ⟨by unfold len; omega,by unfold len; omega⟩).callB (fun h hh => by cases hh) hw (by unfold len; omega) fun τ1 hw1 => ?_
 have hlen : numB (len l) = numB l.2.length := rfl
 rw [hlen] at hw1
 refine Lfp_up l.2.length (fun j x τ => x = lookP [(2,.func g k caps),(12,pvSl pvSig l),(13,.int .i64 (len l)),(14,.int .i64 j)] ∧ Wr p H τ ((out ++ numB l.2.length) ++ (l.2.take j).flatMap f)) ?_ ⟨rfl,by simpa using hw1⟩
 rintro Φ j x τ2 hj ⟨rfl,hw2⟩ next
 by_cases hlt : j < l.2.length
 ·have hg' : l.2[j]? = some l.2[j] := by simp [hlt]
  have hmem : l.2[j] ∈ l.2 := by simp
  have htake : l.2.take (j + 1) = l.2.take j ++ [l.2[j]] := by rw [List.take_add_one,hg']; rfl
  generalize l.2[j] = a at hg' hmem htake
  have hfl : (l.2.take (j + 1)).flatMap f = (l.2.take j).flatMap f ++ f a := by rw [htake,List.flatMap_append]; simp
  have hb := flat_take f l.2 (j + 1)
  rw [hfl,List.length_append] at hb
  have hput : vPut 2 (.agg [(.int .i64 0),(.int .i64 0)]) 0 (pvSig a) = some (pvSig a) := rfl
  have hpart : vPart true 2 (pvSig a) 0 = some (pvSig a) := rfl
  simp only [lt_len hlt,hlt,decide_true,sl_idx encSig hg',encSig.part,hput,hpart,callG_func hg,zz,Nat.reduceEqDiff]
  refine (h a hmem).callB h0 hw2 (by rw [List.length_append,List.length_append]; omega) fun τ3 hw3 => ?_
  rw [vBin_add _ (by omega) (by omega)]
  simp only [zz,Nat.reduceEqDiff]
  refine next _ _ hlt ⟨rfl,?_⟩
  rw [hfl,← List.append_assoc]
  exact hw3
 ·obtain rfl : j = l.2.length := by omega
  simp only [not_lt_len,Nat.lt_irrefl,decide_false,zz,Nat.reduceEqDiff]
  rw [List.take_length,List.append_assoc] at hw2
  exact weakW_keep (hR _ hw2)
theorem c160 {l : Sl (Int × Int)} (hl : l.2.length ≤ 1048576) {p : Nat} {H0 : List (Nat × Blk)} {g k : Nat} {caps : List PV} (hg : hasBody g = true) {f : Int × Int → Str} (h : ∀ a ∈ l.2,Puts g (argsF k [pvSig a] caps) p H0 (f a)) :
  Puts 160 [.ptr p 0 0 0,pvSl pvSig l,.func g k caps] p H0 (listB f l.2) := puts_of fun H τ out R h0 hw hr hR => by
 rw [fn160_eq]
 delta fn160 bF kF nI
 unfold listB at hr hR
 rw [List.length_append] at hr
 simp only [sl_len,zz,Nat.reduceEqDiff]
 refine (c150 (n := len l) ⟨by unfold len; omega,by unfold len; omega⟩).callB (fun h hh => by cases hh) hw (by unfold len; omega) fun τ1 hw1 => ?_
 have hlen : numB (len l) = numB l.2.length := rfl
 rw [hlen] at hw1
 refine Lfp_up l.2.length (fun j x τ => x = lookP [(2,.func g k caps),(12,pvSl pvSig l),(13,.int .i64 (len l)),(14,.int .i64 j)] ∧ Wr p H τ ((out ++ numB l.2.length) ++ (l.2.take j).flatMap f)) ?_ ⟨rfl,by simpa using hw1⟩
 rintro Φ j x τ2 hj ⟨rfl,hw2⟩ next
 by_cases hlt : j < l.2.length
 ·have hg' : l.2[j]? = some l.2[j] := by simp [hlt]
  have hmem : l.2[j] ∈ l.2 := by simp
  have htake : l.2.take (j + 1) = l.2.take j ++ [l.2[j]] := by rw [List.take_add_one,hg']; rfl
  generalize l.2[j] = a at hg' hmem htake
  have hfl : (l.2.take (j + 1)).flatMap f = (l.2.take j).flatMap f ++ f a := by rw [htake,List.flatMap_append]; simp
  have hb := flat_take f l.2 (j + 1)
  rw [hfl,List.length_append] at hb
  have hput : vPut 2 (.agg [(.int .i64 0),(.int .i64 0)]) 0 (pvSig a) = some (pvSig a) := rfl
  have hpart : vPart true 2 (pvSig a) 0 = some (pvSig a) := rfl
  simp only [lt_len hlt,hlt,decide_true,sl_idx encSig hg',encSig.part,hput,hpart,callG_func hg,zz,Nat.reduceEqDiff]
  refine (h a hmem).callB h0 hw2 (by rw [List.length_append,List.length_append]; omega) fun τ3 hw3 => ?_
  rw [vBin_add _ (by omega) (by omega)]
  simp only [zz,Nat.reduceEqDiff]
  refine next _ _ hlt ⟨rfl,?_⟩
  rw [hfl,← List.append_assoc]
  exact hw3
 ·obtain rfl : j = l.2.length := by omega
  simp only [not_lt_len,Nat.lt_irrefl,decide_false,zz,Nat.reduceEqDiff]
  rw [List.take_length,List.append_assoc] at hw2
  exact weakW_keep (hR _ hw2)
theorem c248 {l : Sl (RangeS)} (hl : l.2.length ≤ 1048576) {p : Nat} {H0 : List (Nat × Blk)} {g k : Nat} {caps : List PV} (hg : hasBody g = true) {f : RangeS → Str} (h : ∀ a ∈ l.2,Puts g (argsF k [pvRange a] caps) p H0 (f a)) :
  Puts 248 [.ptr p 0 0 0,pvSl pvRange l,.func g k caps] p H0 (listB f l.2) := puts_of fun H τ out R h0 hw hr hR => by
 rw [fn248_eq]
 delta fn248 bF kF nI
 unfold listB at hr hR
 rw [List.length_append] at hr
 simp only [sl_len,zz,Nat.reduceEqDiff]
 refine (c150 (n := len l) ⟨by unfold len; omega,by unfold len; omega⟩).callB (fun h hh => by cases hh) hw (by unfold len; omega) fun τ1 hw1 => ?_
 have hlen : numB (len l) = numB l.2.length := rfl
 rw [hlen] at hw1
 refine Lfp_up l.2.length (fun j x τ => x = lookP [(2,.func g k caps),(12,pvSl pvRange l),(13,.int .i64 (len l)),(14,.int .i64 j)] ∧ Wr p H τ ((out ++ numB l.2.length) ++ (l.2.take j).flatMap f)) ?_ ⟨rfl,by simpa using hw1⟩
 rintro Φ j x τ2 hj ⟨rfl,hw2⟩ next
 by_cases hlt : j < l.2.length
 ·have hg' : l.2[j]? = some l.2[j] := by simp [hlt]
  have hmem : l.2[j] ∈ l.2 := by simp
  have htake : l.2.take (j + 1) = l.2.take j ++ [l.2[j]] := by rw [List.take_add_one,hg']; rfl
  generalize l.2[j] = a at hg' hmem htake
  have hfl : (l.2.take (j + 1)).flatMap f = (l.2.take j).flatMap f ++ f a := by rw [htake,List.flatMap_append]; simp
  have hb := flat_take f l.2 (j + 1)
  rw [hfl,List.length_append] at hb
  have hput : vPut 3 (.agg [(.int .i64 0),(.int .i64 0),(.int .i64 0)]) 0 (pvRange a) = some (pvRange a) := rfl
  have hpart : vPart true 3 (pvRange a) 0 = some (pvRange a) := rfl
  simp only [lt_len hlt,hlt,decide_true,sl_idx encRange hg',encRange.part,hput,hpart,callG_func hg,zz,Nat.reduceEqDiff]
  refine (h a hmem).callB h0 hw2 (by rw [List.length_append,List.length_append]; omega) fun τ3 hw3 => ?_
  rw [vBin_add _ (by omega) (by omega)]
  simp only [zz,Nat.reduceEqDiff]
  refine next _ _ hlt ⟨rfl,?_⟩
  rw [hfl,← List.append_assoc]
  exact hw3
 ·obtain rfl : j = l.2.length := by omega
  simp only [not_lt_len,Nat.lt_irrefl,decide_false,zz,Nat.reduceEqDiff]
  rw [List.take_length,List.append_assoc] at hw2
  exact weakW_keep (hR _ hw2)
theorem c151 {l : Sl (RoutS)} (hl : l.2.length ≤ 1048576) {p : Nat} {H0 : List (Nat × Blk)} {g k : Nat} {caps : List PV} (hg : hasBody g = true) {f : RoutS → Str} (h : ∀ a ∈ l.2,Puts g (argsF k [pvRout a] caps) p H0 (f a)) :
  Puts 151 [.ptr p 0 0 0,pvSl pvRout l,.func g k caps] p H0 (listB f l.2) := puts_of fun H τ out R h0 hw hr hR => by
 rw [fn151_eq]
 delta fn151 bF kF nI nL
 unfold listB at hr hR
 rw [List.length_append] at hr
 simp only [sl_len,zz,Nat.reduceEqDiff]
 refine (c150 (n := len l) ⟨by unfold len; omega,by unfold len; omega⟩).callB (fun h hh => by cases hh) hw (by unfold len; omega) fun τ1 hw1 => ?_
 have hlen : numB (len l) = numB l.2.length := rfl
 rw [hlen] at hw1
 refine Lfp_up l.2.length (fun j x τ => x = lookP [(2,.func g k caps),(12,pvSl pvRout l),(13,.int .i64 (len l)),(14,.int .i64 j)] ∧ Wr p H τ ((out ++ numB l.2.length) ++ (l.2.take j).flatMap f)) ?_ ⟨rfl,by simpa using hw1⟩
 rintro Φ j x τ2 hj ⟨rfl,hw2⟩ next
 by_cases hlt : j < l.2.length
 ·have hg' : l.2[j]? = some l.2[j] := by simp [hlt]
  have hmem : l.2[j] ∈ l.2 := by simp
  have htake : l.2.take (j + 1) = l.2.take j ++ [l.2[j]] := by rw [List.take_add_one,hg']; rfl
  generalize l.2[j] = a at hg' hmem htake
  have hfl : (l.2.take (j + 1)).flatMap f = (l.2.take j).flatMap f ++ f a := by rw [htake,List.flatMap_append]; simp
  have hb := flat_take f l.2 (j + 1)
  rw [hfl,List.length_append] at hb
  have hput : vPut 9 (.agg [(.int .i64 0),(.int .i64 0),(.int .i64 0),(.int .i64 0),(.int .i64 0),(.int .i64 0),(.int .i64 0),(.int .i64 0),(.list .nil [])]) 0 (pvRout a) = some (pvRout a) := rfl
  have hpart : vPart true 9 (pvRout a) 0 = some (pvRout a) := rfl
  simp only [lt_len hlt,hlt,decide_true,sl_idx encRout hg',encRout.part,hput,hpart,callG_func hg,zz,Nat.reduceEqDiff]
  refine (h a hmem).callB h0 hw2 (by rw [List.length_append,List.length_append]; omega) fun τ3 hw3 => ?_
  rw [vBin_add _ (by omega) (by omega)]
  simp only [zz,Nat.reduceEqDiff]
  refine next _ _ hlt ⟨rfl,?_⟩
  rw [hfl,← List.append_assoc]
  exact hw3
 ·obtain rfl : j = l.2.length := by omega
  simp only [not_lt_len,Nat.lt_irrefl,decide_false,zz,Nat.reduceEqDiff]
  rw [List.take_length,List.append_assoc] at hw2
  exact weakW_keep (hR _ hw2)
theorem c153 {l : Sl (InstS)} (hl : l.2.length ≤ 1048576) {p : Nat} {H0 : List (Nat × Blk)} {g k : Nat} {caps : List PV} (hg : hasBody g = true) {f : InstS → Str} (h : ∀ a ∈ l.2,Puts g (argsF k [pvInst a] caps) p H0 (f a)) :
  Puts 153 [.ptr p 0 0 0,pvSl pvInst l,.func g k caps] p H0 (listB f l.2) := puts_of fun H τ out R h0 hw hr hR => by
 rw [fn153_eq]
 delta fn153 bF kF nI
 unfold listB at hr hR
 rw [List.length_append] at hr
 simp only [sl_len,zz,Nat.reduceEqDiff]
 refine (c150 (n := len l) ⟨by unfold len; omega,by unfold len; omega⟩).callB (fun h hh => by cases hh) hw (by unfold len; omega) fun τ1 hw1 => ?_
 have hlen : numB (len l) = numB l.2.length := rfl
 rw [hlen] at hw1
 refine Lfp_up l.2.length (fun j x τ => x = lookP [(2,.func g k caps),(12,pvSl pvInst l),(13,.int .i64 (len l)),(14,.int .i64 j)] ∧ Wr p H τ ((out ++ numB l.2.length) ++ (l.2.take j).flatMap f)) ?_ ⟨rfl,by simpa using hw1⟩
 rintro Φ j x τ2 hj ⟨rfl,hw2⟩ next
 by_cases hlt : j < l.2.length
 ·have hg' : l.2[j]? = some l.2[j] := by simp [hlt]
  have hmem : l.2[j] ∈ l.2 := by simp
  have htake : l.2.take (j + 1) = l.2.take j ++ [l.2[j]] := by rw [List.take_add_one,hg']; rfl
  generalize l.2[j] = a at hg' hmem htake
  have hfl : (l.2.take (j + 1)).flatMap f = (l.2.take j).flatMap f ++ f a := by rw [htake,List.flatMap_append]; simp
  have hb := flat_take f l.2 (j + 1)
  rw [hfl,List.length_append] at hb
  have hput : vPut 12 (.agg [(.int .i64 0),(.int .i64 0),(.int .i64 0),(.int .i64 0),(.int .i64 0),(.int .i64 0),(.int .i64 0),(.int .i64 0),(.int .i64 0),(.int .i64 0),(.int .i64 0),(.int .i64 0)]) 0 (pvInst a) = some (pvInst a) := rfl
  have hpart : vPart true 12 (pvInst a) 0 = some (pvInst a) := rfl
  simp only [lt_len hlt,hlt,decide_true,sl_idx encInst hg',encInst.part,hput,hpart,callG_func hg,zz,Nat.reduceEqDiff]
  refine (h a hmem).callB h0 hw2 (by rw [List.length_append,List.length_append]; omega) fun τ3 hw3 => ?_
  rw [vBin_add _ (by omega) (by omega)]
  simp only [zz,Nat.reduceEqDiff]
  refine next _ _ hlt ⟨rfl,?_⟩
  rw [hfl,← List.append_assoc]
  exact hw3
 ·obtain rfl : j = l.2.length := by omega
  simp only [not_lt_len,Nat.lt_irrefl,decide_false,zz,Nat.reduceEqDiff]
  rw [List.take_length,List.append_assoc] at hw2
  exact weakW_keep (hR _ hw2)
theorem c157 {l : Sl (TransS)} (hl : l.2.length ≤ 1048576) {p : Nat} {H0 : List (Nat × Blk)} {g k : Nat} {caps : List PV} (hg : hasBody g = true) {f : TransS → Str} (h : ∀ a ∈ l.2,Puts g (argsF k [pvTrans a] caps) p H0 (f a)) :
  Puts 157 [.ptr p 0 0 0,pvSl pvTrans l,.func g k caps] p H0 (listB f l.2) := puts_of fun H τ out R h0 hw hr hR => by
 rw [fn157_eq]
 delta fn157 bF kF nI
 unfold listB at hr hR
 rw [List.length_append] at hr
 simp only [sl_len,zz,Nat.reduceEqDiff]
 refine (c150 (n := len l) ⟨by unfold len; omega,by unfold len; omega⟩).callB (fun h hh => by cases hh) hw (by unfold len; omega) fun τ1 hw1 => ?_
 have hlen : numB (len l) = numB l.2.length := rfl
 rw [hlen] at hw1
 refine Lfp_up l.2.length (fun j x τ => x = lookP [(2,.func g k caps),(12,pvSl pvTrans l),(13,.int .i64 (len l)),(14,.int .i64 j)] ∧ Wr p H τ ((out ++ numB l.2.length) ++ (l.2.take j).flatMap f)) ?_ ⟨rfl,by simpa using hw1⟩
 rintro Φ j x τ2 hj ⟨rfl,hw2⟩ next
 by_cases hlt : j < l.2.length
 ·have hg' : l.2[j]? = some l.2[j] := by simp [hlt]
  have hmem : l.2[j] ∈ l.2 := by simp
  have htake : l.2.take (j + 1) = l.2.take j ++ [l.2[j]] := by rw [List.take_add_one,hg']; rfl
  generalize l.2[j] = a at hg' hmem htake
  have hfl : (l.2.take (j + 1)).flatMap f = (l.2.take j).flatMap f ++ f a := by rw [htake,List.flatMap_append]; simp
  have hb := flat_take f l.2 (j + 1)
  rw [hfl,List.length_append] at hb
  have hput : vPut 3 (.agg [(.str []),(.bool false),(.int .i64 0)]) 0 (pvTrans a) = some (pvTrans a) := rfl
  have hpart : vPart true 3 (pvTrans a) 0 = some (pvTrans a) := rfl
  simp only [lt_len hlt,hlt,decide_true,sl_idx encTrans hg',encTrans.part,hput,hpart,callG_func hg,zz,Nat.reduceEqDiff]
  refine (h a hmem).callB h0 hw2 (by rw [List.length_append,List.length_append]; omega) fun τ3 hw3 => ?_
  rw [vBin_add _ (by omega) (by omega)]
  simp only [zz,Nat.reduceEqDiff]
  refine next _ _ hlt ⟨rfl,?_⟩
  rw [hfl,← List.append_assoc]
  exact hw3
 ·obtain rfl : j = l.2.length := by omega
  simp only [not_lt_len,Nat.lt_irrefl,decide_false,zz,Nat.reduceEqDiff]
  rw [List.take_length,List.append_assoc] at hw2
  exact weakW_keep (hR _ hw2)
end Go.Proofs.YtgghfcchanilpaaGreatDoor
