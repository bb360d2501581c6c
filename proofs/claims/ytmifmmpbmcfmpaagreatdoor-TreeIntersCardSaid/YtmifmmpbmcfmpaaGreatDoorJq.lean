/-
  What stands behind a dollar: the program's method.
-/
import Derived.Test.YtmifmmpbmcfmpaaGreatDoorJo
set_option linter.unusedVariables false
set_option linter.unusedSimpArgs false
namespace Go.Proofs.YtmifmmpbmcfmpaaGreatDoor.IW
open Go Go.RowKit
set_option maxRecDepth 100000

theorem isEmpty_no {s : ByteArray} (h : s.size ≠ 0) : s.toList.isEmpty = false := by
  cases hl : s.toList with
  | nil => exact absurd (toList_nil.1 hl) h
  | cons x l => rfl

set_option maxHeartbeats 1000000 in
theorem tscalar_place (w : World) (base b : Nat) (s : ByteArray) (v1 tv lv : Value) (bs : List UInt8) (nds : List Nd) (vs : List Value) (R0 : RI w base b 54 s v1 tv bs lv nds vs) (ha : okA b v1) (hlb : bs.length ≤ 100000) (hlen : nds.length ≤ 90000) (u : ByteArray) (hs : u.size ≤ 1000000) (k : Nat) (T : ByteArray) (hk : nameK u = k) (hT : nameT u = T) (hk0 : k ≠ 0) (r : ByteArray) (hr : restN u = r) (j : Nat) (x : Lf) (hpl : placeOf r = (j, x)) (hj : j ≠ 0) : Calls Tryz.prog 23 #[.pointer (some ⟨b, 0, none⟩), .string u] w fun e w' => e = .returned (.int .i64 (k + j : Nat)) ∧ ∃ u1 lv' vs', okA b u1 ∧ RI w' base b 54 s u1 (.slice none 0 0) [] lv' (fl bs nds ++ [⟨8, ⟨#[]⟩, 0, [⟨6, T, 0⟩, x]⟩]) vs' ∧ Fr w w' b tv lv (.slice none 0 0) lv' := by
  have HS := Aside0.mk (Rs.refl R0)
  have HA := Aside0.mk ha
  have HLB := Aside0.mk hlb
  have HL := Aside0.mk hlen
  have HU := Aside0.mk hs
  have hkl := nameK_le u
  rw [hk] at hkl
  have hrx : u.extract k u.size = r := by rw [← hr, restN, hk]
  have hrz : r.size = u.size - k := by rw [← hrx]; exact size_ext _ _ _ (Nat.le_refl _)
  have HR : Aside0 (r.size ≤ 1000000) := ⟨by omega⟩
  have d4 : (0 : Int) ≤ (k : Int) := by omega
  have d5 : (k : Int) ≤ (u.size : Int) := by omega
  have hjl := placeOf_le r
  rw [hpl, hrz] at hjl
  replace hjl : j ≤ u.size - k := hjl
  have e1 : decide ((j : Int) > 0) = true := decide_eq_true (by omega)
  have e2 : decide (0 < j) = true := decide_eq_true (by omega)
  obtain ⟨q2, hq2⟩ : ∃ q2, q2 = k + j := ⟨_, rfl⟩
  have HP := Aside0.mk (PlR_yes hpl)
  have HE := Aside0.mk hq2
  have b3 : q2 ≤ 2000000 := by omega
  by_cases hw0 : wordN u = 0
  · have hbn : braceN u ≠ 0 := by intro h; apply hk0; rw [← hk]; unfold nameK braceK; rw [if_neg (fun h => h hw0), if_pos h]
    have hbl := (braceN_le u hbn).1
    have HW : Aside0 (u.extract 0 (wordN u) = ⟨#[]⟩) := ⟨by rw [hw0]; exact ext_nil _ _ _ (Nat.le_refl _)⟩
    have HB : Aside0 (u.extract 1 (braceN u + 1) = T) := ⟨by rw [← hT]; unfold nameT; rw [if_neg (fun h => h hw0)]⟩
    have hTs : T.size = braceN u := by rw [← HB.out, size_ext _ _ _ (by omega)]; omega
    have hTe : T.toList.isEmpty = false := isEmpty_no (by omega)
    have hkk : k = braceN u + 2 := by rw [← hk]; unfold nameK braceK; rw [if_neg (fun h => h hw0), if_neg hbn]
    have b9 : T.size + 2 ≤ 2000000 := by omega
    have wr9 : wrap64 ((T.size : Int) + 2) = (k : Int) := by rw [wrA (K := 2) T.size 2 rfl b9, hTs, hkk]
    have wr4 := wr_p k j q2 hq2 b3
    clear b3 R0 ha hs hlb hlen hkl hj hjl hrz hpl hq2 hr hbn hbl hw0 hk0 hk hT hTs hkk b9
    go_enter Tryz.func23, Tryz.ntmps23
    go_wp2_with first | (rw [← hW5]; clear hW5) | (go_at_call 57; refine (wordAt_any _ _ HU.out).mono ?_; rintro e w2 ⟨rfl, hw⟩; rw [hw, HW.out]) | (go_at_call_of 58 (Value.string u); refine (pbraced_any _ _ HU.out).mono ?_; rintro e w2 ⟨rfl, hw⟩; rw [hw, HB.out]) | (go_at_call_of 58 (Value.string r); refine (pbraced_any _ _ HR.out).mono ?_; rintro e w2 ⟨rfl, hw⟩; rw [hw, HB2.out]) | (go_at_call 62; refine (tplace_any _ _ HR.out).mono ?_; rintro e w4 ⟨rfl, hB4⟩; rw [HP.out]; have HS4 := Aside0.mk (HS.out.below hB4); obtain ⟨W5, hW5⟩ : ∃ W5, W5 = w4.alloc (.cells #[.int .i64 x.op, .string x.s, .string ⟨#[]⟩, .int .i64 x.n, .slice none 0 0] 25) := ⟨_, rfl⟩; have HS5 := Aside0.mk (HS4.out.alloc (.cells #[.int .i64 x.op, .string x.s, .string ⟨#[]⟩, .int .i64 x.n, .slice none 0 0] 25)); have HK5 := Aside0.mk (heap_alloc_new w4 (.cells #[.int .i64 x.op, .string x.s, .string ⟨#[]⟩, .int .i64 x.n, .slice none 0 0] 25)); rw [← hW5] at HS5 HK5; obtain ⟨y0, y1, y2, y3, y4, yf⟩ := nd_block HK5.out; clear hB4) | (go_at_call 61; refine (part_pair w W5 base b s v1 tv lv bs nds vs HS5.out HA.out HLB.out HL.out 8 ⟨6, T, 0⟩ x).mono ?_; rintro e w7 ⟨rfl, u1, lv', vs', hu7, hR7, hF7⟩; have HR7 := Aside0.mk hR7; have HF7 := Aside0.mk hF7; have HU7 := Aside0.mk hu7; clear hR7 hF7 hu7)
    go_ret
    exact ⟨by rw [← HE.out]; first | rfl | (rw [← wr4]; rfl) | (rw [← wr5, ← wr4]; rfl), u1, lv', vs', HU7.out, HR7.out, HF7.out⟩
  · obtain ⟨hb1, hb2⟩ := word_braces hw0
    have hwd : wordN u = k := by rw [← hk]; unfold nameK; rw [if_pos hw0]
    have HW : Aside0 (u.extract 0 (wordN u) = T) := ⟨by rw [← hT]; unfold nameT; rw [if_pos hw0]⟩
    have HB : Aside0 (u.extract 1 (braceN u + 1) = ⟨#[]⟩) := ⟨by rw [hb1]; exact ext_nil _ _ _ (Nat.le_refl _)⟩
    have hTs : T.size = k := by rw [← HW.out, size_ext _ _ _ (by omega), hwd]; omega
    have hTe : T.toList.isEmpty = false := isEmpty_no (by omega)
    have wr4 := wr_p k j q2 hq2 b3
    clear b3 R0 ha hs hlb hlen hkl hj hjl hrz hpl hq2 hr hb1 hb2 hw0 hk0 hk hT hwd
    go_enter Tryz.func23, Tryz.ntmps23
    go_wp2_with first | (rw [← hW5]; clear hW5) | (go_at_call 57; refine (wordAt_any _ _ HU.out).mono ?_; rintro e w2 ⟨rfl, hw⟩; rw [hw, HW.out]) | (go_at_call_of 58 (Value.string u); refine (pbraced_any _ _ HU.out).mono ?_; rintro e w2 ⟨rfl, hw⟩; rw [hw, HB.out]) | (go_at_call_of 58 (Value.string r); refine (pbraced_any _ _ HR.out).mono ?_; rintro e w2 ⟨rfl, hw⟩; rw [hw, HB2.out]) | (go_at_call 62; refine (tplace_any _ _ HR.out).mono ?_; rintro e w4 ⟨rfl, hB4⟩; rw [HP.out]; have HS4 := Aside0.mk (HS.out.below hB4); obtain ⟨W5, hW5⟩ : ∃ W5, W5 = w4.alloc (.cells #[.int .i64 x.op, .string x.s, .string ⟨#[]⟩, .int .i64 x.n, .slice none 0 0] 25) := ⟨_, rfl⟩; have HS5 := Aside0.mk (HS4.out.alloc (.cells #[.int .i64 x.op, .string x.s, .string ⟨#[]⟩, .int .i64 x.n, .slice none 0 0] 25)); have HK5 := Aside0.mk (heap_alloc_new w4 (.cells #[.int .i64 x.op, .string x.s, .string ⟨#[]⟩, .int .i64 x.n, .slice none 0 0] 25)); rw [← hW5] at HS5 HK5; obtain ⟨y0, y1, y2, y3, y4, yf⟩ := nd_block HK5.out; clear hB4) | (go_at_call 61; refine (part_pair w W5 base b s v1 tv lv bs nds vs HS5.out HA.out HLB.out HL.out 8 ⟨6, T, 0⟩ x).mono ?_; rintro e w7 ⟨rfl, u1, lv', vs', hu7, hR7, hF7⟩; have HR7 := Aside0.mk hR7; have HF7 := Aside0.mk hF7; have HU7 := Aside0.mk hu7; clear hR7 hF7 hu7)
    go_ret
    exact ⟨by rw [← HE.out]; first | rfl | (rw [← wr4]; rfl) | (rw [← wr5, ← wr4]; rfl), u1, lv', vs', HU7.out, HR7.out, HF7.out⟩

set_option maxHeartbeats 1000000 in
theorem tscalar_key (w : World) (base b : Nat) (s : ByteArray) (v1 tv lv : Value) (bs : List UInt8) (nds : List Nd) (vs : List Value) (R0 : RI w base b 54 s v1 tv bs lv nds vs) (ha : okA b v1) (hlb : bs.length ≤ 100000) (hlen : nds.length ≤ 90000) (u : ByteArray) (hs : u.size ≤ 1000000) (k : Nat) (T : ByteArray) (hk : nameK u = k) (hT : nameT u = T) (hk0 : k ≠ 0) (r : ByteArray) (hr : restN u = r) (hpl : placeOf r = (0, noLf)) (m : Nat) (hm : braceN r = m) (hm0 : m ≠ 0) : Calls Tryz.prog 23 #[.pointer (some ⟨b, 0, none⟩), .string u] w fun e w' => e = .returned (.int .i64 (k + (m + 2) : Nat)) ∧ ∃ u1 lv' vs', okA b u1 ∧ RI w' base b 54 s u1 (.slice none 0 0) [] lv' (fl bs nds ++ [⟨9, ⟨#[]⟩, 0, [⟨7, T, 0⟩, ⟨2, r.extract 1 (m + 1), 0⟩]⟩]) vs' ∧ Fr w w' b tv lv (.slice none 0 0) lv' := by
  have HS := Aside0.mk (Rs.refl R0)
  have HA := Aside0.mk ha
  have HLB := Aside0.mk hlb
  have HL := Aside0.mk hlen
  have HU := Aside0.mk hs
  have hkl := nameK_le u
  rw [hk] at hkl
  have hrx : u.extract k u.size = r := by rw [← hr, restN, hk]
  have hrz : r.size = u.size - k := by rw [← hrx]; exact size_ext _ _ _ (Nat.le_refl _)
  have HR : Aside0 (r.size ≤ 1000000) := ⟨by omega⟩
  have d4 : (0 : Int) ≤ (k : Int) := by omega
  have d5 : (k : Int) ≤ (u.size : Int) := by omega
  have hml := (braceN_le r (by rw [hm]; exact hm0)).1
  rw [hm, hrz] at hml
  obtain ⟨Y, hY⟩ : ∃ Y, Y = r.extract 1 (m + 1) := ⟨_, rfl⟩
  have hYs : Y.size = m := by rw [hY, size_ext _ _ _ (by omega)]; omega
  have hYe : Y.toList.isEmpty = false := isEmpty_no (by omega)
  have HB2 : Aside0 (r.extract 1 (braceN r + 1) = Y) := ⟨by rw [hm, hY]⟩
  obtain ⟨q1, hq1⟩ : ∃ q1, q1 = k + m := ⟨_, rfl⟩
  obtain ⟨q2, hq2⟩ : ∃ q2, q2 = q1 + 2 := ⟨_, rfl⟩
  have HP := Aside0.mk (PlR_no hpl)
  have HE := Aside0.mk (show q2 = k + (m + 2) by omega)
  have b2 : q1 ≤ 2000000 := by omega
  have b3 : q1 + 2 ≤ 2000000 := by omega
  rw [← hY]
  by_cases hw0 : wordN u = 0
  · have hbn : braceN u ≠ 0 := by intro h; apply hk0; rw [← hk]; unfold nameK braceK; rw [if_neg (fun h => h hw0), if_pos h]
    have hbl := (braceN_le u hbn).1
    have HW : Aside0 (u.extract 0 (wordN u) = ⟨#[]⟩) := ⟨by rw [hw0]; exact ext_nil _ _ _ (Nat.le_refl _)⟩
    have HB : Aside0 (u.extract 1 (braceN u + 1) = T) := ⟨by rw [← hT]; unfold nameT; rw [if_neg (fun h => h hw0)]⟩
    have hTs : T.size = braceN u := by rw [← HB.out, size_ext _ _ _ (by omega)]; omega
    have hTe : T.toList.isEmpty = false := isEmpty_no (by omega)
    have hkk : k = braceN u + 2 := by rw [← hk]; unfold nameK braceK; rw [if_neg (fun h => h hw0), if_neg hbn]
    have b9 : T.size + 2 ≤ 2000000 := by omega
    have wr9 : wrap64 ((T.size : Int) + 2) = (k : Int) := by rw [wrA (K := 2) T.size 2 rfl b9, hTs, hkk]
    have wr4 := wr_p k m q1 hq1 b2
    have wr5 : wrap64 ((q1 : Int) + 2) = (q2 : Int) := by rw [hq2]; exact wrA (K := 2) q1 2 rfl b3
    clear b2 b3 R0 ha hs hlb hlen hkl hml hm hm0 hrz hpl hq1 hq2 hr hY hbn hbl hw0 hk0 hk hT hTs hkk b9
    go_enter Tryz.func23, Tryz.ntmps23
    go_wp2_with first | (rw [← hW5]; clear hW5) | (rw [HZ5.out]; clear HZ5) | (go_at_call 57; refine (wordAt_any _ _ HU.out).mono ?_; rintro e w2 ⟨rfl, hw⟩; rw [hw, HW.out]) | (go_at_call_of 58 (Value.string u); refine (pbraced_any _ _ HU.out).mono ?_; rintro e w2 ⟨rfl, hw⟩; rw [hw, HB.out]) | (go_at_call_of 58 (Value.string r); refine (pbraced_any _ _ HR.out).mono ?_; rintro e w2 ⟨rfl, hw⟩; rw [hw, HB2.out]) | (go_at_call 62; refine (tplace_any _ _ HR.out).mono ?_; rintro e w4 ⟨rfl, hB4⟩; rw [HP.out]; have HS4 := Aside0.mk (HS.out.below hB4); obtain ⟨W5, hW5⟩ : ∃ W5, W5 = w4.alloc (.cells #[.int .i64 0, .string ⟨#[]⟩, .string ⟨#[]⟩, .int .i64 0, .slice none 0 0] 25) := ⟨_, rfl⟩; have HS5 := Aside0.mk (HS4.out.alloc (.cells #[.int .i64 0, .string ⟨#[]⟩, .string ⟨#[]⟩, .int .i64 0, .slice none 0 0] 25)); have HK5 := Aside0.mk (heap_alloc_new w4 (.cells #[.int .i64 0, .string ⟨#[]⟩, .string ⟨#[]⟩, .int .i64 0, .slice none 0 0] 25)); rw [← hW5] at HS5 HK5; obtain ⟨y0, y1, y2, y3, y4, yf⟩ := nd_block HK5.out; have HZ5 := Aside0.mk (storeNd_same HK5.out); clear hB4) | (go_at_call 61; refine (part_pair w W5 base b s v1 tv lv bs nds vs HS5.out HA.out HLB.out HL.out 9 ⟨7, T, 0⟩ ⟨2, Y, 0⟩).mono ?_; rintro e w7 ⟨rfl, u1, lv', vs', hu7, hR7, hF7⟩; have HR7 := Aside0.mk hR7; have HF7 := Aside0.mk hF7; have HU7 := Aside0.mk hu7; clear hR7 hF7 hu7)
    go_ret
    exact ⟨by rw [← HE.out]; first | rfl | (rw [← wr4]; rfl) | (rw [← wr5, ← wr4]; rfl), u1, lv', vs', HU7.out, HR7.out, HF7.out⟩
  · obtain ⟨hb1, hb2⟩ := word_braces hw0
    have hwd : wordN u = k := by rw [← hk]; unfold nameK; rw [if_pos hw0]
    have HW : Aside0 (u.extract 0 (wordN u) = T) := ⟨by rw [← hT]; unfold nameT; rw [if_pos hw0]⟩
    have HB : Aside0 (u.extract 1 (braceN u + 1) = ⟨#[]⟩) := ⟨by rw [hb1]; exact ext_nil _ _ _ (Nat.le_refl _)⟩
    have hTs : T.size = k := by rw [← HW.out, size_ext _ _ _ (by omega), hwd]; omega
    have hTe : T.toList.isEmpty = false := isEmpty_no (by omega)
    have wr4 := wr_p k m q1 hq1 b2
    have wr5 : wrap64 ((q1 : Int) + 2) = (q2 : Int) := by rw [hq2]; exact wrA (K := 2) q1 2 rfl b3
    clear b2 b3 R0 ha hs hlb hlen hkl hml hm hm0 hrz hpl hq1 hq2 hr hY hb1 hb2 hw0 hk0 hk hT hwd
    go_enter Tryz.func23, Tryz.ntmps23
    go_wp2_with first | (rw [← hW5]; clear hW5) | (rw [HZ5.out]; clear HZ5) | (go_at_call 57; refine (wordAt_any _ _ HU.out).mono ?_; rintro e w2 ⟨rfl, hw⟩; rw [hw, HW.out]) | (go_at_call_of 58 (Value.string u); refine (pbraced_any _ _ HU.out).mono ?_; rintro e w2 ⟨rfl, hw⟩; rw [hw, HB.out]) | (go_at_call_of 58 (Value.string r); refine (pbraced_any _ _ HR.out).mono ?_; rintro e w2 ⟨rfl, hw⟩; rw [hw, HB2.out]) | (go_at_call 62; refine (tplace_any _ _ HR.out).mono ?_; rintro e w4 ⟨rfl, hB4⟩; rw [HP.out]; have HS4 := Aside0.mk (HS.out.below hB4); obtain ⟨W5, hW5⟩ : ∃ W5, W5 = w4.alloc (.cells #[.int .i64 0, .string ⟨#[]⟩, .string ⟨#[]⟩, .int .i64 0, .slice none 0 0] 25) := ⟨_, rfl⟩; have HS5 := Aside0.mk (HS4.out.alloc (.cells #[.int .i64 0, .string ⟨#[]⟩, .string ⟨#[]⟩, .int .i64 0, .slice none 0 0] 25)); have HK5 := Aside0.mk (heap_alloc_new w4 (.cells #[.int .i64 0, .string ⟨#[]⟩, .string ⟨#[]⟩, .int .i64 0, .slice none 0 0] 25)); rw [← hW5] at HS5 HK5; obtain ⟨y0, y1, y2, y3, y4, yf⟩ := nd_block HK5.out; have HZ5 := Aside0.mk (storeNd_same HK5.out); clear hB4) | (go_at_call 61; refine (part_pair w W5 base b s v1 tv lv bs nds vs HS5.out HA.out HLB.out HL.out 9 ⟨7, T, 0⟩ ⟨2, Y, 0⟩).mono ?_; rintro e w7 ⟨rfl, u1, lv', vs', hu7, hR7, hF7⟩; have HR7 := Aside0.mk hR7; have HF7 := Aside0.mk hF7; have HU7 := Aside0.mk hu7; clear hR7 hF7 hu7)
    go_ret
    exact ⟨by rw [← HE.out]; first | rfl | (rw [← wr4]; rfl) | (rw [← wr5, ← wr4]; rfl), u1, lv', vs', HU7.out, HR7.out, HF7.out⟩

set_option maxHeartbeats 1000000 in
theorem tscalar_plain (w : World) (base b : Nat) (s : ByteArray) (v1 tv lv : Value) (bs : List UInt8) (nds : List Nd) (vs : List Value) (R0 : RI w base b 54 s v1 tv bs lv nds vs) (ha : okA b v1) (hlb : bs.length ≤ 100000) (hlen : nds.length ≤ 90000) (u : ByteArray) (hs : u.size ≤ 1000000) (k : Nat) (T : ByteArray) (hk : nameK u = k) (hT : nameT u = T) (hk0 : k ≠ 0) (r : ByteArray) (hr : restN u = r) (hpl : placeOf r = (0, noLf)) (hm : braceN r = 0) : Calls Tryz.prog 23 #[.pointer (some ⟨b, 0, none⟩), .string u] w fun e w' => e = .returned (.int .i64 (k : Nat)) ∧ ∃ u1 lv' vs', okA b u1 ∧ RI w' base b 54 s u1 (.slice none 0 0) [] lv' (fl bs nds ++ [⟨5, T, 0, []⟩]) vs' ∧ Fr w w' b tv lv (.slice none 0 0) lv' := by
  have HS := Aside0.mk (Rs.refl R0)
  have HA := Aside0.mk ha
  have HLB := Aside0.mk hlb
  have HL := Aside0.mk hlen
  have HU := Aside0.mk hs
  have hkl := nameK_le u
  rw [hk] at hkl
  have hrx : u.extract k u.size = r := by rw [← hr, restN, hk]
  have hrz : r.size = u.size - k := by rw [← hrx]; exact size_ext _ _ _ (Nat.le_refl _)
  have HR : Aside0 (r.size ≤ 1000000) := ⟨by omega⟩
  have d4 : (0 : Int) ≤ (k : Int) := by omega
  have d5 : (k : Int) ≤ (u.size : Int) := by omega
  have HP := Aside0.mk (PlR_no hpl)
  have HE := Aside0.mk (rfl : k = k)
  have HB2 : Aside0 (r.extract 1 (braceN r + 1) = ⟨#[]⟩) := ⟨by rw [hm]; exact ext_nil _ _ _ (Nat.le_refl _)⟩
  by_cases hw0 : wordN u = 0
  · have hbn : braceN u ≠ 0 := by intro h; apply hk0; rw [← hk]; unfold nameK braceK; rw [if_neg (fun h => h hw0), if_pos h]
    have hbl := (braceN_le u hbn).1
    have HW : Aside0 (u.extract 0 (wordN u) = ⟨#[]⟩) := ⟨by rw [hw0]; exact ext_nil _ _ _ (Nat.le_refl _)⟩
    have HB : Aside0 (u.extract 1 (braceN u + 1) = T) := ⟨by rw [← hT]; unfold nameT; rw [if_neg (fun h => h hw0)]⟩
    have hTs : T.size = braceN u := by rw [← HB.out, size_ext _ _ _ (by omega)]; omega
    have hTe : T.toList.isEmpty = false := isEmpty_no (by omega)
    have hkk : k = braceN u + 2 := by rw [← hk]; unfold nameK braceK; rw [if_neg (fun h => h hw0), if_neg hbn]
    have b9 : T.size + 2 ≤ 2000000 := by omega
    have wr9 : wrap64 ((T.size : Int) + 2) = (k : Int) := by rw [wrA (K := 2) T.size 2 rfl b9, hTs, hkk]
    clear R0 ha hs hlb hlen hkl hm hrz hpl hr hbn hbl hw0 hk0 hk hT hTs hkk b9
    go_enter Tryz.func23, Tryz.ntmps23
    go_wp2_with first | (rw [← hW5]; clear hW5) | (rw [HZ5.out]; clear HZ5) | (go_at_call 57; refine (wordAt_any _ _ HU.out).mono ?_; rintro e w2 ⟨rfl, hw⟩; rw [hw, HW.out]) | (go_at_call_of 58 (Value.string u); refine (pbraced_any _ _ HU.out).mono ?_; rintro e w2 ⟨rfl, hw⟩; rw [hw, HB.out]) | (go_at_call_of 58 (Value.string r); refine (pbraced_any _ _ HR.out).mono ?_; rintro e w2 ⟨rfl, hw⟩; rw [hw, HB2.out]) | (go_at_call 62; refine (tplace_any _ _ HR.out).mono ?_; rintro e w4 ⟨rfl, hB4⟩; rw [HP.out]; have HS4 := Aside0.mk (HS.out.below hB4); obtain ⟨W5, hW5⟩ : ∃ W5, W5 = w4.alloc (.cells #[.int .i64 0, .string ⟨#[]⟩, .string ⟨#[]⟩, .int .i64 0, .slice none 0 0] 25) := ⟨_, rfl⟩; have HS5 := Aside0.mk (HS4.out.alloc (.cells #[.int .i64 0, .string ⟨#[]⟩, .string ⟨#[]⟩, .int .i64 0, .slice none 0 0] 25)); have HK5 := Aside0.mk (heap_alloc_new w4 (.cells #[.int .i64 0, .string ⟨#[]⟩, .string ⟨#[]⟩, .int .i64 0, .slice none 0 0] 25)); rw [← hW5] at HS5 HK5; obtain ⟨y0, y1, y2, y3, y4, yf⟩ := nd_block HK5.out; have HZ5 := Aside0.mk (storeNd_same HK5.out); clear hB4) | (go_at_call 61; refine (part_leaf w W5 base b s v1 tv lv bs nds vs HS5.out HA.out HLB.out HL.out 5 T).mono ?_; rintro e w7 ⟨rfl, u1, lv', vs', hu7, hR7, hF7⟩; have HR7 := Aside0.mk hR7; have HF7 := Aside0.mk hF7; have HU7 := Aside0.mk hu7; clear hR7 hF7 hu7)
    go_ret
    exact ⟨by rfl, u1, lv', vs', HU7.out, HR7.out, HF7.out⟩
  · obtain ⟨hb1, hb2⟩ := word_braces hw0
    have hwd : wordN u = k := by rw [← hk]; unfold nameK; rw [if_pos hw0]
    have HW : Aside0 (u.extract 0 (wordN u) = T) := ⟨by rw [← hT]; unfold nameT; rw [if_pos hw0]⟩
    have HB : Aside0 (u.extract 1 (braceN u + 1) = ⟨#[]⟩) := ⟨by rw [hb1]; exact ext_nil _ _ _ (Nat.le_refl _)⟩
    have hTs : T.size = k := by rw [← HW.out, size_ext _ _ _ (by omega), hwd]; omega
    have hTe : T.toList.isEmpty = false := isEmpty_no (by omega)
    clear R0 ha hs hlb hlen hkl hm hrz hpl hr hb1 hb2 hw0 hk0 hk hT hwd
    go_enter Tryz.func23, Tryz.ntmps23
    go_wp2_with first | (rw [← hW5]; clear hW5) | (rw [HZ5.out]; clear HZ5) | (go_at_call 57; refine (wordAt_any _ _ HU.out).mono ?_; rintro e w2 ⟨rfl, hw⟩; rw [hw, HW.out]) | (go_at_call_of 58 (Value.string u); refine (pbraced_any _ _ HU.out).mono ?_; rintro e w2 ⟨rfl, hw⟩; rw [hw, HB.out]) | (go_at_call_of 58 (Value.string r); refine (pbraced_any _ _ HR.out).mono ?_; rintro e w2 ⟨rfl, hw⟩; rw [hw, HB2.out]) | (go_at_call 62; refine (tplace_any _ _ HR.out).mono ?_; rintro e w4 ⟨rfl, hB4⟩; rw [HP.out]; have HS4 := Aside0.mk (HS.out.below hB4); obtain ⟨W5, hW5⟩ : ∃ W5, W5 = w4.alloc (.cells #[.int .i64 0, .string ⟨#[]⟩, .string ⟨#[]⟩, .int .i64 0, .slice none 0 0] 25) := ⟨_, rfl⟩; have HS5 := Aside0.mk (HS4.out.alloc (.cells #[.int .i64 0, .string ⟨#[]⟩, .string ⟨#[]⟩, .int .i64 0, .slice none 0 0] 25)); have HK5 := Aside0.mk (heap_alloc_new w4 (.cells #[.int .i64 0, .string ⟨#[]⟩, .string ⟨#[]⟩, .int .i64 0, .slice none 0 0] 25)); rw [← hW5] at HS5 HK5; obtain ⟨y0, y1, y2, y3, y4, yf⟩ := nd_block HK5.out; have HZ5 := Aside0.mk (storeNd_same HK5.out); clear hB4) | (go_at_call 61; refine (part_leaf w W5 base b s v1 tv lv bs nds vs HS5.out HA.out HLB.out HL.out 5 T).mono ?_; rintro e w7 ⟨rfl, u1, lv', vs', hu7, hR7, hF7⟩; have HR7 := Aside0.mk hR7; have HF7 := Aside0.mk hF7; have HU7 := Aside0.mk hu7; clear hR7 hF7 hu7)
    go_ret
    exact ⟨by rfl, u1, lv', vs', HU7.out, HR7.out, HF7.out⟩

set_option maxHeartbeats 1000000 in
theorem tscalar_special (w : World) (base b : Nat) (s : ByteArray) (v1 tv lv : Value) (bs : List UInt8) (nds : List Nd) (vs : List Value) (R0 : RI w base b 54 s v1 tv bs lv nds vs) (ha : okA b v1) (hlb : bs.length ≤ 100000) (hlen : nds.length ≤ 90000) (u : ByteArray) (hs : u.size ≤ 1000000) (h0 : nameK u = 0) (hsp0 : special u = true) : Calls Tryz.prog 23 #[.pointer (some ⟨b, 0, none⟩), .string u] w fun e w' => e = .returned (.int .i64 (1 : Nat)) ∧ ∃ u1 lv' vs', okA b u1 ∧ RI w' base b 54 s u1 (.slice none 0 0) [] lv' (fl bs nds ++ [⟨5, u.extract 0 1, 0, []⟩]) vs' ∧ Fr w w' b tv lv (.slice none 0 0) lv' := by
  have HS := Aside0.mk (Rs.refl R0)
  have HA := Aside0.mk ha
  have HLB := Aside0.mk hlb
  have HL := Aside0.mk hlen
  have HU := Aside0.mk hs
  have hw0 : wordN u = 0 := by have h := h0; unfold nameK at h; split at h; exact absurd h (by assumption); rename_i h2; exact Classical.not_not.1 h2
  have hb0 : braceN u = 0 := by
    have h := h0; unfold nameK at h; rw [if_neg (fun h => h hw0)] at h; unfold braceK at h; split at h
    · assumption
    · exact absurd h (by omega)
  have HW : Aside0 (u.extract 0 (wordN u) = ⟨#[]⟩) := ⟨by rw [hw0]; exact ext_nil _ _ _ (Nat.le_refl _)⟩
  have HB : Aside0 (u.extract 1 (braceN u + 1) = ⟨#[]⟩) := ⟨by rw [hb0]; exact ext_nil _ _ _ (Nat.le_refl _)⟩
  have hu1 := special_pos hsp0
  have H1 : Aside0 ((u.extract 0 1).size = 1) := ⟨by rw [size_ext _ _ _ (by omega)]⟩
  have H1l : Aside0 ((u.extract 0 1).size ≤ 1000000) := ⟨by rw [H1.out]; decide⟩
  have hue : u.toList.isEmpty = false := isEmpty_no (by omega)
  have c4 : (1 : Int) ≤ (u.size : Int) := by omega
  have p0 : 0 < u.size := by omega
  have q0 : (0 : Int) < (u.size : Int) := by omega
  have b0 := bt_at u 0 p0
  have hb01 : bt (u.extract 0 1) 0 = bt u 0 := by rw [bt_ext _ _ _ _ (by omega)]
  have HSP : Aside0 (special (u.extract 0 1) = true) := ⟨by have h := hsp0; unfold special at h ⊢; rw [hb01]; exact h⟩
  have HAL : Aside0 ((alphaI (bt u 0) || (!true && digitI (bt u 0))) = false) := ⟨by rw [special_alpha hsp0]; rfl⟩
  have HWB : Aside0 (isWordB (u.extract 0 1) = false) := ⟨by
    cases h : isWordB (u.extract 0 1) with
    | false => rfl
    | true => have h2 := word_alpha h; rw [hb01, special_alpha hsp0] at h2; cases h2⟩
  clear R0 ha hlb hlen hs hw0 hb0 h0 hsp0 hu1 hb01
  go_enter Tryz.func23, Tryz.ntmps23
  go_wp2_with first | (go_at_call 57; refine (wordAt_any _ _ HU.out).mono ?_; rintro e w2 ⟨rfl, hw⟩; rw [hw, HW.out]) | (go_at_call_of 58 (Value.string u); refine (pbraced_any _ _ HU.out).mono ?_; rintro e w2 ⟨rfl, hw⟩; rw [hw, HB.out]) | (go_at_call 59; refine (isScalar_any _ _ H1.out HWB.out).mono ?_; rintro e w2 ⟨rfl, hw⟩; rw [hw, HSP.out]) | (go_at_call 60; refine (isWordByte_any _ _ _).mono ?_; rintro e w2 ⟨rfl, hw⟩; rw [hw, HAL.out]) | (go_at_call 61; refine (part_leaf w w base b s v1 tv lv bs nds vs HS.out HA.out HLB.out HL.out 5 (u.extract 0 1)).mono ?_; rintro e w7 ⟨rfl, u1, lv', vs', hu7, hR7, hF7⟩; have HR7 := Aside0.mk hR7; have HF7 := Aside0.mk hF7; have HU7 := Aside0.mk hu7; clear hR7 hF7 hu7)
  go_ret
  exact ⟨by rfl, u1, lv', vs', HU7.out, HR7.out, HF7.out⟩

set_option maxHeartbeats 1000000 in
theorem tscalar_no (w : World) (base b : Nat) (s : ByteArray) (v1 tv lv : Value) (bs : List UInt8) (nds : List Nd) (vs : List Value) (R0 : RI w base b 54 s v1 tv bs lv nds vs) (ha : okA b v1) (hlb : bs.length ≤ 100000) (hlen : nds.length ≤ 90000) (u : ByteArray) (hs : u.size ≤ 1000000) (h0 : nameK u = 0) (hsp0 : special u = false) : Calls Tryz.prog 23 #[.pointer (some ⟨b, 0, none⟩), .string u] w fun e w' => e = .returned (.int .i64 0) ∧ w' = w := by
  have HS := Aside0.mk (Rs.refl R0)
  have HA := Aside0.mk ha
  have HLB := Aside0.mk hlb
  have HL := Aside0.mk hlen
  have HU := Aside0.mk hs
  have hw0 : wordN u = 0 := by have h := h0; unfold nameK at h; split at h; exact absurd h (by assumption); rename_i h2; exact Classical.not_not.1 h2
  have hb0 : braceN u = 0 := by
    have h := h0; unfold nameK at h; rw [if_neg (fun h => h hw0)] at h; unfold braceK at h; split at h
    · assumption
    · exact absurd h (by omega)
  have HW : Aside0 (u.extract 0 (wordN u) = ⟨#[]⟩) := ⟨by rw [hw0]; exact ext_nil _ _ _ (Nat.le_refl _)⟩
  have HB : Aside0 (u.extract 1 (braceN u + 1) = ⟨#[]⟩) := ⟨by rw [hb0]; exact ext_nil _ _ _ (Nat.le_refl _)⟩
  by_cases hz : u.size = 0
  · have hue : u.toList.isEmpty = true := by rw [toList_nil.2 hz]; rfl
    clear R0 ha hlb hlen hs hw0 hb0 h0 hsp0 hz
    go_enter Tryz.func23, Tryz.ntmps23
    go_wp2_with first | (go_at_call 57; refine (wordAt_any _ _ HU.out).mono ?_; rintro e w2 ⟨rfl, hw⟩; rw [hw, HW.out]) | (go_at_call_of 58 (Value.string u); refine (pbraced_any _ _ HU.out).mono ?_; rintro e w2 ⟨rfl, hw⟩; rw [hw, HB.out])
    go_ret
    exact ⟨rfl, rfl⟩
  · have H1 : Aside0 ((u.extract 0 1).size = 1) := ⟨by rw [size_ext _ _ _ (by omega)]⟩
    have H1l : Aside0 ((u.extract 0 1).size ≤ 1000000) := ⟨by rw [H1.out]; decide⟩
    have hue : u.toList.isEmpty = false := isEmpty_no (by omega)
    have c4 : (1 : Int) ≤ (u.size : Int) := by omega
    have p0 : 0 < u.size := by omega
    have q0 : (0 : Int) < (u.size : Int) := by omega
    have b0 := bt_at u 0 p0
    have hb01 : bt (u.extract 0 1) 0 = bt u 0 := by rw [bt_ext _ _ _ _ (by omega)]
    cases hwb : isWordB (u.extract 0 1) with
    | true =>
      have HWB := Aside0.mk hwb
      have HAL : Aside0 ((alphaI (bt u 0) || (!true && digitI (bt u 0))) = true) := ⟨by have h := word_alpha hwb; rw [hb01] at h; rw [h]; rfl⟩
      clear R0 ha hlb hlen hs hw0 hb0 h0 hsp0 hz hb01 hwb
      go_enter Tryz.func23, Tryz.ntmps23
      go_wp2_with first | (go_at_call 57; refine (wordAt_any _ _ HU.out).mono ?_; rintro e w2 ⟨rfl, hw⟩; rw [hw, HW.out]) | (go_at_call_of 58 (Value.string u); refine (pbraced_any _ _ HU.out).mono ?_; rintro e w2 ⟨rfl, hw⟩; rw [hw, HB.out]) | (go_at_call 59; refine (isScalar_word _ _ H1l.out HWB.out).mono ?_; rintro e w2 ⟨rfl, hw⟩; rw [hw]) | (go_at_call 60; refine (isWordByte_any _ _ _).mono ?_; rintro e w2 ⟨rfl, hw⟩; rw [hw, HAL.out])
      go_ret
      exact ⟨rfl, rfl⟩
    | false =>
      have HWB := Aside0.mk hwb
      have HSP : Aside0 (special (u.extract 0 1) = false) := ⟨by have h := hsp0; unfold special at h ⊢; rw [hb01]; exact h⟩
      clear R0 ha hlb hlen hs hw0 hb0 h0 hsp0 hz hb01 hwb
      go_enter Tryz.func23, Tryz.ntmps23
      go_wp2_with first | (go_at_call 57; refine (wordAt_any _ _ HU.out).mono ?_; rintro e w2 ⟨rfl, hw⟩; rw [hw, HW.out]) | (go_at_call_of 58 (Value.string u); refine (pbraced_any _ _ HU.out).mono ?_; rintro e w2 ⟨rfl, hw⟩; rw [hw, HB.out]) | (go_at_call 59; refine (isScalar_any _ _ H1.out HWB.out).mono ?_; rintro e w2 ⟨rfl, hw⟩; rw [hw, HSP.out]) | (go_at_call 60; refine (isWordByte_any _ _ _).mono ?_; rintro e w2 ⟨rfl, hw⟩; rw [hw, HAL.out])
      go_ret
      exact ⟨rfl, rfl⟩

theorem tscalar_yes (w : World) (base b : Nat) (s : ByteArray) (v1 tv lv : Value) (bs : List UInt8) (nds : List Nd) (vs : List Value) (R0 : RI w base b 54 s v1 tv bs lv nds vs) (ha : okA b v1) (hlb : bs.length ≤ 100000) (hlen : nds.length ≤ 90000) (u : ByteArray) (hs : u.size ≤ 1000000) (j : Nat) (x : Nd) (hx : scalarOf u = (j, x)) (hj : j ≠ 0) : Calls Tryz.prog 23 #[.pointer (some ⟨b, 0, none⟩), .string u] w fun e w' => e = .returned (.int .i64 (j : Nat)) ∧ ∃ u1 lv' vs', okA b u1 ∧ RI w' base b 54 s u1 (.slice none 0 0) [] lv' (fl bs nds ++ [x]) vs' ∧ Fr w w' b tv lv (.slice none 0 0) lv' := by
  unfold scalarOf at hx
  split at hx
  · rename_i h0
    split at hx
    · rename_i h1
      obtain ⟨rfl, rfl⟩ := Prod.mk.inj hx
      exact tscalar_special w base b s v1 tv lv bs nds vs R0 ha hlb hlen u hs h0 h1
    · exact absurd (Prod.mk.inj hx).1.symm hj
  · rename_i h0
    split at hx
    · rename_i h1
      obtain ⟨rfl, rfl⟩ := Prod.mk.inj hx
      exact tscalar_place w base b s v1 tv lv bs nds vs R0 ha hlb hlen u hs (nameK u) (nameT u) rfl rfl h0 (restN u) rfl (placeOf (restN u)).1 (placeOf (restN u)).2 (by cases placeOf (restN u); rfl) h1
    · rename_i h1
      have hpl : placeOf (restN u) = (0, noLf) := place_zero (Classical.not_not.1 h1)
      split at hx
      · rename_i h2
        obtain ⟨rfl, rfl⟩ := Prod.mk.inj hx
        exact tscalar_key w base b s v1 tv lv bs nds vs R0 ha hlb hlen u hs (nameK u) (nameT u) rfl rfl h0 (restN u) rfl hpl (braceN (restN u)) rfl h2
      · rename_i h2
        obtain ⟨rfl, rfl⟩ := Prod.mk.inj hx
        exact tscalar_plain w base b s v1 tv lv bs nds vs R0 ha hlb hlen u hs (nameK u) (nameT u) rfl rfl h0 (restN u) rfl hpl (Classical.not_not.1 h2)
theorem scalar_none {u : ByteArray} (hx : (scalarOf u).1 = 0) : nameK u = 0 ∧ special u = false := by
  unfold scalarOf at hx
  split at hx
  · rename_i h0
    split at hx
    · exact absurd hx (show ¬ (1 : Nat) = 0 by decide)
    · rename_i h1
      exact ⟨h0, by cases h : special u with | false => rfl | true => exact absurd h h1⟩
  · rename_i h0
    split at hx
    · exact absurd (show nameK u + _ = 0 from hx) (by omega)
    · split at hx
      · exact absurd (show nameK u + _ = 0 from hx) (by omega)
      · exact absurd hx h0
theorem tscalar_none (w : World) (base b : Nat) (s : ByteArray) (v1 tv lv : Value) (bs : List UInt8) (nds : List Nd) (vs : List Value) (R0 : RI w base b 54 s v1 tv bs lv nds vs) (ha : okA b v1) (hlb : bs.length ≤ 100000) (hlen : nds.length ≤ 90000) (u : ByteArray) (hs : u.size ≤ 1000000) (hx : (scalarOf u).1 = 0) : Calls Tryz.prog 23 #[.pointer (some ⟨b, 0, none⟩), .string u] w fun e w' => e = .returned (.int .i64 0) ∧ w' = w :=
  tscalar_no w base b s v1 tv lv bs nds vs R0 ha hlb hlen u hs (scalar_none hx).1 (scalar_none hx).2
end Go.Proofs.YtmifmmpbmcfmpaaGreatDoor.IW
