/-
  What stands behind a dollar: the reference's method.
-/
import Derived.Test.YtmifmmpbmcfmpaaGreatDoorJn
set_option linter.unusedVariables false
set_option linter.unusedSimpArgs false
namespace Go.Proofs.YtmifmmpbmcfmpaaGreatDoor.IW
open Go Go.RowKit
set_option maxRecDepth 100000

theorem wr_q (n k q : Nat) (hq : q = n + 1 + k) (h : q ≤ 2000000) : wrap64 (1 + (k : Int)) = 1 + (k : Int) ∧ wrap64 ((n : Int) + (1 + (k : Int))) = (q : Int) := by
  subst hq; constructor <;> (unfold wrap64; omega)
theorem wr_p (n k q : Nat) (hq : q = n + k) (h : q ≤ 2000000) : wrap64 ((n : Int) + (k : Int)) = (q : Int) := by
  subst hq; unfold wrap64; omega
theorem ext_rest (s : ByteArray) (a b c : Nat) (h : c ≤ s.size - a) (hb : b = a + c) : (s.extract a s.size).extract c (s.extract a s.size).size = s.extract b s.size := by
  subst hb
  by_cases ha : a ≤ s.size
  · rw [size_ext _ _ _ (Nat.le_refl _), ext_ext _ _ _ _ _ (Nat.le_refl _), show a + (s.size - a) = s.size by omega]
  · rw [ext_nil s a s.size (by omega), ext_nil s (a + c) s.size (by omega), ext_nil ⟨#[]⟩ c (ByteArray.size ⟨#[]⟩) (Nat.zero_le _)]

theorem place_zero {s : ByteArray} (h : (placeOf s).1 = 0) : placeOf s = (0, noLf) := by
  unfold placeOf at h ⊢
  split
  · rename_i h1
    rw [if_pos h1] at h
    split
    · rename_i h2
      rw [if_pos h2] at h
      split
      · rename_i h3; rw [if_pos h3] at h; exact absurd h (by show ¬ (_ + 2 = 0); omega)
      · rfl
    · rename_i h2
      rw [if_neg h2] at h
      split
      · rename_i h3; rw [if_pos h3] at h; exact absurd h (by show ¬ (_ + 3 = 0); omega)
      · rfl
  · rfl

set_option maxHeartbeats 1000000 in
theorem rscalar_place (w : World) (base b : Nat) (s : ByteArray) (n : Nat) (tv lv : Value) (bs : List UInt8) (nds : List Nd) (vs : List Value) (R0 : RI w base b 48 s (.int .i64 n) tv bs lv nds vs) (hn : n + 1 ≤ s.size) (hs : s.size ≤ 1000000) (hlen : nds.length ≤ 90000) (u : ByteArray) (hu : s.extract (n + 1) s.size = u) (k : Nat) (T : ByteArray) (hk : nameK u = k) (hT : nameT u = T) (hk0 : k ≠ 0) (r : ByteArray) (hr : restN u = r) (j : Nat) (x : Lf) (hpl : placeOf r = (j, x)) (hj : j ≠ 0) : Calls Tryz.prog 19 #[.pointer (some ⟨b, 0, none⟩)] w fun e w' => e = .returned (.bool true) ∧ ∃ lv' vs', RI w' base b 48 s (.int .i64 (n + 1 + (k + j) : Nat)) (.slice none 0 0) [] lv' (fl bs nds ++ [⟨8, ⟨#[]⟩, 0, [⟨6, T, 0⟩, x]⟩]) vs' ∧ Fr w w' b tv lv (.slice none 0 0) lv' := by
  have HS := Aside0.mk (Rs.refl R0)
  obtain ⟨x0, x1, x2, x3, xf⟩ := R0.cell
  have p1 : (0 : Int) ≤ (n : Int) + 1 := by omega
  have p2 : (n : Int) + 1 ≤ (s.size : Int) := by omega
  have HN := Aside0.mk hn
  have HM := Aside0.mk hs
  have HL := Aside0.mk hlen
  have HU : Aside0 (u.size ≤ 1000000) := ⟨by rw [← hu, size_ext _ _ _ (Nat.le_refl _)]; omega⟩
  have hus : u.size = s.size - (n + 1) := by rw [← hu]; exact size_ext _ _ _ (Nat.le_refl _)
  have T1 := Aside0.mk trivial
  obtain ⟨q, hq⟩ : ∃ q, q = n + 1 + k := ⟨_, rfl⟩
  have hkl := nameK_le u
  rw [hk, hus] at hkl
  have hrs : r = s.extract q s.size := by rw [← hr, restN, hk, ← hu]; exact ext_rest s _ _ _ (by omega) hq
  have hrz : r.size = s.size - q := by rw [hrs]; exact size_ext _ _ _ (Nat.le_refl _)
  have HRS := Aside0.mk hrs
  have HR : Aside0 (r.size ≤ 1000000) := ⟨by omega⟩
  have HQ : Aside0 (q ≤ s.size) := ⟨by omega⟩
  have d1 : ((k : Int) == 0) = false := by rw [beq_eq_false_iff_ne]; omega
  have d2 : decide ((k : Int) = 0) = false := decide_eq_false (by omega)
  have d3 : decide (k = 0) = false := decide_eq_false hk0
  have d4 : (0 : Int) ≤ (k : Int) := by omega
  have d5 : (k : Int) ≤ (u.size : Int) := by omega
  have b1 : n + 1 ≤ 2000000 := by omega
  have b2 : q ≤ 2000000 := by omega
  have hjl := placeOf_le r
  rw [hpl, hrz] at hjl
  replace hjl : j ≤ s.size - q := hjl
  have e1 : decide ((j : Int) > 0) = true := decide_eq_true (by omega)
  have e2 : decide (0 < j) = true := decide_eq_true (by omega)
  obtain ⟨q2, hq2⟩ : ∃ q2, q2 = q + j := ⟨_, rfl⟩
  have HP := Aside0.mk (PlR_yes hpl)
  have HE := Aside0.mk (show q2 = n + 1 + (k + j) by omega)
  have b3 : q2 ≤ 2000000 := by have := HQ.out; omega
  have wr1 := wrA (K := 1) n 1 rfl b1
  obtain ⟨wr2, wr3⟩ := wr_q n k q hq b2
  have wr4 := wr_p q j q2 hq2 b3
  by_cases hw0 : wordN u = 0
  · have hbn : braceN u ≠ 0 := by intro h; apply hk0; rw [← hk]; unfold nameK braceK; rw [if_neg (fun h => h hw0), if_pos h]
    have HBR : Aside0 ((Value.tuple #[.string (u.extract 1 (braceN u + 1)), .int .i64 (braceK u : Nat)]) = .tuple #[.string T, .int .i64 k]) := ⟨by
      rw [← hk, ← hT]; unfold nameK nameT; rw [if_neg (fun h => h hw0), if_neg (fun h => h hw0)]⟩
    clear b1 b2 b3 R0 hn hs hlen hus hkl hj hjl hrz hpl hq hq2 hr hrs hbn hw0 hk0 hk hT
    go_enter Tryz.func19, Tryz.ntmps19
    go_wp2
    go_quiet (fail)
    go_wp2_with first | (rw [← hW5]; clear hW5) | (rw [← hW6]; clear hW6) | (go_at_call_of 49 (Value.string u); refine (rbraced_any _ _ HU.out).mono ?_; rintro e w2 ⟨rfl, hw⟩; rw [hw, HBR.out]) | (go_at_call_of 49 (Value.string r); refine (rbraced_any _ _ HR.out).mono ?_; rintro e w2 ⟨rfl, hw⟩; rw [hw, HBR2.out]) | (go_at_call 54; first | (clear T1; refine (rest_any _ base b s q tv lv bs nds vs ((HS.out.drewN nq).set (.int .i64 q)).R HQ.out).mono ?_; rintro e w3 ⟨rfl, m3, hw3⟩; rw [← HRS.out]; have HS3 := Aside0.mk (((HS.out.drewN nq).set (.int .i64 q)).drewN m3); rw [← hw3] at HS3; clear hw3 x0 x1 x2 x3 xf) | fail) | (go_at_call 53; refine (rplace_any _ _ HR.out).mono ?_; rintro e w4 ⟨rfl, hB4⟩; rw [HP.out]; have HS4 := Aside0.mk (HS3.out.below hB4); obtain ⟨W5, hW5⟩ : ∃ W5, W5 = w4.alloc (.cells #[.int .i64 x.op, .string x.s, .string ⟨#[]⟩, .int .i64 x.n, .slice none 0 0] 25) := ⟨_, rfl⟩; have HS5 := Aside0.mk (HS4.out.alloc (.cells #[.int .i64 x.op, .string x.s, .string ⟨#[]⟩, .int .i64 x.n, .slice none 0 0] 25)); have HK5 := Aside0.mk (heap_alloc_new w4 (.cells #[.int .i64 x.op, .string x.s, .string ⟨#[]⟩, .int .i64 x.n, .slice none 0 0] 25)); rw [← hW5] at HS5 HK5; obtain ⟨x0, x1, x2, x3, xf⟩ := HS5.out.R.cell; have hbw := (Array.getElem?_eq_some_iff.1 HS4.out.R.blk).1; obtain ⟨W6, hW6⟩ : ∃ W6, W6 = W5.setCell ⟨b, 1, none⟩ (.int .i64 q2) := ⟨_, rfl⟩; have HS6 := Aside0.mk (HS5.out.set (.int .i64 q2)); have HK6 := Aside0.mk ((heap_other (w := W5) (a := ⟨b, 1, none⟩) (v := .int .i64 q2) (k := w4.heap.size) (show w4.heap.size ≠ b by omega)).trans HK5.out); rw [← hW6] at HS6 HK6; obtain ⟨y0, y1, y2, y3, y4, yf⟩ := nd_block HK6.out; clear hbw; clear hB4) | (go_at_call 52; refine (put_pair w W6 base b s (.int .i64 q2) tv lv bs nds vs HS6.out HL.out 8 ⟨6, T, 0⟩ x).mono ?_; rintro e w7 ⟨rfl, lv', vs', hR7, hF7⟩; have HR7 := Aside0.mk hR7; have HF7 := Aside0.mk hF7; clear hR7 hF7)
    go_ret
    exact ⟨rfl, lv', vs', by rw [← HE.out]; exact HR7.out, HF7.out⟩
  · obtain ⟨hb1, hb2⟩ := word_braces hw0
    have HBR : Aside0 ((Value.tuple #[.string (u.extract 1 (braceN u + 1)), .int .i64 (braceK u : Nat)]) = .tuple #[.string ⟨#[]⟩, .int .i64 0]) := ⟨by rw [hb1, hb2, ext_nil _ _ _ (Nat.le_refl _)]; rfl⟩
    have hwd : wordN u = k := by rw [← hk]; unfold nameK; rw [if_pos hw0]
    have hTx : u.extract 0 k = T := by rw [← hT]; unfold nameT; rw [if_pos hw0, hwd]
    clear b1 b2 b3 R0 hn hs hlen hus hkl hj hjl hrz hpl hq hq2 hr hrs hb1 hb2 hw0 hk0 hk hT
    go_enter Tryz.func19, Tryz.ntmps19
    go_wp2
    go_quiet (fail)
    go_wp2_with first | (rw [← hW5]; clear hW5) | (rw [← hW6]; clear hW6) | (go_at_call_of 49 (Value.string u); refine (rbraced_any _ _ HU.out).mono ?_; rintro e w2 ⟨rfl, hw⟩; rw [hw, HBR.out]) | (go_at_call_of 49 (Value.string r); refine (rbraced_any _ _ HR.out).mono ?_; rintro e w2 ⟨rfl, hw⟩; rw [hw, HBR2.out]) | (go_at_call 54; first | (clear T1; refine (rest_any _ base b s q tv lv bs nds vs ((HS.out.drewN nq).set (.int .i64 q)).R HQ.out).mono ?_; rintro e w3 ⟨rfl, m3, hw3⟩; rw [← HRS.out]; have HS3 := Aside0.mk (((HS.out.drewN nq).set (.int .i64 q)).drewN m3); rw [← hw3] at HS3; clear hw3 x0 x1 x2 x3 xf) | fail) | (go_at_call 53; refine (rplace_any _ _ HR.out).mono ?_; rintro e w4 ⟨rfl, hB4⟩; rw [HP.out]; have HS4 := Aside0.mk (HS3.out.below hB4); obtain ⟨W5, hW5⟩ : ∃ W5, W5 = w4.alloc (.cells #[.int .i64 x.op, .string x.s, .string ⟨#[]⟩, .int .i64 x.n, .slice none 0 0] 25) := ⟨_, rfl⟩; have HS5 := Aside0.mk (HS4.out.alloc (.cells #[.int .i64 x.op, .string x.s, .string ⟨#[]⟩, .int .i64 x.n, .slice none 0 0] 25)); have HK5 := Aside0.mk (heap_alloc_new w4 (.cells #[.int .i64 x.op, .string x.s, .string ⟨#[]⟩, .int .i64 x.n, .slice none 0 0] 25)); rw [← hW5] at HS5 HK5; obtain ⟨x0, x1, x2, x3, xf⟩ := HS5.out.R.cell; have hbw := (Array.getElem?_eq_some_iff.1 HS4.out.R.blk).1; obtain ⟨W6, hW6⟩ : ∃ W6, W6 = W5.setCell ⟨b, 1, none⟩ (.int .i64 q2) := ⟨_, rfl⟩; have HS6 := Aside0.mk (HS5.out.set (.int .i64 q2)); have HK6 := Aside0.mk ((heap_other (w := W5) (a := ⟨b, 1, none⟩) (v := .int .i64 q2) (k := w4.heap.size) (show w4.heap.size ≠ b by omega)).trans HK5.out); rw [← hW6] at HS6 HK6; obtain ⟨y0, y1, y2, y3, y4, yf⟩ := nd_block HK6.out; clear hbw; clear hB4) | (go_at_call 52; refine (put_pair w W6 base b s (.int .i64 q2) tv lv bs nds vs HS6.out HL.out 8 ⟨6, T, 0⟩ x).mono ?_; rintro e w7 ⟨rfl, lv', vs', hR7, hF7⟩; have HR7 := Aside0.mk hR7; have HF7 := Aside0.mk hF7; clear hR7 hF7) | (go_at_call 50; refine (word_any _ _ HU.out).mono ?_; rintro e w2 ⟨rfl, hw⟩; rw [hw, hwd])
    go_ret
    exact ⟨rfl, lv', vs', by rw [← HE.out]; exact HR7.out, HF7.out⟩

set_option maxHeartbeats 1000000 in
theorem rscalar_key (w : World) (base b : Nat) (s : ByteArray) (n : Nat) (tv lv : Value) (bs : List UInt8) (nds : List Nd) (vs : List Value) (R0 : RI w base b 48 s (.int .i64 n) tv bs lv nds vs) (hn : n + 1 ≤ s.size) (hs : s.size ≤ 1000000) (hlen : nds.length ≤ 90000) (u : ByteArray) (hu : s.extract (n + 1) s.size = u) (k : Nat) (T : ByteArray) (hk : nameK u = k) (hT : nameT u = T) (hk0 : k ≠ 0) (r : ByteArray) (hr : restN u = r) (hpl : placeOf r = (0, noLf)) (m : Nat) (hm : braceN r = m) (hm0 : m ≠ 0) : Calls Tryz.prog 19 #[.pointer (some ⟨b, 0, none⟩)] w fun e w' => e = .returned (.bool true) ∧ ∃ lv' vs', RI w' base b 48 s (.int .i64 (n + 1 + (k + (m + 2)) : Nat)) (.slice none 0 0) [] lv' (fl bs nds ++ [⟨9, ⟨#[]⟩, 0, [⟨7, T, 0⟩, ⟨2, r.extract 1 (m + 1), 0⟩]⟩]) vs' ∧ Fr w w' b tv lv (.slice none 0 0) lv' := by
  have HS := Aside0.mk (Rs.refl R0)
  obtain ⟨x0, x1, x2, x3, xf⟩ := R0.cell
  have p1 : (0 : Int) ≤ (n : Int) + 1 := by omega
  have p2 : (n : Int) + 1 ≤ (s.size : Int) := by omega
  have HN := Aside0.mk hn
  have HM := Aside0.mk hs
  have HL := Aside0.mk hlen
  have HU : Aside0 (u.size ≤ 1000000) := ⟨by rw [← hu, size_ext _ _ _ (Nat.le_refl _)]; omega⟩
  have hus : u.size = s.size - (n + 1) := by rw [← hu]; exact size_ext _ _ _ (Nat.le_refl _)
  have T1 := Aside0.mk trivial
  obtain ⟨q, hq⟩ : ∃ q, q = n + 1 + k := ⟨_, rfl⟩
  have hkl := nameK_le u
  rw [hk, hus] at hkl
  have hrs : r = s.extract q s.size := by rw [← hr, restN, hk, ← hu]; exact ext_rest s _ _ _ (by omega) hq
  have hrz : r.size = s.size - q := by rw [hrs]; exact size_ext _ _ _ (Nat.le_refl _)
  have HRS := Aside0.mk hrs
  have HR : Aside0 (r.size ≤ 1000000) := ⟨by omega⟩
  have HQ : Aside0 (q ≤ s.size) := ⟨by omega⟩
  have d1 : ((k : Int) == 0) = false := by rw [beq_eq_false_iff_ne]; omega
  have d2 : decide ((k : Int) = 0) = false := decide_eq_false (by omega)
  have d3 : decide (k = 0) = false := decide_eq_false hk0
  have d4 : (0 : Int) ≤ (k : Int) := by omega
  have d5 : (k : Int) ≤ (u.size : Int) := by omega
  have b1 : n + 1 ≤ 2000000 := by omega
  have b2 : q ≤ 2000000 := by omega
  have hml := (braceN_le r (by rw [hm]; exact hm0)).1
  rw [hm, hrz] at hml
  obtain ⟨j, hj⟩ : ∃ j, j = m + 2 := ⟨_, rfl⟩
  have e1 : decide ((j : Int) > 0) = true := decide_eq_true (by omega)
  have e2 : decide (0 < j) = true := decide_eq_true (by omega)
  obtain ⟨q2, hq2⟩ : ∃ q2, q2 = q + j := ⟨_, rfl⟩
  have HP := Aside0.mk (PlR_no hpl)
  have HE := Aside0.mk (show q2 = n + 1 + (k + (m + 2)) by omega)
  have HBR2 : Aside0 ((Value.tuple #[.string (r.extract 1 (braceN r + 1)), .int .i64 (braceK r : Nat)]) = .tuple #[.string (r.extract 1 (m + 1)), .int .i64 j]) := ⟨by unfold braceK; rw [hm, if_neg hm0, hj]⟩
  have b3 : q2 ≤ 2000000 := by have := HQ.out; omega
  have wr1 := wrA (K := 1) n 1 rfl b1
  obtain ⟨wr2, wr3⟩ := wr_q n k q hq b2
  have wr4 := wr_p q j q2 hq2 b3
  by_cases hw0 : wordN u = 0
  · have hbn : braceN u ≠ 0 := by intro h; apply hk0; rw [← hk]; unfold nameK braceK; rw [if_neg (fun h => h hw0), if_pos h]
    have HBR : Aside0 ((Value.tuple #[.string (u.extract 1 (braceN u + 1)), .int .i64 (braceK u : Nat)]) = .tuple #[.string T, .int .i64 k]) := ⟨by
      rw [← hk, ← hT]; unfold nameK nameT; rw [if_neg (fun h => h hw0), if_neg (fun h => h hw0)]⟩
    clear b1 b2 b3 R0 hn hs hlen hus hkl hj hml hm hm0 hrz hpl hq hq2 hr hrs hbn hw0 hk0 hk hT
    go_enter Tryz.func19, Tryz.ntmps19
    go_wp2
    go_quiet (fail)
    go_wp2_with first | (rw [← hW5]; clear hW5) | (rw [HZ5.out]; clear HZ5) | (rw [← hW9]; clear hW9) | (go_at_call_of 49 (Value.string u); refine (rbraced_any _ _ HU.out).mono ?_; rintro e w2 ⟨rfl, hw⟩; rw [hw, HBR.out]) | (go_at_call_of 49 (Value.string r); refine (rbraced_any _ _ HR.out).mono ?_; rintro e w2 ⟨rfl, hw⟩; rw [hw, HBR2.out]) | (go_at_call 54; first | (clear T1; refine (rest_any _ base b s q tv lv bs nds vs ((HS.out.drewN nq).set (.int .i64 q)).R HQ.out).mono ?_; rintro e w3 ⟨rfl, m3, hw3⟩; rw [← HRS.out]; have HS3 := Aside0.mk (((HS.out.drewN nq).set (.int .i64 q)).drewN m3); rw [← hw3] at HS3; clear hw3 x0 x1 x2 x3 xf) | (refine (rest_any _ base b s q tv lv bs nds vs HS5.out.R HQ.out).mono ?_; rintro e w8 ⟨rfl, m8, hw8⟩; rw [← HRS.out]; have HS8 := Aside0.mk (HS5.out.drewN m8); rw [← hw8] at HS8; clear hw8 x0 x1 x2 x3 xf; obtain ⟨x0, x1, x2, x3, xf⟩ := HS8.out.R.cell; obtain ⟨W9, hW9⟩ : ∃ W9, W9 = w8.setCell ⟨b, 1, none⟩ (.int .i64 q2) := ⟨_, rfl⟩; have HS9 := Aside0.mk (HS8.out.set (.int .i64 q2)); rw [← hW9] at HS9)) | (go_at_call 53; refine (rplace_any _ _ HR.out).mono ?_; rintro e w4 ⟨rfl, hB4⟩; rw [HP.out]; have HS4 := Aside0.mk (HS3.out.below hB4); obtain ⟨W5, hW5⟩ : ∃ W5, W5 = w4.alloc (.cells #[.int .i64 0, .string ⟨#[]⟩, .string ⟨#[]⟩, .int .i64 0, .slice none 0 0] 25) := ⟨_, rfl⟩; have HS5 := Aside0.mk (HS4.out.alloc (.cells #[.int .i64 0, .string ⟨#[]⟩, .string ⟨#[]⟩, .int .i64 0, .slice none 0 0] 25)); have HK5 := Aside0.mk (heap_alloc_new w4 (.cells #[.int .i64 0, .string ⟨#[]⟩, .string ⟨#[]⟩, .int .i64 0, .slice none 0 0] 25)); rw [← hW5] at HS5 HK5; obtain ⟨x0, x1, x2, x3, xf⟩ := HS5.out.R.cell; obtain ⟨y0, y1, y2, y3, y4, yf⟩ := nd_block HK5.out; have HZ5 := Aside0.mk (storeNd_same HK5.out); clear hB4) | (go_at_call 52; refine (put_pair w W9 base b s (.int .i64 q2) tv lv bs nds vs HS9.out HL.out 9 ⟨7, T, 0⟩ ⟨2, r.extract 1 (m + 1), 0⟩).mono ?_; rintro e w7 ⟨rfl, lv', vs', hR7, hF7⟩; have HR7 := Aside0.mk hR7; have HF7 := Aside0.mk hF7; clear hR7 hF7)
    go_ret
    exact ⟨rfl, lv', vs', by rw [← HE.out]; exact HR7.out, HF7.out⟩
  · obtain ⟨hb1, hb2⟩ := word_braces hw0
    have HBR : Aside0 ((Value.tuple #[.string (u.extract 1 (braceN u + 1)), .int .i64 (braceK u : Nat)]) = .tuple #[.string ⟨#[]⟩, .int .i64 0]) := ⟨by rw [hb1, hb2, ext_nil _ _ _ (Nat.le_refl _)]; rfl⟩
    have hwd : wordN u = k := by rw [← hk]; unfold nameK; rw [if_pos hw0]
    have hTx : u.extract 0 k = T := by rw [← hT]; unfold nameT; rw [if_pos hw0, hwd]
    clear b1 b2 b3 R0 hn hs hlen hus hkl hj hml hm hm0 hrz hpl hq hq2 hr hrs hb1 hb2 hw0 hk0 hk hT
    go_enter Tryz.func19, Tryz.ntmps19
    go_wp2
    go_quiet (fail)
    go_wp2_with first | (rw [← hW5]; clear hW5) | (rw [HZ5.out]; clear HZ5) | (rw [← hW9]; clear hW9) | (go_at_call_of 49 (Value.string u); refine (rbraced_any _ _ HU.out).mono ?_; rintro e w2 ⟨rfl, hw⟩; rw [hw, HBR.out]) | (go_at_call_of 49 (Value.string r); refine (rbraced_any _ _ HR.out).mono ?_; rintro e w2 ⟨rfl, hw⟩; rw [hw, HBR2.out]) | (go_at_call 54; first | (clear T1; refine (rest_any _ base b s q tv lv bs nds vs ((HS.out.drewN nq).set (.int .i64 q)).R HQ.out).mono ?_; rintro e w3 ⟨rfl, m3, hw3⟩; rw [← HRS.out]; have HS3 := Aside0.mk (((HS.out.drewN nq).set (.int .i64 q)).drewN m3); rw [← hw3] at HS3; clear hw3 x0 x1 x2 x3 xf) | (refine (rest_any _ base b s q tv lv bs nds vs HS5.out.R HQ.out).mono ?_; rintro e w8 ⟨rfl, m8, hw8⟩; rw [← HRS.out]; have HS8 := Aside0.mk (HS5.out.drewN m8); rw [← hw8] at HS8; clear hw8 x0 x1 x2 x3 xf; obtain ⟨x0, x1, x2, x3, xf⟩ := HS8.out.R.cell; obtain ⟨W9, hW9⟩ : ∃ W9, W9 = w8.setCell ⟨b, 1, none⟩ (.int .i64 q2) := ⟨_, rfl⟩; have HS9 := Aside0.mk (HS8.out.set (.int .i64 q2)); rw [← hW9] at HS9)) | (go_at_call 53; refine (rplace_any _ _ HR.out).mono ?_; rintro e w4 ⟨rfl, hB4⟩; rw [HP.out]; have HS4 := Aside0.mk (HS3.out.below hB4); obtain ⟨W5, hW5⟩ : ∃ W5, W5 = w4.alloc (.cells #[.int .i64 0, .string ⟨#[]⟩, .string ⟨#[]⟩, .int .i64 0, .slice none 0 0] 25) := ⟨_, rfl⟩; have HS5 := Aside0.mk (HS4.out.alloc (.cells #[.int .i64 0, .string ⟨#[]⟩, .string ⟨#[]⟩, .int .i64 0, .slice none 0 0] 25)); have HK5 := Aside0.mk (heap_alloc_new w4 (.cells #[.int .i64 0, .string ⟨#[]⟩, .string ⟨#[]⟩, .int .i64 0, .slice none 0 0] 25)); rw [← hW5] at HS5 HK5; obtain ⟨x0, x1, x2, x3, xf⟩ := HS5.out.R.cell; obtain ⟨y0, y1, y2, y3, y4, yf⟩ := nd_block HK5.out; have HZ5 := Aside0.mk (storeNd_same HK5.out); clear hB4) | (go_at_call 52; refine (put_pair w W9 base b s (.int .i64 q2) tv lv bs nds vs HS9.out HL.out 9 ⟨7, T, 0⟩ ⟨2, r.extract 1 (m + 1), 0⟩).mono ?_; rintro e w7 ⟨rfl, lv', vs', hR7, hF7⟩; have HR7 := Aside0.mk hR7; have HF7 := Aside0.mk hF7; clear hR7 hF7) | (go_at_call 50; refine (word_any _ _ HU.out).mono ?_; rintro e w2 ⟨rfl, hw⟩; rw [hw, hwd])
    go_ret
    exact ⟨rfl, lv', vs', by rw [← HE.out]; exact HR7.out, HF7.out⟩

set_option maxHeartbeats 1000000 in
theorem rscalar_plain (w : World) (base b : Nat) (s : ByteArray) (n : Nat) (tv lv : Value) (bs : List UInt8) (nds : List Nd) (vs : List Value) (R0 : RI w base b 48 s (.int .i64 n) tv bs lv nds vs) (hn : n + 1 ≤ s.size) (hs : s.size ≤ 1000000) (hlen : nds.length ≤ 90000) (u : ByteArray) (hu : s.extract (n + 1) s.size = u) (k : Nat) (T : ByteArray) (hk : nameK u = k) (hT : nameT u = T) (hk0 : k ≠ 0) (r : ByteArray) (hr : restN u = r) (hpl : placeOf r = (0, noLf)) (hm : braceN r = 0) : Calls Tryz.prog 19 #[.pointer (some ⟨b, 0, none⟩)] w fun e w' => e = .returned (.bool true) ∧ ∃ lv' vs', RI w' base b 48 s (.int .i64 (n + 1 + k : Nat)) (.slice none 0 0) [] lv' (fl bs nds ++ [⟨5, T, 0, []⟩]) vs' ∧ Fr w w' b tv lv (.slice none 0 0) lv' := by
  have HS := Aside0.mk (Rs.refl R0)
  obtain ⟨x0, x1, x2, x3, xf⟩ := R0.cell
  have p1 : (0 : Int) ≤ (n : Int) + 1 := by omega
  have p2 : (n : Int) + 1 ≤ (s.size : Int) := by omega
  have HN := Aside0.mk hn
  have HM := Aside0.mk hs
  have HL := Aside0.mk hlen
  have HU : Aside0 (u.size ≤ 1000000) := ⟨by rw [← hu, size_ext _ _ _ (Nat.le_refl _)]; omega⟩
  have hus : u.size = s.size - (n + 1) := by rw [← hu]; exact size_ext _ _ _ (Nat.le_refl _)
  have T1 := Aside0.mk trivial
  obtain ⟨q, hq⟩ : ∃ q, q = n + 1 + k := ⟨_, rfl⟩
  have hkl := nameK_le u
  rw [hk, hus] at hkl
  have hrs : r = s.extract q s.size := by rw [← hr, restN, hk, ← hu]; exact ext_rest s _ _ _ (by omega) hq
  have hrz : r.size = s.size - q := by rw [hrs]; exact size_ext _ _ _ (Nat.le_refl _)
  have HRS := Aside0.mk hrs
  have HR : Aside0 (r.size ≤ 1000000) := ⟨by omega⟩
  have HQ : Aside0 (q ≤ s.size) := ⟨by omega⟩
  have d1 : ((k : Int) == 0) = false := by rw [beq_eq_false_iff_ne]; omega
  have d2 : decide ((k : Int) = 0) = false := decide_eq_false (by omega)
  have d3 : decide (k = 0) = false := decide_eq_false hk0
  have d4 : (0 : Int) ≤ (k : Int) := by omega
  have d5 : (k : Int) ≤ (u.size : Int) := by omega
  have b1 : n + 1 ≤ 2000000 := by omega
  have b2 : q ≤ 2000000 := by omega
  have HP := Aside0.mk (PlR_no hpl)
  have HE := Aside0.mk (show q = n + 1 + k by omega)
  have HBR2 : Aside0 ((Value.tuple #[.string (r.extract 1 (braceN r + 1)), .int .i64 (braceK r : Nat)]) = .tuple #[.string ⟨#[]⟩, .int .i64 0]) := ⟨by unfold braceK; rw [hm, if_pos rfl, ext_nil _ _ _ (Nat.le_refl _)]; rfl⟩
  have wr1 := wrA (K := 1) n 1 rfl b1
  obtain ⟨wr2, wr3⟩ := wr_q n k q hq b2
  by_cases hw0 : wordN u = 0
  · have hbn : braceN u ≠ 0 := by intro h; apply hk0; rw [← hk]; unfold nameK braceK; rw [if_neg (fun h => h hw0), if_pos h]
    have HBR : Aside0 ((Value.tuple #[.string (u.extract 1 (braceN u + 1)), .int .i64 (braceK u : Nat)]) = .tuple #[.string T, .int .i64 k]) := ⟨by
      rw [← hk, ← hT]; unfold nameK nameT; rw [if_neg (fun h => h hw0), if_neg (fun h => h hw0)]⟩
    clear b1 b2 R0 hn hs hlen hus hkl hm hrz hpl hq hr hrs hbn hw0 hk0 hk hT
    go_enter Tryz.func19, Tryz.ntmps19
    go_wp2
    go_quiet (fail)
    go_wp2_with first | (rw [← hW5]; clear hW5) | (rw [HZ5.out]; clear HZ5) | (go_at_call_of 49 (Value.string u); refine (rbraced_any _ _ HU.out).mono ?_; rintro e w2 ⟨rfl, hw⟩; rw [hw, HBR.out]) | (go_at_call_of 49 (Value.string r); refine (rbraced_any _ _ HR.out).mono ?_; rintro e w2 ⟨rfl, hw⟩; rw [hw, HBR2.out]) | (go_at_call 54; first | (clear T1; refine (rest_any _ base b s q tv lv bs nds vs ((HS.out.drewN nq).set (.int .i64 q)).R HQ.out).mono ?_; rintro e w3 ⟨rfl, m3, hw3⟩; rw [← HRS.out]; have HS3 := Aside0.mk (((HS.out.drewN nq).set (.int .i64 q)).drewN m3); rw [← hw3] at HS3; clear hw3 x0 x1 x2 x3 xf) | (refine (rest_any _ base b s q tv lv bs nds vs HS5.out.R HQ.out).mono ?_; rintro e w8 ⟨rfl, m8, hw8⟩; rw [← HRS.out]; have HS8 := Aside0.mk (HS5.out.drewN m8); rw [← hw8] at HS8; clear hw8 x0 x1 x2 x3 xf; obtain ⟨x0, x1, x2, x3, xf⟩ := HS8.out.R.cell)) | (go_at_call 53; refine (rplace_any _ _ HR.out).mono ?_; rintro e w4 ⟨rfl, hB4⟩; rw [HP.out]; have HS4 := Aside0.mk (HS3.out.below hB4); obtain ⟨W5, hW5⟩ : ∃ W5, W5 = w4.alloc (.cells #[.int .i64 0, .string ⟨#[]⟩, .string ⟨#[]⟩, .int .i64 0, .slice none 0 0] 25) := ⟨_, rfl⟩; have HS5 := Aside0.mk (HS4.out.alloc (.cells #[.int .i64 0, .string ⟨#[]⟩, .string ⟨#[]⟩, .int .i64 0, .slice none 0 0] 25)); have HK5 := Aside0.mk (heap_alloc_new w4 (.cells #[.int .i64 0, .string ⟨#[]⟩, .string ⟨#[]⟩, .int .i64 0, .slice none 0 0] 25)); rw [← hW5] at HS5 HK5; obtain ⟨x0, x1, x2, x3, xf⟩ := HS5.out.R.cell; obtain ⟨y0, y1, y2, y3, y4, yf⟩ := nd_block HK5.out; have HZ5 := Aside0.mk (storeNd_same HK5.out); clear hB4) | (go_at_call 52; refine (put_leaf w w8 base b s (.int .i64 q) tv lv bs nds vs HS8.out HL.out 5 T).mono ?_; rintro e w7 ⟨rfl, lv', vs', hR7, hF7⟩; have HR7 := Aside0.mk hR7; have HF7 := Aside0.mk hF7; clear hR7 hF7)
    go_ret
    exact ⟨rfl, lv', vs', by rw [← HE.out]; exact HR7.out, HF7.out⟩
  · obtain ⟨hb1, hb2⟩ := word_braces hw0
    have HBR : Aside0 ((Value.tuple #[.string (u.extract 1 (braceN u + 1)), .int .i64 (braceK u : Nat)]) = .tuple #[.string ⟨#[]⟩, .int .i64 0]) := ⟨by rw [hb1, hb2, ext_nil _ _ _ (Nat.le_refl _)]; rfl⟩
    have hwd : wordN u = k := by rw [← hk]; unfold nameK; rw [if_pos hw0]
    have hTx : u.extract 0 k = T := by rw [← hT]; unfold nameT; rw [if_pos hw0, hwd]
    clear b1 b2 R0 hn hs hlen hus hkl hm hrz hpl hq hr hrs hb1 hb2 hw0 hk0 hk hT
    go_enter Tryz.func19, Tryz.ntmps19
    go_wp2
    go_quiet (fail)
    go_wp2_with first | (rw [← hW5]; clear hW5) | (rw [HZ5.out]; clear HZ5) | (go_at_call_of 49 (Value.string u); refine (rbraced_any _ _ HU.out).mono ?_; rintro e w2 ⟨rfl, hw⟩; rw [hw, HBR.out]) | (go_at_call_of 49 (Value.string r); refine (rbraced_any _ _ HR.out).mono ?_; rintro e w2 ⟨rfl, hw⟩; rw [hw, HBR2.out]) | (go_at_call 54; first | (clear T1; refine (rest_any _ base b s q tv lv bs nds vs ((HS.out.drewN nq).set (.int .i64 q)).R HQ.out).mono ?_; rintro e w3 ⟨rfl, m3, hw3⟩; rw [← HRS.out]; have HS3 := Aside0.mk (((HS.out.drewN nq).set (.int .i64 q)).drewN m3); rw [← hw3] at HS3; clear hw3 x0 x1 x2 x3 xf) | (refine (rest_any _ base b s q tv lv bs nds vs HS5.out.R HQ.out).mono ?_; rintro e w8 ⟨rfl, m8, hw8⟩; rw [← HRS.out]; have HS8 := Aside0.mk (HS5.out.drewN m8); rw [← hw8] at HS8; clear hw8 x0 x1 x2 x3 xf; obtain ⟨x0, x1, x2, x3, xf⟩ := HS8.out.R.cell)) | (go_at_call 53; refine (rplace_any _ _ HR.out).mono ?_; rintro e w4 ⟨rfl, hB4⟩; rw [HP.out]; have HS4 := Aside0.mk (HS3.out.below hB4); obtain ⟨W5, hW5⟩ : ∃ W5, W5 = w4.alloc (.cells #[.int .i64 0, .string ⟨#[]⟩, .string ⟨#[]⟩, .int .i64 0, .slice none 0 0] 25) := ⟨_, rfl⟩; have HS5 := Aside0.mk (HS4.out.alloc (.cells #[.int .i64 0, .string ⟨#[]⟩, .string ⟨#[]⟩, .int .i64 0, .slice none 0 0] 25)); have HK5 := Aside0.mk (heap_alloc_new w4 (.cells #[.int .i64 0, .string ⟨#[]⟩, .string ⟨#[]⟩, .int .i64 0, .slice none 0 0] 25)); rw [← hW5] at HS5 HK5; obtain ⟨x0, x1, x2, x3, xf⟩ := HS5.out.R.cell; obtain ⟨y0, y1, y2, y3, y4, yf⟩ := nd_block HK5.out; have HZ5 := Aside0.mk (storeNd_same HK5.out); clear hB4) | (go_at_call 52; refine (put_leaf w w8 base b s (.int .i64 q) tv lv bs nds vs HS8.out HL.out 5 T).mono ?_; rintro e w7 ⟨rfl, lv', vs', hR7, hF7⟩; have HR7 := Aside0.mk hR7; have HF7 := Aside0.mk hF7; clear hR7 hF7) | (go_at_call 50; refine (word_any _ _ HU.out).mono ?_; rintro e w2 ⟨rfl, hw⟩; rw [hw, hwd])
    go_ret
    exact ⟨rfl, lv', vs', by rw [← HE.out]; exact HR7.out, HF7.out⟩

set_option maxHeartbeats 1000000 in
theorem rscalar_special (w : World) (base b : Nat) (s : ByteArray) (n : Nat) (tv lv : Value) (bs : List UInt8) (nds : List Nd) (vs : List Value) (R0 : RI w base b 48 s (.int .i64 n) tv bs lv nds vs) (hn : n + 1 ≤ s.size) (hs : s.size ≤ 1000000) (hlen : nds.length ≤ 90000) (u : ByteArray) (hu : s.extract (n + 1) s.size = u) (h0 : nameK u = 0) (hsp0 : special u = true) : Calls Tryz.prog 19 #[.pointer (some ⟨b, 0, none⟩)] w fun e w' => e = .returned (.bool true) ∧ ∃ lv' vs', RI w' base b 48 s (.int .i64 (n + 1 + 1 : Nat)) (.slice none 0 0) [] lv' (fl bs nds ++ [⟨5, u.extract 0 1, 0, []⟩]) vs' ∧ Fr w w' b tv lv (.slice none 0 0) lv' := by
  have HS := Aside0.mk (Rs.refl R0)
  obtain ⟨x0, x1, x2, x3, xf⟩ := R0.cell
  have p1 : (0 : Int) ≤ (n : Int) + 1 := by omega
  have p2 : (n : Int) + 1 ≤ (s.size : Int) := by omega
  have HN := Aside0.mk hn
  have HM := Aside0.mk hs
  have HL := Aside0.mk hlen
  have HU : Aside0 (u.size ≤ 1000000) := ⟨by rw [← hu, size_ext _ _ _ (Nat.le_refl _)]; omega⟩
  have hus : u.size = s.size - (n + 1) := by rw [← hu]; exact size_ext _ _ _ (Nat.le_refl _)
  have hw0 : wordN u = 0 := by have h := h0; unfold nameK at h; split at h; exact absurd h (by assumption); rename_i h2; exact Classical.not_not.1 h2
  have hb0 : braceN u = 0 := by
    have h := h0; unfold nameK at h; rw [if_neg (fun h => h hw0)] at h; unfold braceK at h; split at h
    · assumption
    · exact absurd h (by omega)
  have HBR : Aside0 ((Value.tuple #[.string (u.extract 1 (braceN u + 1)), .int .i64 (braceK u : Nat)]) = .tuple #[.string ⟨#[]⟩, .int .i64 0]) := ⟨by unfold braceK; rw [hb0, if_pos rfl, ext_nil _ _ _ (Nat.le_refl _)]; rfl⟩
  have hwd := hw0
  have hu1 := special_pos hsp0
  have H1 : Aside0 ((u.extract 0 1).size = 1) := ⟨by rw [size_ext _ _ _ (by omega)]⟩
  have hsp : special (u.extract 0 1) = true := by have h := hsp0; unfold special at h ⊢; rw [bt_ext _ _ _ _ (by omega)]; exact h
  have c1 : ((u.size : Int) == 0) = false := by rw [beq_eq_false_iff_ne]; omega
  have c2 : decide ((u.size : Int) = 0) = false := decide_eq_false (by omega)
  have c3 : decide (u.size = 0) = false := decide_eq_false (by omega)
  have c4 : (1 : Int) ≤ (u.size : Int) := by omega
  have b1 : n + 2 ≤ 2000000 := by omega
  have b2 : n + 1 ≤ 2000000 := by omega
  have wr1 := wrA (K := 1) n 1 rfl b2
  obtain ⟨q, hq⟩ : ∃ q, q = n + 2 := ⟨_, rfl⟩
  have wr2 : wrap64 ((n : Int) + 2) = (q : Int) := by rw [hq]; exact wrA (K := 2) n 2 rfl b1
  have HE := Aside0.mk (show q = n + 1 + 1 by omega)
  clear R0 hn hs hlen hus hw0 hb0 h0 hsp0 hu1 b1 b2 hq
  go_enter Tryz.func19, Tryz.ntmps19
  go_wp2
  go_quiet (fail)
  go_wp2_with first | (go_at_call_of 49 (Value.string u); refine (rbraced_any _ _ HU.out).mono ?_; rintro e w2 ⟨rfl, hw⟩; rw [hw, HBR.out]) | (go_at_call_of 49 (Value.string r); refine (rbraced_any _ _ HR.out).mono ?_; rintro e w2 ⟨rfl, hw⟩; rw [hw, HBR2.out]) | (go_at_call 50; refine (word_any _ _ HU.out).mono ?_; rintro e w2 ⟨rfl, hw⟩; rw [hw, hwd]) | (go_at_call 51; refine (isSpecial_any _ _ H1.out).mono ?_; rintro e w2 ⟨rfl, hw⟩; rw [hw, hsp]) | (go_at_call 52; refine (put_leaf w _ base b s (.int .i64 q) tv lv bs nds vs ((HS.out.drewN nq).set (.int .i64 q)) HL.out 5 (u.extract 0 1)).mono ?_; rintro e w7 ⟨rfl, lv', vs', hR7, hF7⟩; have HR7 := Aside0.mk hR7; have HF7 := Aside0.mk hF7; clear hR7 hF7)
  go_ret
  exact ⟨rfl, lv', vs', by rw [← HE.out]; exact HR7.out, HF7.out⟩

set_option maxHeartbeats 1000000 in
theorem rscalar_no (w : World) (base b : Nat) (s : ByteArray) (n : Nat) (tv lv : Value) (bs : List UInt8) (nds : List Nd) (vs : List Value) (R0 : RI w base b 48 s (.int .i64 n) tv bs lv nds vs) (hn : n + 1 ≤ s.size) (hs : s.size ≤ 1000000) (hlen : nds.length ≤ 90000) (u : ByteArray) (hu : s.extract (n + 1) s.size = u) (h0 : nameK u = 0) (hsp0 : special u = false) : Calls Tryz.prog 19 #[.pointer (some ⟨b, 0, none⟩)] w fun e w' => e = .returned (.bool false) ∧ ∃ m, w' = w.drewN m := by
  have HS := Aside0.mk (Rs.refl R0)
  obtain ⟨x0, x1, x2, x3, xf⟩ := R0.cell
  have p1 : (0 : Int) ≤ (n : Int) + 1 := by omega
  have p2 : (n : Int) + 1 ≤ (s.size : Int) := by omega
  have HN := Aside0.mk hn
  have HM := Aside0.mk hs
  have HL := Aside0.mk hlen
  have HU : Aside0 (u.size ≤ 1000000) := ⟨by rw [← hu, size_ext _ _ _ (Nat.le_refl _)]; omega⟩
  have hus : u.size = s.size - (n + 1) := by rw [← hu]; exact size_ext _ _ _ (Nat.le_refl _)
  have hw0 : wordN u = 0 := by have h := h0; unfold nameK at h; split at h; exact absurd h (by assumption); rename_i h2; exact Classical.not_not.1 h2
  have hb0 : braceN u = 0 := by
    have h := h0; unfold nameK at h; rw [if_neg (fun h => h hw0)] at h; unfold braceK at h; split at h
    · assumption
    · exact absurd h (by omega)
  have HBR : Aside0 ((Value.tuple #[.string (u.extract 1 (braceN u + 1)), .int .i64 (braceK u : Nat)]) = .tuple #[.string ⟨#[]⟩, .int .i64 0]) := ⟨by unfold braceK; rw [hb0, if_pos rfl, ext_nil _ _ _ (Nat.le_refl _)]; rfl⟩
  have hwd := hw0
  have b2 : n + 1 ≤ 2000000 := by omega
  have wr1 := wrA (K := 1) n 1 rfl b2
  clear b2
  by_cases hz : u.size = 0
  · have c1 : ((u.size : Int) == 0) = true := by rw [hz]; rfl
    have c2 : decide ((u.size : Int) = 0) = true := by rw [hz]; rfl
    have c3 : decide (u.size = 0) = true := decide_eq_true hz
    clear R0 hn hs hlen hus hw0 hb0 h0 hsp0 hz
    go_enter Tryz.func19, Tryz.ntmps19
    go_wp2
    go_quiet (fail)
    go_wp2_with first | (go_at_call_of 49 (Value.string u); refine (rbraced_any _ _ HU.out).mono ?_; rintro e w2 ⟨rfl, hw⟩; rw [hw, HBR.out]) | (go_at_call_of 49 (Value.string r); refine (rbraced_any _ _ HR.out).mono ?_; rintro e w2 ⟨rfl, hw⟩; rw [hw, HBR2.out]) | (go_at_call 50; refine (word_any _ _ HU.out).mono ?_; rintro e w2 ⟨rfl, hw⟩; rw [hw, hwd])
    go_ret
    exact ⟨rfl, _, rfl⟩
  · have H1 : Aside0 ((u.extract 0 1).size = 1) := ⟨by rw [size_ext _ _ _ (by omega)]⟩
    have hsp : special (u.extract 0 1) = false := by have h := hsp0; unfold special at h ⊢; rw [bt_ext _ _ _ _ (by omega)]; exact h
    have c1 : ((u.size : Int) == 0) = false := by rw [beq_eq_false_iff_ne]; omega
    have c2 : decide ((u.size : Int) = 0) = false := decide_eq_false (by omega)
    have c3 : decide (u.size = 0) = false := decide_eq_false hz
    have c4 : (1 : Int) ≤ (u.size : Int) := by omega
    clear R0 hn hs hlen hus hw0 hb0 h0 hsp0 hz
    go_enter Tryz.func19, Tryz.ntmps19
    go_wp2
    go_quiet (fail)
    go_wp2_with first | (go_at_call_of 49 (Value.string u); refine (rbraced_any _ _ HU.out).mono ?_; rintro e w2 ⟨rfl, hw⟩; rw [hw, HBR.out]) | (go_at_call_of 49 (Value.string r); refine (rbraced_any _ _ HR.out).mono ?_; rintro e w2 ⟨rfl, hw⟩; rw [hw, HBR2.out]) | (go_at_call 50; refine (word_any _ _ HU.out).mono ?_; rintro e w2 ⟨rfl, hw⟩; rw [hw, hwd]) | (go_at_call 51; refine (isSpecial_any _ _ H1.out).mono ?_; rintro e w2 ⟨rfl, hw⟩; rw [hw, hsp])
    go_ret
    exact ⟨rfl, _, rfl⟩

theorem rscalar_yes (w : World) (base b : Nat) (s : ByteArray) (n : Nat) (tv lv : Value) (bs : List UInt8) (nds : List Nd) (vs : List Value) (R0 : RI w base b 48 s (.int .i64 n) tv bs lv nds vs) (hn : n + 1 ≤ s.size) (hs : s.size ≤ 1000000) (hlen : nds.length ≤ 90000) (u : ByteArray) (hu : s.extract (n + 1) s.size = u) (j : Nat) (x : Nd) (hx : scalarOf u = (j, x)) (hj : j ≠ 0) : Calls Tryz.prog 19 #[.pointer (some ⟨b, 0, none⟩)] w fun e w' => e = .returned (.bool true) ∧ ∃ lv' vs', RI w' base b 48 s (.int .i64 (n + 1 + j : Nat)) (.slice none 0 0) [] lv' (fl bs nds ++ [x]) vs' ∧ Fr w w' b tv lv (.slice none 0 0) lv' := by
  unfold scalarOf at hx
  split at hx
  · rename_i h0
    split at hx
    · rename_i h1
      obtain ⟨rfl, rfl⟩ := Prod.mk.inj hx
      exact rscalar_special w base b s n tv lv bs nds vs R0 hn hs hlen u hu h0 h1
    · exact absurd (Prod.mk.inj hx).1.symm hj
  · rename_i h0
    split at hx
    · rename_i h1
      obtain ⟨rfl, rfl⟩ := Prod.mk.inj hx
      exact rscalar_place w base b s n tv lv bs nds vs R0 hn hs hlen u hu (nameK u) (nameT u) rfl rfl h0 (restN u) rfl (placeOf (restN u)).1 (placeOf (restN u)).2 (by cases placeOf (restN u); rfl) h1
    · rename_i h1
      have hpl : placeOf (restN u) = (0, noLf) := place_zero (Classical.not_not.1 h1)
      split at hx
      · rename_i h2
        obtain ⟨rfl, rfl⟩ := Prod.mk.inj hx
        exact rscalar_key w base b s n tv lv bs nds vs R0 hn hs hlen u hu (nameK u) (nameT u) rfl rfl h0 (restN u) rfl hpl (braceN (restN u)) rfl h2
      · rename_i h2
        obtain ⟨rfl, rfl⟩ := Prod.mk.inj hx
        exact rscalar_plain w base b s n tv lv bs nds vs R0 hn hs hlen u hu (nameK u) (nameT u) rfl rfl h0 (restN u) rfl hpl (Classical.not_not.1 h2)
theorem rscalar_none (w : World) (base b : Nat) (s : ByteArray) (n : Nat) (tv lv : Value) (bs : List UInt8) (nds : List Nd) (vs : List Value) (R0 : RI w base b 48 s (.int .i64 n) tv bs lv nds vs) (hn : n + 1 ≤ s.size) (hs : s.size ≤ 1000000) (hlen : nds.length ≤ 90000) (u : ByteArray) (hu : s.extract (n + 1) s.size = u) (hx : (scalarOf u).1 = 0) : Calls Tryz.prog 19 #[.pointer (some ⟨b, 0, none⟩)] w fun e w' => e = .returned (.bool false) ∧ ∃ m, w' = w.drewN m := by
  unfold scalarOf at hx
  split at hx
  · rename_i h0
    split at hx
    · exact absurd hx (show ¬ (1 : Nat) = 0 by decide)
    · rename_i h1
      exact rscalar_no w base b s n tv lv bs nds vs R0 hn hs hlen u hu h0 (by cases h : special u with | false => rfl | true => exact absurd h h1)
  · rename_i h0
    split at hx
    · exact absurd (show nameK u + _ = 0 from hx) (by omega)
    · split at hx
      · exact absurd (show nameK u + _ = 0 from hx) (by omega)
      · exact absurd hx h0
end Go.Proofs.YtmifmmpbmcfmpaaGreatDoor.IW
