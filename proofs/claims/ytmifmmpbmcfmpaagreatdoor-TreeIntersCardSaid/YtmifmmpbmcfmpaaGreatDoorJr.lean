/-
  What stands behind an at: both methods.
-/
import Derived.Test.YtmifmmpbmcfmpaaGreatDoorJq
set_option linter.unusedVariables false
set_option linter.unusedSimpArgs false
namespace Go.Proofs.YtmifmmpbmcfmpaaGreatDoor.IW
open Go Go.RowKit
set_option maxRecDepth 100000

set_option maxHeartbeats 1000000 in
theorem rarray_name (w : World) (base b : Nat) (s : ByteArray) (n : Nat) (tv lv : Value) (bs : List UInt8) (nds : List Nd) (vs : List Value) (R0 : RI w base b 48 s (.int .i64 n) tv bs lv nds vs) (hn : n + 1 ≤ s.size) (hs : s.size ≤ 1000000) (hlen : nds.length ≤ 90000) (u : ByteArray) (hu : s.extract (n + 1) s.size = u) (k : Nat) (T : ByteArray) (hk : nameK u = k) (hT : nameT u = T) (hk0 : k ≠ 0) : Calls Tryz.prog 20 #[.pointer (some ⟨b, 0, none⟩)] w fun e w' => e = .returned (.bool true) ∧ ∃ lv' vs', RI w' base b 48 s (.int .i64 (n + 1 + k : Nat)) (.slice none 0 0) [] lv' (fl bs nds ++ [⟨6, T, 0, []⟩]) vs' ∧ Fr w w' b tv lv (.slice none 0 0) lv' := by
  have HS := Aside0.mk (Rs.refl R0)
  obtain ⟨x0, x1, x2, x3, xf⟩ := R0.cell
  have p1 : (0 : Int) ≤ (n : Int) + 1 := by omega
  have p2 : (n : Int) + 1 ≤ (s.size : Int) := by omega
  have HL := Aside0.mk hlen
  have HU : Aside0 (u.size ≤ 1000000) := ⟨by rw [← hu, size_ext _ _ _ (Nat.le_refl _)]; omega⟩
  have hus : u.size = s.size - (n + 1) := by rw [← hu]; exact size_ext _ _ _ (Nat.le_refl _)
  obtain ⟨q, hq⟩ : ∃ q, q = n + 1 + k := ⟨_, rfl⟩
  have hkl := nameK_le u
  rw [hk, hus] at hkl
  have d1 : ((k : Int) == 0) = false := by rw [beq_eq_false_iff_ne]; omega
  have d2 : decide ((k : Int) = 0) = false := decide_eq_false (by omega)
  have d3 : decide (k = 0) = false := decide_eq_false hk0
  have d4 : (0 : Int) ≤ (k : Int) := by omega
  have d5 : (k : Int) ≤ (u.size : Int) := by omega
  have b1 : n + 1 ≤ 2000000 := by omega
  have b2 : q ≤ 2000000 := by omega
  have HE := Aside0.mk hq
  have wr1 := wrA (K := 1) n 1 rfl b1
  obtain ⟨wr2, wr3⟩ := wr_q n k q hq b2
  by_cases hw0 : wordN u = 0
  · have hbn : braceN u ≠ 0 := by intro h; apply hk0; rw [← hk]; unfold nameK braceK; rw [if_neg (fun h => h hw0), if_pos h]
    have HBR : Aside0 ((Value.tuple #[.string (u.extract 1 (braceN u + 1)), .int .i64 (braceK u : Nat)]) = .tuple #[.string T, .int .i64 k]) := ⟨by
      rw [← hk, ← hT]; unfold nameK nameT; rw [if_neg (fun h => h hw0), if_neg (fun h => h hw0)]⟩
    clear b1 b2 R0 hn hs hlen hus hkl hq hw0 hk0 hk hT hbn
    go_enter Tryz.func20, Tryz.ntmps20
    go_wp2
    go_quiet (fail)
    go_wp2_with first | (go_at_call_of 49 (Value.string u); refine (rbraced_any _ _ HU.out).mono ?_; rintro e w2 ⟨rfl, hw⟩; rw [hw, HBR.out]) | (go_at_call 52; refine (put_leaf w _ base b s (.int .i64 q) tv lv bs nds vs ((HS.out.drewN nq).set (.int .i64 q)) HL.out 6 T).mono ?_; rintro e w7 ⟨rfl, lv', vs', hR7, hF7⟩; have HR7 := Aside0.mk hR7; have HF7 := Aside0.mk hF7; clear hR7 hF7)
    go_ret
    exact ⟨rfl, lv', vs', by rw [← HE.out]; exact HR7.out, HF7.out⟩
  · obtain ⟨hb1, hb2⟩ := word_braces hw0
    have HBR : Aside0 ((Value.tuple #[.string (u.extract 1 (braceN u + 1)), .int .i64 (braceK u : Nat)]) = .tuple #[.string ⟨#[]⟩, .int .i64 0]) := ⟨by rw [hb1, hb2, ext_nil _ _ _ (Nat.le_refl _)]; rfl⟩
    have hwd : wordN u = k := by rw [← hk]; unfold nameK; rw [if_pos hw0]
    have hTx : u.extract 0 k = T := by rw [← hT]; unfold nameT; rw [if_pos hw0, hwd]
    clear b1 b2 R0 hn hs hlen hus hkl hq hw0 hk0 hk hT hb1 hb2
    go_enter Tryz.func20, Tryz.ntmps20
    go_wp2
    go_quiet (fail)
    go_wp2_with first | (go_at_call_of 49 (Value.string u); refine (rbraced_any _ _ HU.out).mono ?_; rintro e w2 ⟨rfl, hw⟩; rw [hw, HBR.out]) | (go_at_call 50; refine (word_any _ _ HU.out).mono ?_; rintro e w2 ⟨rfl, hw⟩; rw [hw, hwd]) | (go_at_call 52; refine (put_leaf w _ base b s (.int .i64 q) tv lv bs nds vs ((HS.out.drewN nq).set (.int .i64 q)) HL.out 6 T).mono ?_; rintro e w7 ⟨rfl, lv', vs', hR7, hF7⟩; have HR7 := Aside0.mk hR7; have HF7 := Aside0.mk hF7; clear hR7 hF7)
    go_ret
    exact ⟨rfl, lv', vs', by rw [← HE.out]; exact HR7.out, HF7.out⟩

set_option maxHeartbeats 1000000 in
theorem rarray_no (w : World) (base b : Nat) (s : ByteArray) (n : Nat) (tv lv : Value) (bs : List UInt8) (nds : List Nd) (vs : List Value) (R0 : RI w base b 48 s (.int .i64 n) tv bs lv nds vs) (hn : n + 1 ≤ s.size) (hs : s.size ≤ 1000000) (hlen : nds.length ≤ 90000) (u : ByteArray) (hu : s.extract (n + 1) s.size = u) (h0 : nameK u = 0) : Calls Tryz.prog 20 #[.pointer (some ⟨b, 0, none⟩)] w fun e w' => e = .returned (.bool false) ∧ ∃ m, w' = w.drewN m := by
  have HS := Aside0.mk (Rs.refl R0)
  obtain ⟨x0, x1, x2, x3, xf⟩ := R0.cell
  have p1 : (0 : Int) ≤ (n : Int) + 1 := by omega
  have p2 : (n : Int) + 1 ≤ (s.size : Int) := by omega
  have HL := Aside0.mk hlen
  have HU : Aside0 (u.size ≤ 1000000) := ⟨by rw [← hu, size_ext _ _ _ (Nat.le_refl _)]; omega⟩
  have hus : u.size = s.size - (n + 1) := by rw [← hu]; exact size_ext _ _ _ (Nat.le_refl _)
  have hw0 : wordN u = 0 := by have h := h0; unfold nameK at h; split at h; exact absurd h (by assumption); rename_i h2; exact Classical.not_not.1 h2
  have hb0 : braceN u = 0 := by
    have h := h0; unfold nameK at h; rw [if_neg (fun h => h hw0)] at h; unfold braceK at h; split at h
    · assumption
    · exact absurd h (by omega)
  have HBR : Aside0 ((Value.tuple #[.string (u.extract 1 (braceN u + 1)), .int .i64 (braceK u : Nat)]) = .tuple #[.string ⟨#[]⟩, .int .i64 0]) := ⟨by unfold braceK; rw [hb0, if_pos rfl, ext_nil _ _ _ (Nat.le_refl _)]; rfl⟩
  have hwd := hw0
  have b1 : n + 1 ≤ 2000000 := by omega
  have wr1 := wrA (K := 1) n 1 rfl b1
  clear b1 R0 hn hs hlen hus hw0 hb0 h0
  go_enter Tryz.func20, Tryz.ntmps20
  go_wp2
  go_quiet (fail)
  go_wp2_with first | (go_at_call_of 49 (Value.string u); refine (rbraced_any _ _ HU.out).mono ?_; rintro e w2 ⟨rfl, hw⟩; rw [hw, HBR.out]) | (go_at_call 50; refine (word_any _ _ HU.out).mono ?_; rintro e w2 ⟨rfl, hw⟩; rw [hw, hwd])
  go_ret
  exact ⟨rfl, _, rfl⟩

set_option maxHeartbeats 1000000 in
theorem tarray_name (w : World) (base b : Nat) (s : ByteArray) (v1 tv lv : Value) (bs : List UInt8) (nds : List Nd) (vs : List Value) (R0 : RI w base b 54 s v1 tv bs lv nds vs) (ha : okA b v1) (hlb : bs.length ≤ 100000) (hlen : nds.length ≤ 90000) (u : ByteArray) (hs : u.size ≤ 1000000) (k : Nat) (T : ByteArray) (hk : nameK u = k) (hT : nameT u = T) (hk0 : k ≠ 0) : Calls Tryz.prog 24 #[.pointer (some ⟨b, 0, none⟩), .string u] w fun e w' => e = .returned (.int .i64 (k : Nat)) ∧ ∃ u1 lv' vs', okA b u1 ∧ RI w' base b 54 s u1 (.slice none 0 0) [] lv' (fl bs nds ++ [⟨6, T, 0, []⟩]) vs' ∧ Fr w w' b tv lv (.slice none 0 0) lv' := by
  have HS := Aside0.mk (Rs.refl R0)
  have HA := Aside0.mk ha
  have HLB := Aside0.mk hlb
  have HL := Aside0.mk hlen
  have HU := Aside0.mk hs
  have hkl := nameK_le u
  rw [hk] at hkl
  by_cases hw0 : wordN u = 0
  · have hbn : braceN u ≠ 0 := by intro h; apply hk0; rw [← hk]; unfold nameK braceK; rw [if_neg (fun h => h hw0), if_pos h]
    have hbl := (braceN_le u hbn).1
    have HW : Aside0 (u.extract 0 (wordN u) = ⟨#[]⟩) := ⟨by rw [hw0]; exact ext_nil _ _ _ (Nat.le_refl _)⟩
    have HB : Aside0 (u.extract 1 (braceN u + 1) = T) := ⟨by rw [← hT]; unfold nameT; rw [if_neg (fun h => h hw0)]⟩
    have hTs : T.size = braceN u := by rw [← HB.out, size_ext _ _ _ (by omega)]; omega
    have hTe : T.toList.isEmpty = false := isEmpty_no (by omega)
    have hkk : k = braceN u + 2 := by rw [← hk]; unfold nameK braceK; rw [if_neg (fun h => h hw0), if_neg hbn]
    have b9 : T.size + 2 ≤ 2000000 := by omega
    have wr9 : wrap64 ((T.size : Int) + 2) = (k : Int) := by rw [wrA (K := 2) T.size 2 rfl b9, hTs, hkk]
    clear R0 ha hs hlb hlen hkl hbn hbl hw0 hk0 hk hT hTs hkk b9
    go_enter Tryz.func24, Tryz.ntmps24
    go_wp2_with first | (go_at_call 57; refine (wordAt_any _ _ HU.out).mono ?_; rintro e w2 ⟨rfl, hw⟩; rw [hw, HW.out]) | (go_at_call_of 58 (Value.string u); refine (pbraced_any _ _ HU.out).mono ?_; rintro e w2 ⟨rfl, hw⟩; rw [hw, HB.out]) | (go_at_call 61; refine (part_leaf w w base b s v1 tv lv bs nds vs HS.out HA.out HLB.out HL.out 6 T).mono ?_; rintro e w7 ⟨rfl, u1, lv', vs', hu7, hR7, hF7⟩; have HR7 := Aside0.mk hR7; have HF7 := Aside0.mk hF7; have HU7 := Aside0.mk hu7; clear hR7 hF7 hu7)
    go_ret
    exact ⟨by first | rfl | (rw [← wr9]; rfl), u1, lv', vs', HU7.out, HR7.out, HF7.out⟩
  · obtain ⟨hb1, hb2⟩ := word_braces hw0
    have hwd : wordN u = k := by rw [← hk]; unfold nameK; rw [if_pos hw0]
    have HW : Aside0 (u.extract 0 (wordN u) = T) := ⟨by rw [← hT]; unfold nameT; rw [if_pos hw0]⟩
    have hTs : T.size = k := by rw [← HW.out, size_ext _ _ _ (by omega), hwd]; omega
    have hTe : T.toList.isEmpty = false := isEmpty_no (by omega)
    clear R0 ha hs hlb hlen hkl hb1 hb2 hw0 hk0 hk hT hwd
    go_enter Tryz.func24, Tryz.ntmps24
    go_wp2_with first | (go_at_call 57; refine (wordAt_any _ _ HU.out).mono ?_; rintro e w2 ⟨rfl, hw⟩; rw [hw, HW.out]) | (go_at_call 61; refine (part_leaf w w base b s v1 tv lv bs nds vs HS.out HA.out HLB.out HL.out 6 T).mono ?_; rintro e w7 ⟨rfl, u1, lv', vs', hu7, hR7, hF7⟩; have HR7 := Aside0.mk hR7; have HF7 := Aside0.mk hF7; have HU7 := Aside0.mk hu7; clear hR7 hF7 hu7)
    go_ret
    exact ⟨by rfl, u1, lv', vs', HU7.out, HR7.out, HF7.out⟩

set_option maxHeartbeats 1000000 in
theorem tarray_no (w : World) (base b : Nat) (s : ByteArray) (v1 tv lv : Value) (bs : List UInt8) (nds : List Nd) (vs : List Value) (R0 : RI w base b 54 s v1 tv bs lv nds vs) (ha : okA b v1) (hlb : bs.length ≤ 100000) (hlen : nds.length ≤ 90000) (u : ByteArray) (hs : u.size ≤ 1000000) (h0 : nameK u = 0) : Calls Tryz.prog 24 #[.pointer (some ⟨b, 0, none⟩), .string u] w fun e w' => e = .returned (.int .i64 0) ∧ w' = w := by
  have HS := Aside0.mk (Rs.refl R0)
  have HA := Aside0.mk ha
  have HLB := Aside0.mk hlb
  have HL := Aside0.mk hlen
  have HU := Aside0.mk hs
  have hw0 : wordN u = 0 := by have h := h0; unfold nameK at h; split at h; exact absurd h (by assumption); rename_i h2; exact Classical.not_not.1 h2
  have hb0 : braceN u = 0 := by
    have h := h0; unfold nameK at h; rw [if_neg (fun h => h hw0)] at h; unfold braceK at h; split at h
    · assumption
    · exact absurd h (by omega)
  have HW : Aside0 (u.extract 0 (wordN u) = ⟨#[]⟩) := ⟨by rw [hw0]; exact ext_nil _ _ _ (Nat.le_refl _)⟩
  have HB : Aside0 (u.extract 1 (braceN u + 1) = ⟨#[]⟩) := ⟨by rw [hb0]; exact ext_nil _ _ _ (Nat.le_refl _)⟩
  clear R0 ha hlb hlen hs hw0 hb0 h0
  go_enter Tryz.func24, Tryz.ntmps24
  go_wp2_with first | (go_at_call 57; refine (wordAt_any _ _ HU.out).mono ?_; rintro e w2 ⟨rfl, hw⟩; rw [hw, HW.out]) | (go_at_call_of 58 (Value.string u); refine (pbraced_any _ _ HU.out).mono ?_; rintro e w2 ⟨rfl, hw⟩; rw [hw, HB.out])
  go_ret
  exact ⟨rfl, rfl⟩

theorem array_yes {u : ByteArray} {j : Nat} {x : Nd} (hx : arrayOf u = (j, x)) (hj : j ≠ 0) : nameK u = j ∧ nameK u ≠ 0 ∧ x = ⟨6, nameT u, 0, []⟩ := by
  unfold arrayOf at hx
  split at hx
  · exact absurd (Prod.mk.inj hx).1.symm hj
  · rename_i h0
    obtain ⟨h1, h2⟩ := Prod.mk.inj hx
    exact ⟨h1, h0, h2.symm⟩
theorem array_none {u : ByteArray} (hx : (arrayOf u).1 = 0) : nameK u = 0 := by
  unfold arrayOf at hx
  split at hx
  · assumption
  · rename_i h0; exact absurd hx h0
theorem rarray_yes (w : World) (base b : Nat) (s : ByteArray) (n : Nat) (tv lv : Value) (bs : List UInt8) (nds : List Nd) (vs : List Value) (R0 : RI w base b 48 s (.int .i64 n) tv bs lv nds vs) (hn : n + 1 ≤ s.size) (hs : s.size ≤ 1000000) (hlen : nds.length ≤ 90000) (u : ByteArray) (hu : s.extract (n + 1) s.size = u) (j : Nat) (x : Nd) (hx : arrayOf u = (j, x)) (hj : j ≠ 0) : Calls Tryz.prog 20 #[.pointer (some ⟨b, 0, none⟩)] w fun e w' => e = .returned (.bool true) ∧ ∃ lv' vs', RI w' base b 48 s (.int .i64 (n + 1 + j : Nat)) (.slice none 0 0) [] lv' (fl bs nds ++ [x]) vs' ∧ Fr w w' b tv lv (.slice none 0 0) lv' := by
  obtain ⟨h1, h2, rfl⟩ := array_yes hx hj
  exact rarray_name w base b s n tv lv bs nds vs R0 hn hs hlen u hu j (nameT u) h1 rfl hj
theorem rarray_none (w : World) (base b : Nat) (s : ByteArray) (n : Nat) (tv lv : Value) (bs : List UInt8) (nds : List Nd) (vs : List Value) (R0 : RI w base b 48 s (.int .i64 n) tv bs lv nds vs) (hn : n + 1 ≤ s.size) (hs : s.size ≤ 1000000) (hlen : nds.length ≤ 90000) (u : ByteArray) (hu : s.extract (n + 1) s.size = u) (hx : (arrayOf u).1 = 0) : Calls Tryz.prog 20 #[.pointer (some ⟨b, 0, none⟩)] w fun e w' => e = .returned (.bool false) ∧ ∃ m, w' = w.drewN m :=
  rarray_no w base b s n tv lv bs nds vs R0 hn hs hlen u hu (array_none hx)
theorem tarray_yes (w : World) (base b : Nat) (s : ByteArray) (v1 tv lv : Value) (bs : List UInt8) (nds : List Nd) (vs : List Value) (R0 : RI w base b 54 s v1 tv bs lv nds vs) (ha : okA b v1) (hlb : bs.length ≤ 100000) (hlen : nds.length ≤ 90000) (u : ByteArray) (hs : u.size ≤ 1000000) (j : Nat) (x : Nd) (hx : arrayOf u = (j, x)) (hj : j ≠ 0) : Calls Tryz.prog 24 #[.pointer (some ⟨b, 0, none⟩), .string u] w fun e w' => e = .returned (.int .i64 (j : Nat)) ∧ ∃ u1 lv' vs', okA b u1 ∧ RI w' base b 54 s u1 (.slice none 0 0) [] lv' (fl bs nds ++ [x]) vs' ∧ Fr w w' b tv lv (.slice none 0 0) lv' := by
  obtain ⟨h1, h2, rfl⟩ := array_yes hx hj
  exact tarray_name w base b s v1 tv lv bs nds vs R0 ha hlb hlen u hs j (nameT u) h1 rfl hj
theorem tarray_none (w : World) (base b : Nat) (s : ByteArray) (v1 tv lv : Value) (bs : List UInt8) (nds : List Nd) (vs : List Value) (R0 : RI w base b 54 s v1 tv bs lv nds vs) (ha : okA b v1) (hlb : bs.length ≤ 100000) (hlen : nds.length ≤ 90000) (u : ByteArray) (hs : u.size ≤ 1000000) (hx : (arrayOf u).1 = 0) : Calls Tryz.prog 24 #[.pointer (some ⟨b, 0, none⟩), .string u] w fun e w' => e = .returned (.int .i64 0) ∧ w' = w :=
  tarray_no w base b s v1 tv lv bs nds vs R0 ha hlb hlen u hs (array_none hx)
end Go.Proofs.YtmifmmpbmcfmpaaGreatDoor.IW
