/-
  Words in braces, in the program.
-/
import Derived.Test.YtmifmmpbmcfmpaaGreatDoorJe
set_option linter.unusedVariables false
set_option linter.unusedSimpArgs false
namespace Go.Proofs.YtmifmmpbmcfmpaaGreatDoor.IW
open Go Go.RowKit
set_option maxRecDepth 100000

theorem isEmpty_ext {s : ByteArray} {i j : Nat} (h : j ≤ s.size) : (s.extract i j).toList.isEmpty = decide (j ≤ i) := by
  have hs := size_ext s i j h
  by_cases h2 : j ≤ i
  · rw [toList_nil.2 (by omega), decide_eq_true h2]; rfl
  · rw [decide_eq_false h2]
    cases hl : (s.extract i j).toList with
    | nil => exact absurd (toList_nil.1 hl) (by omega)
    | cons x l => rfl
theorem hasPrefix_at (s : ByteArray) (i : Nat) (c : UInt8) : Lib.hasPrefix (s.extract i s.size).data.toList [c] = (decide (i < s.size) && (bt s i == (c.toNat : Int))) := by
  rw [hasPrefix_one, size_ext _ _ _ (Nat.le_refl _)]
  by_cases h : i < s.size
  · rw [bt_ext _ _ _ _ (by omega), decide_eq_true h, decide_eq_true (by omega)]; rfl
  · rw [decide_eq_false h, decide_eq_false (by omega)]; rfl

set_option maxHeartbeats 1000000 in
theorem pbraced_any (s : ByteArray) (w : World) (hm : s.size ≤ 1000000) : Calls Tryz.prog 58 #[.string s] w fun e w' => e = .returned (.string (s.extract 1 (braceN s + 1))) ∧ w' = w := by
  have HM := Aside0.mk hm
  obtain ⟨n, hn⟩ : ∃ n, wordN (s.extract 1 s.size) = n := ⟨_, rfl⟩
  cases hp1 : Lib.hasPrefix s.data.toList [123] with
  | false =>
    have hbn := brace_no (s := s) (by
      rintro ⟨h1, h2, _⟩
      rw [hasPrefix_one, decide_eq_true h1, h2] at hp1
      exact absurd hp1 (by decide))
    have HB := Aside0.mk hbn
    clear hm hbn hn
    go_enter Tryz.func58, Tryz.ntmps58
    go_wp2_with (go_at_call 94; refine (SH.strings_HasPrefix _ _ _).mono ?_; rintro e w2 ⟨rfl, hw⟩; rw [hw, hp1])
    go_ret
    exact ⟨by rw [HB.out.2.2]; rfl, rfl⟩
  | true =>
    have hp0 := hp1
    rw [hasPrefix_one] at hp0
    simp only [Bool.and_eq_true, decide_eq_true_eq, beq_iff_eq] at hp0
    obtain ⟨p0, h0⟩ := hp0
    have q0 : (0 : Int) < (s.size : Int) := by omega
    have q1 : (1 : Int) ≤ (s.size : Int) := by omega
    have hn12 := wordN_12 (s.extract 1 s.size)
    have hnl := wordN_le (s.extract 1 s.size)
    rw [size_ext _ _ _ (Nat.le_refl _)] at hnl
    have hx : (s.extract 1 s.size).extract 0 (wordN (s.extract 1 s.size)) = s.extract 1 (n + 1) := by rw [ext_ext _ _ _ _ _ hnl, hn, Nat.add_comm 1 n]
    rw [hn] at hn12 hnl
    have hsz : (s.extract 1 (n + 1)).size = n := by rw [size_ext _ _ _ (by omega)]; omega
    have he : (s.extract 1 (n + 1)).toList.isEmpty = decide (n = 0) := by rw [isEmpty_ext (by omega)]; exact decide_eq_decide.2 (by omega)
    have HS : Aside0 ((s.extract 1 s.size).size ≤ 1000000) := ⟨by rw [size_ext _ _ _ (Nat.le_refl _)]; omega⟩
    by_cases hn0 : n = 0
    · have hbn := brace_no (s := s) (by rw [hn]; exact fun h => h.2.2.1 hn0)
      have HB := Aside0.mk hbn
      rw [decide_eq_true hn0] at he
      clear hm hbn hn12 hnl hn hn0
      go_enter Tryz.func58, Tryz.ntmps58
      go_wp2_with first
        | (go_at_call 94; refine (SH.strings_HasPrefix _ _ _).mono ?_; rintro e w2 ⟨rfl, hw⟩; rw [hw, hp1])
        | (go_at_call 57; refine (wordAt_any _ _ HS.out).mono ?_; rintro e w2 ⟨rfl, hw⟩; rw [hw, hx])
      go_ret
      exact ⟨by rw [HB.out.2.2]; rfl, rfl⟩
    · rw [decide_eq_false hn0] at he
      have wr1 : wrap64 (1 + (n : Int)) = ((1 + n : Nat) : Int) := by unfold wrap64; omega
      have p3 : (0 : Int) ≤ wrap64 (1 + (n : Int)) := by rw [wr1]; omega
      have q3 : wrap64 (1 + (n : Int)) ≤ (s.size : Int) := by rw [wr1]; omega
      have t2 : (wrap64 (1 + (n : Int))).toNat = 1 + n := by rw [wr1]; exact Int.toNat_natCast _
      have g1 : (0 : Int) ≤ 1 + (n : Int) := by omega
      have g2 : 1 + (n : Int) ≤ (s.size : Int) := by omega
      cases hp2 : Lib.hasPrefix (s.extract (1 + n) s.size).data.toList [125] with
      | false =>
        have hbn := brace_no (s := s) (by
          rw [hn]
          rintro ⟨_, _, _, h1, h2⟩
          rw [Nat.add_comm n 1] at h1 h2
          rw [hasPrefix_at, decide_eq_true h1, h2] at hp2
          exact absurd hp2 (by decide))
        have HB := Aside0.mk hbn
        clear hm hbn hn12 hnl hn
        go_enter Tryz.func58, Tryz.ntmps58
        go_wp2_with first
          | (go_at_call 94; refine (SH.strings_HasPrefix _ _ _).mono ?_; rintro e w2 ⟨rfl, hw⟩; first | rw [hw, hp1] | rw [hw, hp2])
          | (go_at_call 57; refine (wordAt_any _ _ HS.out).mono ?_; rintro e w2 ⟨rfl, hw⟩; rw [hw, hx])
        go_ret
        exact ⟨by rw [HB.out.2.2]; rfl, rfl⟩
      | true =>
        have hp3 := hp2
        rw [hasPrefix_at] at hp3
        simp only [Bool.and_eq_true, decide_eq_true_eq, beq_iff_eq] at hp3
        rw [Nat.add_comm 1 n] at hp3
        have hbn : braceN s = n := by unfold braceN; rw [hn, if_pos ⟨p0, h0, hn0, hp3.1, hp3.2⟩]
        have HB := Aside0.mk hbn
        clear hm hbn hn12 hnl hn hp3
        go_enter Tryz.func58, Tryz.ntmps58
        go_wp2_with first
          | (go_at_call 94; refine (SH.strings_HasPrefix _ _ _).mono ?_; rintro e w2 ⟨rfl, hw⟩; first | rw [hw, hp1] | rw [hw, hp2])
          | (go_at_call 57; refine (wordAt_any _ _ HS.out).mono ?_; rintro e w2 ⟨rfl, hw⟩; rw [hw, hx])
        go_ret
        exact ⟨by rw [HB.out]; rfl, rfl⟩
end Go.Proofs.YtmifmmpbmcfmpaaGreatDoor.IW
