/-
  Words in braces.
-/
import Derived.Test.YtmifmmpbmcfmpaaGreatDoorJd
set_option linter.unusedVariables false
set_option linter.unusedSimpArgs false
namespace Go.Proofs.YtmifmmpbmcfmpaaGreatDoor.IW
open Go Go.RowKit
set_option maxRecDepth 100000

def braceN (s : ByteArray) : Nat := if 0 < s.size ∧ bt s 0 = 123 ∧ wordN (s.extract 1 s.size) ≠ 0 ∧ wordN (s.extract 1 s.size) + 1 < s.size ∧ bt s (wordN (s.extract 1 s.size) + 1) = 125 then wordN (s.extract 1 s.size) else 0
def braceK (s : ByteArray) : Nat := if braceN s = 0 then 0 else braceN s + 2
theorem brace_no {s : ByteArray} (h : ¬ (0 < s.size ∧ bt s 0 = 123 ∧ wordN (s.extract 1 s.size) ≠ 0 ∧ wordN (s.extract 1 s.size) + 1 < s.size ∧ bt s (wordN (s.extract 1 s.size) + 1) = 125)) : braceN s = 0 ∧ braceK s = 0 ∧ s.extract 1 (braceN s + 1) = ⟨#[]⟩ := by
  have h1 : braceN s = 0 := by unfold braceN; rw [if_neg h]
  refine ⟨h1, by unfold braceK; rw [if_pos h1], ?_⟩
  rw [h1]; exact ext_nil _ _ _ (Nat.le_refl _)
theorem braceN_le (s : ByteArray) : braceN s ≠ 0 → braceN s + 2 ≤ s.size ∧ braceN s ≤ 12 := by
  have := wordN_12 (s.extract 1 s.size)
  unfold braceN
  split
  · rename_i h; intro _; exact ⟨by have := h.2.2.2.1; omega, this⟩
  · intro h; exact absurd rfl h
theorem bt_pos {s : ByteArray} {i : Nat} {c : Int} (h : bt s i = c) (hc : c ≠ 0) : i < s.size := by
  unfold bt at h
  split at h
  · assumption
  · exact absurd h.symm hc

set_option maxHeartbeats 1000000 in
theorem rbraced_any (s : ByteArray) (w : World) (hm : s.size ≤ 1000000) : Calls Tryz.prog 49 #[.string s] w fun e w' => e = .returned (.tuple #[.string (s.extract 1 (braceN s + 1)), .int .i64 (braceK s : Nat)]) ∧ w' = w := by
  have HM := Aside0.mk hm
  obtain ⟨n, hn⟩ : ∃ n, wordN (s.extract 1 s.size) = n := ⟨_, rfl⟩
  by_cases h3 : s.size < 3
  · have hbn := brace_no (s := s) (by rw [hn]; omega)
    have HB := Aside0.mk hbn
    have c1 : decide ((s.size : Int) < 3) = true := decide_eq_true (by omega)
    have c2 : decide (s.size < 3) = true := decide_eq_true h3
    clear hm hbn
    go_enter Tryz.func49, Tryz.ntmps49
    go_wp2
    go_ret2
    exact ⟨by rw [HB.out.2.1, HB.out.2.2]; rfl, rfl⟩
  · have c1 : decide ((s.size : Int) < 3) = false := decide_eq_false (by omega)
    have c2 : decide (s.size < 3) = false := decide_eq_false h3
    have p0 : 0 < s.size := by omega
    have q0 : (0 : Int) < (s.size : Int) := by omega
    have q1 : (1 : Int) ≤ (s.size : Int) := by omega
    have b0 := bt_at s 0 p0
    cases h0 : (bt s 0 == 123) with
    | false =>
      have hbn := brace_no (s := s) (by rintro ⟨_, h, _⟩; rw [h] at h0; exact absurd h0 (by decide))
      have HB := Aside0.mk hbn
      have h0' : (bt s 0 != 123) = true := by unfold bne; rw [h0]; rfl
      clear hm hbn h3
      go_enter Tryz.func49, Tryz.ntmps49
      go_wp2
      go_ret2
      exact ⟨by rw [HB.out.2.1, HB.out.2.2]; rfl, rfl⟩
    | true =>
      have h0' : (bt s 0 != 123) = false := by unfold bne; rw [h0]; rfl
      have HS : Aside0 ((s.extract 1 s.size).size ≤ 1000000) := ⟨by rw [size_ext _ _ _ (Nat.le_refl _)]; omega⟩
      have hn12 := wordN_12 (s.extract 1 s.size)
      rw [hn] at hn12
      have wr1 : wrap64 ((n : Int) + 1) = ((n + 1 : Nat) : Int) := by unfold wrap64; omega
      have wr2 : wrap64 ((n : Int) + 2) = ((n + 2 : Nat) : Int) := by unfold wrap64; omega
      by_cases hn0 : n = 0
      · have hbn := brace_no (s := s) (by rw [hn]; exact fun h => h.2.2.1 hn0)
        have HB := Aside0.mk hbn
        have d1 : ((n : Int) == 0) = true := by rw [hn0]; rfl
        have d2 : decide ((n : Int) = 0) = true := decide_eq_true (by omega)
        have d3 : decide (n = 0) = true := decide_eq_true hn0
        clear hm hbn h3 hn12 hn0
        go_enter Tryz.func49, Tryz.ntmps49
        go_wp2_with (go_at_call 50; refine (word_any _ _ HS.out).mono ?_; rintro e w2 ⟨rfl, hw⟩; rw [hw, hn])
        go_ret2
        exact ⟨by rw [HB.out.2.1, HB.out.2.2]; rfl, rfl⟩
      · have d1 : ((n : Int) == 0) = false := by rw [beq_eq_false_iff_ne]; omega
        have d2 : decide ((n : Int) = 0) = false := decide_eq_false (by omega)
        have d3 : decide (n = 0) = false := decide_eq_false hn0
        by_cases hl : n + 1 < s.size
        · have c3 : decide ((s.size : Int) < wrap64 ((n : Int) + 2)) = false := decide_eq_false (by rw [wr2]; omega)
          have p3 : (0 : Int) ≤ wrap64 ((n : Int) + 1) := by rw [wr1]; omega
          have q3 : wrap64 ((n : Int) + 1) < (s.size : Int) := by rw [wr1]; omega
          have t2 : (wrap64 ((n : Int) + 1)).toNat = n + 1 := by rw [wr1]; exact Int.toNat_natCast _
          have b3 := bt_at s (n + 1) hl
          cases h5 : (bt s (n + 1) == 125) with
          | false =>
            have hbn := brace_no (s := s) (by rw [hn]; rintro ⟨_, _, _, _, h⟩; rw [h] at h5; exact absurd h5 (by decide))
            have HB := Aside0.mk hbn
            have h5' : (bt s (n + 1) != 125) = true := by unfold bne; rw [h5]; rfl
            clear hm hbn h3 hn12
            go_enter Tryz.func49, Tryz.ntmps49
            go_wp2_with (go_at_call 50; refine (word_any _ _ HS.out).mono ?_; rintro e w2 ⟨rfl, hw⟩; rw [hw, hn])
            go_ret2
            exact ⟨by rw [HB.out.2.1, HB.out.2.2]; rfl, rfl⟩
          | true =>
            have hbn : braceN s = n := by unfold braceN; rw [hn, if_pos ⟨p0, eq_of_beq h0, hn0, hl, eq_of_beq h5⟩]
            have HB : Aside0 (braceN s = n ∧ braceK s = n + 2) := ⟨hbn, by unfold braceK; rw [hbn, if_neg hn0]⟩
            have h5' : (bt s (n + 1) != 125) = false := by unfold bne; rw [h5]; rfl
            have g0 : (0 : Int) ≤ (n : Int) := by omega
            have g1 : (1 : Int) ≤ (n : Int) + 1 := by omega
            have g2 : (n : Int) + 1 ≤ (s.size : Int) := by omega
            have g3 : (n : Int) + 1 < (s.size : Int) := by omega
            clear hm hbn h3 hn12
            go_enter Tryz.func49, Tryz.ntmps49
            go_wp2_with (go_at_call 50; refine (word_any _ _ HS.out).mono ?_; rintro e w2 ⟨rfl, hw⟩; rw [hw, hn])
            go_ret2
            exact ⟨by rw [HB.out.1, HB.out.2, ← wr2]; rfl, rfl⟩
        · have hbn := brace_no (s := s) (by rw [hn]; exact fun h => hl h.2.2.2.1)
          have HB := Aside0.mk hbn
          have c3 : decide ((s.size : Int) < wrap64 ((n : Int) + 2)) = true := decide_eq_true (by rw [wr2]; omega)
          clear hm hbn h3 hn12
          go_enter Tryz.func49, Tryz.ntmps49
          go_wp2_with (go_at_call 50; refine (word_any _ _ HS.out).mono ?_; rintro e w2 ⟨rfl, hw⟩; rw [hw, hn])
          go_ret2
          exact ⟨by rw [HB.out.2.1, HB.out.2.2]; rfl, rfl⟩
end Go.Proofs.YtmifmmpbmcfmpaaGreatDoor.IW
