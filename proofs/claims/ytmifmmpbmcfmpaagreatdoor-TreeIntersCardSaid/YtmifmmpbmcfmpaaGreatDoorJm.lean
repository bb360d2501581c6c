/-
  Names of one byte; what is left of the text.
-/
import Derived.Test.YtmifmmpbmcfmpaaGreatDoorJl
set_option linter.unusedVariables false
set_option linter.unusedSimpArgs false
namespace Go.Proofs.YtmifmmpbmcfmpaaGreatDoor.IW
open Go Go.RowKit
set_option maxRecDepth 100000

theorem eq_one (p : ByteArray) (h : p.size = 1) (c : UInt8) : (p.toList == [c]) = (bt p 0 == (c.toNat : Int)) := by
  rw [Lib.toList_data, bt_list]
  have hl : p.data.toList.length = 1 := by simpa using h
  cases hd : p.data.toList with
  | nil => rw [hd] at hl; simp at hl
  | cons x l =>
    rw [hd] at hl
    obtain rfl : l = [] := by simpa using hl
    have e := u8_eq x c
    simp only [List.getElem?_cons_zero, Option.map_some, Option.getD_some]
    rw [← e]
    simp
theorem special_cases (p : ByteArray) : special p = ((bt p 0 == 64) || (bt p 0 == 38) || (decide (bt p 0 ≥ 49) && decide (bt p 0 ≤ 57))) := by
  unfold special
  by_cases h1 : bt p 0 = 64
  · rw [h1]; rfl
  · by_cases h2 : bt p 0 = 38
    · rw [h2]; rfl
    · have e1 : (bt p 0 == 64) = false := by simpa using h1
      have e2 : (bt p 0 == 38) = false := by simpa using h2
      rw [e1, e2]
      by_cases h3 : 49 ≤ bt p 0 ∧ bt p 0 ≤ 57
      · rw [decide_eq_true (.inr (.inr h3)), decide_eq_true (show bt p 0 ≥ 49 from h3.1), decide_eq_true h3.2]; rfl
      · rw [decide_eq_false (by rintro (h | h | h); exact h1 h; exact h2 h; exact h3 h)]
        by_cases h4 : bt p 0 ≥ 49
        · rw [decide_eq_true h4, decide_eq_false (fun h => h3 ⟨h4, h⟩)]; rfl
        · rw [decide_eq_false h4]; rfl

set_option maxHeartbeats 1000000 in
theorem isSpecial_any (p : ByteArray) (w : World) (h1 : p.size = 1) : Calls Tryz.prog 51 #[.string p] w fun e w' => e = .returned (.bool (special p)) ∧ w' = w := by
  have HV := Aside0.mk (special_cases p)
  have HS : Aside0 (p.size ≤ 1000000) := ⟨by omega⟩
  have e64 : (p.toList == [64]) = (bt p 0 == 64) := eq_one p h1 64
  have e38 : (p.toList == [38]) = (bt p 0 == 38) := eq_one p h1 38
  have p0 : 0 < p.size := by omega
  have q0 : (0 : Int) < (p.size : Int) := by omega
  have l1 : ((p.size : Int) == 1) = true := by rw [h1]; rfl
  have l2 : decide ((p.size : Int) = 1) = true := by rw [h1]; rfl
  have l3 : decide (p.size = 1) = true := decide_eq_true h1
  have b0 := bt_at p 0 p0
  clear h1
  cases h64 : (bt p 0 == 64) with
  | true =>
    rw [h64] at e64 HV
    go_enter Tryz.func51, Tryz.ntmps51
    go_wp2
    go_ret
    exact ⟨by rw [HV.out]; rfl, rfl⟩
  | false =>
    rw [h64] at e64 HV
    cases h38 : (bt p 0 == 38) with
    | true =>
      rw [h38] at e38 HV
      go_enter Tryz.func51, Tryz.ntmps51
      go_wp2
      go_ret
      exact ⟨by rw [HV.out]; rfl, rfl⟩
    | false =>
      rw [h38] at e38 HV
      cases g1 : decide (bt p 0 ≥ 49) with
      | false =>
        rw [g1] at HV
        go_enter Tryz.func51, Tryz.ntmps51
        go_wp2
        go_ret
        exact ⟨by rw [HV.out]; rfl, rfl⟩
      | true =>
        rw [g1] at HV
        cases g2 : decide (bt p 0 ≤ 57) with
        | false =>
          rw [g2] at HV
          go_enter Tryz.func51, Tryz.ntmps51
          go_wp2
          go_ret
          exact ⟨by rw [HV.out]; rfl, rfl⟩
        | true =>
          rw [g2] at HV
          go_enter Tryz.func51, Tryz.ntmps51
          go_wp2
          go_ret
          exact ⟨by rw [HV.out]; rfl, rfl⟩
set_option maxHeartbeats 1000000 in
theorem isScalar_any (p : ByteArray) (w : World) (h1 : p.size = 1) (hW : isWordB p = false) : Calls Tryz.prog 59 #[.string p] w fun e w' => e = .returned (.bool (special p)) ∧ w' = w := by
  have HV := Aside0.mk (special_cases p)
  have HS : Aside0 (p.size ≤ 1000000) := ⟨by omega⟩
  have e64 : (p.toList == [64]) = (bt p 0 == 64) := eq_one p h1 64
  have e38 : (p.toList == [38]) = (bt p 0 == 38) := eq_one p h1 38
  have p0 : 0 < p.size := by omega
  have q0 : (0 : Int) < (p.size : Int) := by omega
  have l1 : ((p.size : Int) == 1) = true := by rw [h1]; rfl
  have l2 : decide ((p.size : Int) = 1) = true := by rw [h1]; rfl
  have l3 : decide (p.size = 1) = true := decide_eq_true h1
  have b0 := bt_at p 0 p0
  clear h1
  cases h64 : (bt p 0 == 64) with
  | true =>
    rw [h64] at e64 HV
    go_enter Tryz.func59, Tryz.ntmps59
    go_wp2_with (go_at_call 96; refine (isWord_any _ _ HS.out).mono ?_; rintro e w2 ⟨rfl, hw⟩; rw [hw, hW])
    go_ret
    exact ⟨by rw [HV.out]; rfl, rfl⟩
  | false =>
    rw [h64] at e64 HV
    cases h38 : (bt p 0 == 38) with
    | true =>
      rw [h38] at e38 HV
      go_enter Tryz.func59, Tryz.ntmps59
      go_wp2_with (go_at_call 96; refine (isWord_any _ _ HS.out).mono ?_; rintro e w2 ⟨rfl, hw⟩; rw [hw, hW])
      go_ret
      exact ⟨by rw [HV.out]; rfl, rfl⟩
    | false =>
      rw [h38] at e38 HV
      cases g1 : decide (bt p 0 ≥ 49) with
      | false =>
        rw [g1] at HV
        go_enter Tryz.func59, Tryz.ntmps59
        go_wp2_with (go_at_call 96; refine (isWord_any _ _ HS.out).mono ?_; rintro e w2 ⟨rfl, hw⟩; rw [hw, hW])
        go_ret
        exact ⟨by rw [HV.out]; rfl, rfl⟩
      | true =>
        rw [g1] at HV
        cases g2 : decide (bt p 0 ≤ 57) with
        | false =>
          rw [g2] at HV
          go_enter Tryz.func59, Tryz.ntmps59
          go_wp2_with (go_at_call 96; refine (isWord_any _ _ HS.out).mono ?_; rintro e w2 ⟨rfl, hw⟩; rw [hw, hW])
          go_ret
          exact ⟨by rw [HV.out]; rfl, rfl⟩
        | true =>
          rw [g2] at HV
          go_enter Tryz.func59, Tryz.ntmps59
          go_wp2_with (go_at_call 96; refine (isWord_any _ _ HS.out).mono ?_; rintro e w2 ⟨rfl, hw⟩; rw [hw, hW])
          go_ret
          exact ⟨by rw [HV.out]; rfl, rfl⟩
set_option maxHeartbeats 1000000 in
theorem isScalar_word (p : ByteArray) (w : World) (h1 : p.size ≤ 1000000) (hW : isWordB p = true) : Calls Tryz.prog 59 #[.string p] w fun e w' => e = .returned (.bool true) ∧ w' = w := by
  have HS := Aside0.mk h1
  clear h1
  go_enter Tryz.func59, Tryz.ntmps59
  go_wp2_with (go_at_call 96; refine (isWord_any _ _ HS.out).mono ?_; rintro e w2 ⟨rfl, hw⟩; rw [hw, hW])
  go_ret
  exact ⟨rfl, rfl⟩
theorem word_alpha {p : ByteArray} (h : isWordB p = true) : alphaI (bt p 0) = true := by
  unfold isWordB at h
  simp only [Bool.and_eq_true, decide_eq_true_eq, Bool.not_eq_true'] at h
  obtain ⟨⟨h1, h2⟩, h3⟩ := h
  have h0 : 0 < p.size := by
    rcases Nat.eq_zero_or_pos p.size with h | h
    · rw [toList_nil.2 h] at h1; exact absurd h1 (by decide)
    · exact h
  cases ha : alphaI (bt p 0) with
  | true => rfl
  | false =>
    have := (at_zero p).stop h0 (by rw [ha]; rfl) (fun h => h.1 rfl)
    omega
theorem special_alpha {p : ByteArray} (h : special p = true) : alphaI (bt p 0) = false := by
  unfold special at h
  simp only [decide_eq_true_eq] at h
  rcases h with h | h | h
  · rw [h]; rfl
  · rw [h]; rfl
  · unfold alphaI
    rw [decide_eq_false (by omega : ¬ (bt p 0 ≥ 97)), decide_eq_false (by omega : ¬ (bt p 0 ≥ 65)), decide_eq_false (by omega : ¬ (bt p 0 = 95))]
    rfl

set_option maxHeartbeats 1000000 in
theorem rest_any (w : World) (base b : Nat) (s : ByteArray) (n : Nat) (tv lv : Value) (bs : List UInt8) (nds : List Nd) (vs : List Value) (R : RI w base b 48 s (.int .i64 n) tv bs lv nds vs) (hn : n ≤ s.size) :
    Calls Tryz.prog 54 #[.pointer (some ⟨b, 0, none⟩)] w fun e w' => e = .returned (.string (s.extract n s.size)) ∧ ∃ m, w' = w.drewN m := by
  obtain ⟨x0, x1, x2, x3, xf⟩ := R.cell
  have p1 : (0 : Int) ≤ (n : Int) := by omega
  have p2 : (n : Int) ≤ (s.size : Int) := by omega
  clear R hn
  go_enter Tryz.func54, Tryz.ntmps54
  go_wp2
  go_quiet (fail)
  go_wp2
  go_ret
  exact ⟨rfl, _, rfl⟩
end Go.Proofs.YtmifmmpbmcfmpaaGreatDoor.IW
