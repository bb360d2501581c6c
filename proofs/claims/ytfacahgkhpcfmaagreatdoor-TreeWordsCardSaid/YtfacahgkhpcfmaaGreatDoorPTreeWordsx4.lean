-- PRINTED BY print.sh 35421559b90ae4d0a3588c463048766b98c2df88dd9212a6774a882060cdf62d: not written by this session
import Derived.Test.YtfacahgkhpcfmaaGreatDoorPTreeWordsx0
namespace Go.Proofs.YtfacahgkhpcfmaaGreatDoor.PTreeWords
open Go.RowKit Go.Proofs.YtfacahgkhpcfmaaGreatDoorW.PrintWords Go.Proofs.YtfacahgkhpcfmaaGreatDoorW.PrintLast Go.Proofs.YtfacahgkhpcfmaaGreatDoorW.PrintMore
attribute [local go_sem] max2_int min2_int max_two min_two max_three min_three max_four min_four   -- for this text's walks alone
set_option linter.unusedVariables false
set_option linter.unusedSimpArgs false

/-! ### motleyref04_Arity: function 6 -/
mutual
def motleyref04_Arity.j0 : Nat → ByteArray → Bool → Option (Int × Int × Bool)
  | 0, _, _ => none
  | k + 1, x5, x6 => if x6 = true then (some (0, (-1), true)) else (if x5.toList = ([112, 117, 115, 104] : List UInt8) then (motleyref04_Arity.j1 k x5 (x5.toList == ([112, 117, 115, 104] : List UInt8))) else (if x5.toList = ([117, 110, 115, 104, 105, 102, 116] : List UInt8) then (motleyref04_Arity.j1 k x5 (x5.toList == ([117, 110, 115, 104, 105, 102, 116] : List UInt8))) else (motleyref04_Arity.j1 k x5 (x5.toList == ([106, 111, 105, 110] : List UInt8)))))
def motleyref04_Arity.j1 : Nat → ByteArray → Bool → Option (Int × Int × Bool)
  | 0, _, _ => none
  | k + 1, x5, x10 => if x10 = true then (some (1, (-1), true)) else (if x5.toList = ([116, 105, 101] : List UInt8) then (some (2, (-1), true)) else (if x5.toList = ([115, 104, 105, 102, 116] : List UInt8) then (motleyref04_Arity.j2 k x5 (x5.toList == ([115, 104, 105, 102, 116] : List UInt8))) else (motleyref04_Arity.j2 k x5 (x5.toList == ([117, 110, 100, 101, 102] : List UInt8)))))
def motleyref04_Arity.j2 : Nat → ByteArray → Bool → Option (Int × Int × Bool)
  | 0, _, _ => none
  | k + 1, x5, x16 => if x16 = true then (some (0, 1, true)) else (if x5.toList = ([119, 97, 110, 116, 97, 114, 114, 97, 121] : List UInt8) then (motleyref04_Arity.j3 k x5 (x5.toList == ([119, 97, 110, 116, 97, 114, 114, 97, 121] : List UInt8))) else (motleyref04_Arity.j3 k x5 (x5.toList == ([105, 110, 112, 117, 116] : List UInt8))))
def motleyref04_Arity.j3 : Nat → ByteArray → Bool → Option (Int × Int × Bool)
  | 0, _, _ => none
  | k + 1, x5, x19 => if x19 = true then (some (0, 0, true)) else (if x5.toList = ([115, 112, 108, 105, 116] : List UInt8) then (motleyref04_Arity.j4 k x5 (x5.toList == ([115, 112, 108, 105, 116] : List UInt8))) else (if x5.toList = ([105, 110, 100, 101, 120] : List UInt8) then (motleyref04_Arity.j4 k x5 (x5.toList == ([105, 110, 100, 101, 120] : List UInt8))) else (motleyref04_Arity.j4 k x5 (x5.toList == ([98, 108, 101, 115, 115] : List UInt8)))))
def motleyref04_Arity.j4 : Nat → ByteArray → Bool → Option (Int × Int × Bool)
  | 0, _, _ => none
  | k + 1, x5, x22 => if x22 = true then (some (2, 2, true)) else (if x5.toList = ([115, 117, 98, 115, 116, 114] : List UInt8) then (some (2, 3, true)) else (if x5.toList = ([112, 111, 112] : List UInt8) then (some (1, 1, true)) else (if x5.toList = ([107, 101, 121, 115] : List UInt8) then (some (1, 1, true)) else (if x5.toList = ([118, 97, 108, 117, 101, 115] : List UInt8) then (some (1, 1, true)) else (if x5.toList = ([100, 101, 108, 101, 116, 101] : List UInt8) then (some (1, 1, true)) else (if x5.toList = ([101, 120, 105, 115, 116, 115] : List UInt8) then (some (1, 1, true)) else (if x5.toList = ([100, 101, 102, 105, 110, 101, 100] : List UInt8) then (some (1, 1, true)) else (if x5.toList = ([115, 99, 97, 108, 97, 114] : List UInt8) then (some (1, 1, true)) else (if x5.toList = ([108, 101, 110, 103, 116, 104] : List UInt8) then (some (1, 1, true)) else (if x5.toList = ([117, 99] : List UInt8) then (some (1, 1, true)) else (if x5.toList = ([108, 99] : List UInt8) then (some (1, 1, true)) else (if x5.toList = ([111, 114, 100] : List UInt8) then (some (1, 1, true)) else (if x5.toList = ([99, 104, 114] : List UInt8) then (some (1, 1, true)) else (if x5.toList = ([114, 101, 102] : List UInt8) then (some (1, 1, true)) else (if x5.toList = ([119, 101, 97, 107, 101, 110] : List UInt8) then (some (1, 1, true)) else (if x5.toList = ([117, 110, 116, 105, 101] : List UInt8) then (some (1, 1, true)) else (if x5.toList = ([103, 117, 97, 114, 100] : List UInt8) then (some (1, 1, true)) else (if x5.toList = ([116, 97, 105, 110, 116, 101, 100] : List UInt8) then (some (1, 1, true)) else (if x5.toList = ([97, 98, 115] : List UInt8) then (some (1, 1, true)) else (if x5.toList = ([101, 118, 97, 108, 117, 97, 116, 101] : List UInt8) then (some (1, 1, true)) else (some (0, 0, false))))))))))))))))))))))
end
def motleyref04_Arity.f (k : Nat) (a0 : ByteArray) : Option (Int × Int × Bool) := if a0.toList = ([112, 114, 105, 110, 116] : List UInt8) then (motleyref04_Arity.j0 k a0 (a0.toList == ([112, 114, 105, 110, 116] : List UInt8))) else (if a0.toList = ([114, 101, 118, 101, 114, 115, 101] : List UInt8) then (motleyref04_Arity.j0 k a0 (a0.toList == ([114, 101, 118, 101, 114, 115, 101] : List UInt8))) else (motleyref04_Arity.j0 k a0 (a0.toList == ([100, 105, 101] : List UInt8))))
theorem motleyref04_Arity.mono_l : ∀ k, (∀ y0 y1, LeO (motleyref04_Arity.j0 k y0 y1) (motleyref04_Arity.j0 (k + 1) y0 y1)) ∧ (∀ y0 y1, LeO (motleyref04_Arity.j1 k y0 y1) (motleyref04_Arity.j1 (k + 1) y0 y1)) ∧ (∀ y0 y1, LeO (motleyref04_Arity.j2 k y0 y1) (motleyref04_Arity.j2 (k + 1) y0 y1)) ∧ (∀ y0 y1, LeO (motleyref04_Arity.j3 k y0 y1) (motleyref04_Arity.j3 (k + 1) y0 y1)) ∧ (∀ y0 y1, LeO (motleyref04_Arity.j4 k y0 y1) (motleyref04_Arity.j4 (k + 1) y0 y1))
  | 0 => ⟨fun _ _ r h => by simp [motleyref04_Arity.j0] at h, fun _ _ r h => by simp [motleyref04_Arity.j1] at h, fun _ _ r h => by simp [motleyref04_Arity.j2] at h, fun _ _ r h => by simp [motleyref04_Arity.j3] at h, fun _ _ r h => by simp [motleyref04_Arity.j4] at h⟩
  | k + 1 => by
    obtain ⟨ih0, ih1, ih2, ih3, ih4⟩ := motleyref04_Arity.mono_l k
    refine ⟨?_, ?_, ?_, ?_, ?_⟩
    · intro y0 y1
      unfold motleyref04_Arity.j0
      repeat' first
      | (with_reducible exact ih0 _ _)
      | (with_reducible exact ih1 _ _)
      | (with_reducible exact ih2 _ _)
      | (with_reducible exact ih3 _ _)
      | (with_reducible exact ih4 _ _)
      | (with_reducible exact LeO.refl _)
      | (with_reducible exact LeO.none _)
      | (with_reducible refine LeO.ite ?_ ?_)
      | (with_reducible refine LeO.bind ?_ (fun _ => ?_))
      | exact ih0 _ _
      | exact ih1 _ _
      | exact ih2 _ _
      | exact ih3 _ _
      | exact ih4 _ _
      | exact LeO.none _
      | refine LeO.ite ?_ ?_
      | refine LeO.bind ?_ (fun _ => ?_)
    · intro y0 y1
      unfold motleyref04_Arity.j1
      repeat' first
      | (with_reducible exact ih0 _ _)
      | (with_reducible exact ih1 _ _)
      | (with_reducible exact ih2 _ _)
      | (with_reducible exact ih3 _ _)
      | (with_reducible exact ih4 _ _)
      | (with_reducible exact LeO.refl _)
      | (with_reducible exact LeO.none _)
      | (with_reducible refine LeO.ite ?_ ?_)
      | (with_reducible refine LeO.bind ?_ (fun _ => ?_))
      | exact ih0 _ _
      | exact ih1 _ _
      | exact ih2 _ _
      | exact ih3 _ _
      | exact ih4 _ _
      | exact LeO.none _
      | refine LeO.ite ?_ ?_
      | refine LeO.bind ?_ (fun _ => ?_)
    · intro y0 y1
      unfold motleyref04_Arity.j2
      repeat' first
      | (with_reducible exact ih0 _ _)
      | (with_reducible exact ih1 _ _)
      | (with_reducible exact ih2 _ _)
      | (with_reducible exact ih3 _ _)
      | (with_reducible exact ih4 _ _)
      | (with_reducible exact LeO.refl _)
      | (with_reducible exact LeO.none _)
      | (with_reducible refine LeO.ite ?_ ?_)
      | (with_reducible refine LeO.bind ?_ (fun _ => ?_))
      | exact ih0 _ _
      | exact ih1 _ _
      | exact ih2 _ _
      | exact ih3 _ _
      | exact ih4 _ _
      | exact LeO.none _
      | refine LeO.ite ?_ ?_
      | refine LeO.bind ?_ (fun _ => ?_)
    · intro y0 y1
      unfold motleyref04_Arity.j3
      repeat' first
      | (with_reducible exact ih0 _ _)
      | (with_reducible exact ih1 _ _)
      | (with_reducible exact ih2 _ _)
      | (with_reducible exact ih3 _ _)
      | (with_reducible exact ih4 _ _)
      | (with_reducible exact LeO.refl _)
      | (with_reducible exact LeO.none _)
      | (with_reducible refine LeO.ite ?_ ?_)
      | (with_reducible refine LeO.bind ?_ (fun _ => ?_))
      | exact ih0 _ _
      | exact ih1 _ _
      | exact ih2 _ _
      | exact ih3 _ _
      | exact ih4 _ _
      | exact LeO.none _
      | refine LeO.ite ?_ ?_
      | refine LeO.bind ?_ (fun _ => ?_)
    · intro y0 y1
      unfold motleyref04_Arity.j4
      repeat' first
      | (with_reducible exact ih0 _ _)
      | (with_reducible exact ih1 _ _)
      | (with_reducible exact ih2 _ _)
      | (with_reducible exact ih3 _ _)
      | (with_reducible exact ih4 _ _)
      | (with_reducible exact LeO.refl _)
      | (with_reducible exact LeO.none _)
      | (with_reducible refine LeO.ite ?_ ?_)
      | (with_reducible refine LeO.bind ?_ (fun _ => ?_))
      | exact ih0 _ _
      | exact ih1 _ _
      | exact ih2 _ _
      | exact ih3 _ _
      | exact ih4 _ _
      | exact LeO.none _
      | refine LeO.ite ?_ ?_
      | refine LeO.bind ?_ (fun _ => ?_)
theorem motleyref04_Arity.mono : ∀ a0 k, LeO (motleyref04_Arity.f k a0) (motleyref04_Arity.f (k + 1) a0) := by
  intro a0 k
  obtain ⟨ih0, ih1, ih2, ih3, ih4⟩ := motleyref04_Arity.mono_l k
  unfold motleyref04_Arity.f
  repeat' first
      | (with_reducible exact ih0 _ _)
      | (with_reducible exact ih1 _ _)
      | (with_reducible exact ih2 _ _)
      | (with_reducible exact ih3 _ _)
      | (with_reducible exact ih4 _ _)
      | (with_reducible exact LeO.refl _)
      | (with_reducible exact LeO.none _)
      | (with_reducible refine LeO.ite ?_ ?_)
      | (with_reducible refine LeO.bind ?_ (fun _ => ?_))
      | exact ih0 _ _
      | exact ih1 _ _
      | exact ih2 _ _
      | exact ih3 _ _
      | exact ih4 _ _
      | exact LeO.none _
      | refine LeO.ite ?_ ?_
      | refine LeO.bind ?_ (fun _ => ?_)
set_option maxHeartbeats 8000000 in
set_option maxRecDepth 100000 in
theorem motleyref04_Arity.calls (k : Nat) (a0 : ByteArray) (r1 : Int) (r2 : Int) (r3 : Bool) (w : World) (h : motleyref04_Arity.f k a0 = some (r1, r2, r3)) :
    Calls Tryz.prog 6 #[.string a0] w fun e w' => e = .returned (.tuple #[.int .i64 r1, .int .i64 r2, .bool r3]) ∧ Drawn0 w w' := by
  have H : (if a0.toList = ([112, 114, 105, 110, 116] : List UInt8) then (motleyref04_Arity.j0 k a0 (a0.toList == ([112, 114, 105, 110, 116] : List UInt8))) else (if a0.toList = ([114, 101, 118, 101, 114, 115, 101] : List UInt8) then (motleyref04_Arity.j0 k a0 (a0.toList == ([114, 101, 118, 101, 114, 115, 101] : List UInt8))) else (motleyref04_Arity.j0 k a0 (a0.toList == ([100, 105, 101] : List UInt8))))) = some (r1, r2, r3) := h
  clear h
  have HC2 := Aside0.mk H
  clear H
  go_enter Tryz.func6, Tryz.ntmps6
  go_upto_if 6 with (fail)
  go_cut [6] (fun v6 wc => ∃ (kq : Nat) (x6_1 : Bool), v6 = .bool x6_1 ∧ Aside0 (motleyref04_Arity.j0 kq a0 x6_1 = some (r1, r2, r3)) ∧ Aside0 (kq ≤ k) ∧ Drawn0 w wc)
  case first =>
    have H := HC2.out
    clear HC2
    by_cases c3 : a0.toList = ([112, 114, 105, 110, 116] : List UInt8)
    · rw [if_pos c3] at H
      have c3b0 : (a0.toList == ([112, 114, 105, 110, 116] : List UInt8)) = true := beq_iff_eq.mpr c3
      have c3b1 : (a0.toList != ([112, 114, 105, 110, 116] : List UInt8)) = false := bne_eq_false_iff_eq.mpr c3
      clear c3
      (first | rw [c3b0] | (simp only [i64_w, i32_w]; rw [c3b0]) | skip)
      have H' := Aside0.mk H
      clear H
      go_wp2
      go_meet
      case rel => exact ⟨_, ((a0.toList == ([112, 114, 105, 110, 116] : List UInt8))), (by first | rfl | (simp; done) | (simp [*]; done)), H', ⟨by first | omega | exact Nat.le_refl _⟩, by repeat (first | exact Drawn0.refl _ | apply Drawn0.step)⟩
    · rw [if_neg c3] at H
      have c3b0 : (a0.toList == ([112, 114, 105, 110, 116] : List UInt8)) = false := beq_eq_false_iff_ne.mpr c3
      have c3b1 : (a0.toList != ([112, 114, 105, 110, 116] : List UInt8)) = true := bne_iff_ne.mpr c3
      (first | rw [c3b0] | (simp only [i64_w, i32_w]; rw [c3b0]) | skip)
      by_cases c4 : a0.toList = ([114, 101, 118, 101, 114, 115, 101] : List UInt8)
      · rw [if_pos c4] at H
        have c4b0 : (a0.toList == ([114, 101, 118, 101, 114, 115, 101] : List UInt8)) = true := beq_iff_eq.mpr c4
        have c4b1 : (a0.toList != ([114, 101, 118, 101, 114, 115, 101] : List UInt8)) = false := bne_eq_false_iff_eq.mpr c4
        clear c4
        have H' := Aside0.mk H
        clear H
        go_wp2
        go_meet
        case rel => exact ⟨_, ((a0.toList == ([114, 101, 118, 101, 114, 115, 101] : List UInt8))), (by first | rfl | (simp; done) | (simp [*]; done)), H', ⟨by first | omega | exact Nat.le_refl _⟩, by repeat (first | exact Drawn0.refl _ | apply Drawn0.step)⟩
      · rw [if_neg c4] at H
        have c4b0 : (a0.toList == ([114, 101, 118, 101, 114, 115, 101] : List UInt8)) = false := beq_eq_false_iff_ne.mpr c4
        have c4b1 : (a0.toList != ([114, 101, 118, 101, 114, 115, 101] : List UInt8)) = true := bne_iff_ne.mpr c4
        have H' := Aside0.mk H
        clear H
        go_wp2
        go_meet
        case rel => exact ⟨_, ((a0.toList == ([100, 105, 101] : List UInt8))), (by first | rfl | (simp; done) | (simp [*]; done)), H', ⟨by first | omega | exact Nat.le_refl _⟩, by repeat (first | exact Drawn0.refl _ | apply Drawn0.step)⟩
  case rest =>
    clear HC2
    try clear p2
    try clear c3
    try clear c3b0
    try clear c3b1
    try clear c4
    try clear c4b0
    try clear c4b1
    obtain ⟨kq, x6_1, rfl, HA, HJ1, ⟨mc1, rfl⟩⟩ := hcut
    cases kq with
    | zero => exact absurd HA.out (by simp [motleyref04_Arity.j0])
    | succ kj1 =>
      have H := HA.out
      clear HA
      simp only [motleyref04_Arity.j0] at H
      by_cases c5 : x6_1 = true
      · subst c5
        have H1 : (some (0, (-1), true)) = some (r1, r2, r3) := by rw [if_pos rfl] at H; exact H
        clear H
        have H := H1
        clear H1
        simp only [Option.some.injEq, Prod.mk.injEq] at H
        obtain ⟨rfl, rfl, rfl⟩ := H
        go_wp2
        go_ret3
        exact ⟨by first | rfl | (simp; done) | (simp [*]; done), by repeat (first | exact Drawn0.refl _ | apply Drawn0.step)⟩
      · replace c5 := Bool.eq_false_iff.mpr c5
        subst c5
        have H1 : (if a0.toList = ([112, 117, 115, 104] : List UInt8) then (motleyref04_Arity.j1 kj1 a0 (a0.toList == ([112, 117, 115, 104] : List UInt8))) else (if a0.toList = ([117, 110, 115, 104, 105, 102, 116] : List UInt8) then (motleyref04_Arity.j1 kj1 a0 (a0.toList == ([117, 110, 115, 104, 105, 102, 116] : List UInt8))) else (motleyref04_Arity.j1 kj1 a0 (a0.toList == ([106, 111, 105, 110] : List UInt8))))) = some (r1, r2, r3) := by rw [if_neg (show ¬ (false = true) by decide)] at H; exact H
        clear H
        have H := H1
        clear H1
        have HC6 := Aside0.mk H
        clear H
        go_upto_if 10 with (fail)
        go_cut [10] (fun v10 wc => ∃ (kq : Nat) (x10_5 : Bool), v10 = .bool x10_5 ∧ Aside0 (motleyref04_Arity.j1 kq a0 x10_5 = some (r1, r2, r3)) ∧ Aside0 (kq ≤ kj1) ∧ Drawn0 w wc)
        case first =>
          have H := HC6.out
          clear HC6
          by_cases c7 : a0.toList = ([112, 117, 115, 104] : List UInt8)
          · rw [if_pos c7] at H
            have c7b0 : (a0.toList == ([112, 117, 115, 104] : List UInt8)) = true := beq_iff_eq.mpr c7
            have c7b1 : (a0.toList != ([112, 117, 115, 104] : List UInt8)) = false := bne_eq_false_iff_eq.mpr c7
            clear c7
            (first | rw [c7b0] | (simp only [i64_w, i32_w]; rw [c7b0]) | skip)
            have H' := Aside0.mk H
            clear H
            go_wp2
            go_meet
            case rel => exact ⟨_, ((a0.toList == ([112, 117, 115, 104] : List UInt8))), (by first | rfl | (simp; done) | (simp [*]; done)), H', ⟨by have := HJ1.out; first | omega | exact Nat.le_refl _⟩, by repeat (first | exact Drawn0.refl _ | apply Drawn0.step)⟩
          · rw [if_neg c7] at H
            have c7b0 : (a0.toList == ([112, 117, 115, 104] : List UInt8)) = false := beq_eq_false_iff_ne.mpr c7
            have c7b1 : (a0.toList != ([112, 117, 115, 104] : List UInt8)) = true := bne_iff_ne.mpr c7
            (first | rw [c7b0] | (simp only [i64_w, i32_w]; rw [c7b0]) | skip)
            by_cases c8 : a0.toList = ([117, 110, 115, 104, 105, 102, 116] : List UInt8)
            · rw [if_pos c8] at H
              have c8b0 : (a0.toList == ([117, 110, 115, 104, 105, 102, 116] : List UInt8)) = true := beq_iff_eq.mpr c8
              have c8b1 : (a0.toList != ([117, 110, 115, 104, 105, 102, 116] : List UInt8)) = false := bne_eq_false_iff_eq.mpr c8
              clear c8
              have H' := Aside0.mk H
              clear H
              go_wp2
              go_meet
              case rel => exact ⟨_, ((a0.toList == ([117, 110, 115, 104, 105, 102, 116] : List UInt8))), (by first | rfl | (simp; done) | (simp [*]; done)), H', ⟨by have := HJ1.out; first | omega | exact Nat.le_refl _⟩, by repeat (first | exact Drawn0.refl _ | apply Drawn0.step)⟩
            · rw [if_neg c8] at H
              have c8b0 : (a0.toList == ([117, 110, 115, 104, 105, 102, 116] : List UInt8)) = false := beq_eq_false_iff_ne.mpr c8
              have c8b1 : (a0.toList != ([117, 110, 115, 104, 105, 102, 116] : List UInt8)) = true := bne_iff_ne.mpr c8
              have H' := Aside0.mk H
              clear H
              go_wp2
              go_meet
              case rel => exact ⟨_, ((a0.toList == ([106, 111, 105, 110] : List UInt8))), (by first | rfl | (simp; done) | (simp [*]; done)), H', ⟨by have := HJ1.out; first | omega | exact Nat.le_refl _⟩, by repeat (first | exact Drawn0.refl _ | apply Drawn0.step)⟩
        case rest =>
          clear HC6
          try clear c1
          try clear p2
          try clear c3
          try clear c3b0
          try clear c3b1
          try clear c4
          try clear c4b0
          try clear c4b1
          try clear c5
          try clear c6
          try clear c7
          try clear c7b0
          try clear c7b1
          try clear c8
          try clear c8b0
          try clear c8b1
          try clear p2
          obtain ⟨kq, x10_5, rfl, HA, HJ5, ⟨mc5, rfl⟩⟩ := hcut
          cases kq with
          | zero => exact absurd HA.out (by simp [motleyref04_Arity.j1])
          | succ kj5 =>
            have H := HA.out
            clear HA
            simp only [motleyref04_Arity.j1] at H
            by_cases c9 : x10_5 = true
            · subst c9
              have H1 : (some (1, (-1), true)) = some (r1, r2, r3) := by rw [if_pos rfl] at H; exact H
              clear H
              have H := H1
              clear H1
              simp only [Option.some.injEq, Prod.mk.injEq] at H
              obtain ⟨rfl, rfl, rfl⟩ := H
              go_wp2
              go_ret3
              exact ⟨by first | rfl | (simp; done) | (simp [*]; done), by repeat (first | exact Drawn0.refl _ | apply Drawn0.step)⟩
            · replace c9 := Bool.eq_false_iff.mpr c9
              subst c9
              have H1 : (if a0.toList = ([116, 105, 101] : List UInt8) then (some (2, (-1), true)) else (if a0.toList = ([115, 104, 105, 102, 116] : List UInt8) then (motleyref04_Arity.j2 kj5 a0 (a0.toList == ([115, 104, 105, 102, 116] : List UInt8))) else (motleyref04_Arity.j2 kj5 a0 (a0.toList == ([117, 110, 100, 101, 102] : List UInt8))))) = some (r1, r2, r3) := by rw [if_neg (show ¬ (false = true) by decide)] at H; exact H
              clear H
              have H := H1
              clear H1
              by_cases c10 : a0.toList = ([116, 105, 101] : List UInt8)
              · rw [if_pos c10] at H
                have c10b0 : (a0.toList == ([116, 105, 101] : List UInt8)) = true := beq_iff_eq.mpr c10
                have c10b1 : (a0.toList != ([116, 105, 101] : List UInt8)) = false := bne_eq_false_iff_eq.mpr c10
                clear c10
                simp only [Option.some.injEq, Prod.mk.injEq] at H
                obtain ⟨rfl, rfl, rfl⟩ := H
                go_wp2
                go_ret3
                exact ⟨by first | rfl | (simp; done) | (simp [*]; done), by repeat (first | exact Drawn0.refl _ | apply Drawn0.step)⟩
              · rw [if_neg c10] at H
                have c10b0 : (a0.toList == ([116, 105, 101] : List UInt8)) = false := beq_eq_false_iff_ne.mpr c10
                have c10b1 : (a0.toList != ([116, 105, 101] : List UInt8)) = true := bne_iff_ne.mpr c10
                have HC11 := Aside0.mk H
                clear H
                go_upto_if 16 with (fail)
                go_cut [16] (fun v16 wc => ∃ (kq : Nat) (x16_10 : Bool), v16 = .bool x16_10 ∧ Aside0 (motleyref04_Arity.j2 kq a0 x16_10 = some (r1, r2, r3)) ∧ Aside0 (kq ≤ kj5) ∧ Drawn0 w wc)
                case first =>
                  have H := HC11.out
                  clear HC11
                  by_cases c12 : a0.toList = ([115, 104, 105, 102, 116] : List UInt8)
                  · rw [if_pos c12] at H
                    have c12b0 : (a0.toList == ([115, 104, 105, 102, 116] : List UInt8)) = true := beq_iff_eq.mpr c12
                    have c12b1 : (a0.toList != ([115, 104, 105, 102, 116] : List UInt8)) = false := bne_eq_false_iff_eq.mpr c12
                    clear c12
                    (first | rw [c12b0] | (simp only [i64_w, i32_w]; rw [c12b0]) | skip)
                    have H' := Aside0.mk H
                    clear H
                    go_wp2
                    go_meet
                    case rel => exact ⟨_, ((a0.toList == ([115, 104, 105, 102, 116] : List UInt8))), (by first | rfl | (simp; done) | (simp [*]; done)), H', ⟨by have := HJ1.out; have := HJ5.out; first | omega | exact Nat.le_refl _⟩, by repeat (first | exact Drawn0.refl _ | apply Drawn0.step)⟩
                  · rw [if_neg c12] at H
                    have c12b0 : (a0.toList == ([115, 104, 105, 102, 116] : List UInt8)) = false := beq_eq_false_iff_ne.mpr c12
                    have c12b1 : (a0.toList != ([115, 104, 105, 102, 116] : List UInt8)) = true := bne_iff_ne.mpr c12
                    (first | rw [c12b0] | (simp only [i64_w, i32_w]; rw [c12b0]) | skip)
                    have H' := Aside0.mk H
                    clear H
                    go_wp2
                    go_meet
                    case rel => exact ⟨_, ((a0.toList == ([117, 110, 100, 101, 102] : List UInt8))), (by first | rfl | (simp; done) | (simp [*]; done)), H', ⟨by have := HJ1.out; have := HJ5.out; first | omega | exact Nat.le_refl _⟩, by repeat (first | exact Drawn0.refl _ | apply Drawn0.step)⟩
                case rest =>
                  clear HC11
                  try clear c1
                  try clear p2
                  try clear c3
                  try clear c3b0
                  try clear c3b1
                  try clear c4
                  try clear c4b0
                  try clear c4b1
                  try clear c5
                  try clear c6
                  try clear c7
                  try clear c7b0
                  try clear c7b1
                  try clear c8
                  try clear c8b0
                  try clear c8b1
                  try clear c9
                  try clear c10
                  try clear c10b0
                  try clear c10b1
                  try clear c12
                  try clear c12b0
                  try clear c12b1
                  try clear p2
                  obtain ⟨kq, x16_10, rfl, HA, HJ10, ⟨mc10, rfl⟩⟩ := hcut
                  cases kq with
                  | zero => exact absurd HA.out (by simp [motleyref04_Arity.j2])
                  | succ kj10 =>
                    have H := HA.out
                    clear HA
                    simp only [motleyref04_Arity.j2] at H
                    by_cases c13 : x16_10 = true
                    · subst c13
                      have H1 : (some (0, 1, true)) = some (r1, r2, r3) := by rw [if_pos rfl] at H; exact H
                      clear H
                      have H := H1
                      clear H1
                      simp only [Option.some.injEq, Prod.mk.injEq] at H
                      obtain ⟨rfl, rfl, rfl⟩ := H
                      go_wp2
                      go_ret3
                      exact ⟨by first | rfl | (simp; done) | (simp [*]; done), by repeat (first | exact Drawn0.refl _ | apply Drawn0.step)⟩
                    · replace c13 := Bool.eq_false_iff.mpr c13
                      subst c13
                      have H1 : (if a0.toList = ([119, 97, 110, 116, 97, 114, 114, 97, 121] : List UInt8) then (motleyref04_Arity.j3 kj10 a0 (a0.toList == ([119, 97, 110, 116, 97, 114, 114, 97, 121] : List UInt8))) else (motleyref04_Arity.j3 kj10 a0 (a0.toList == ([105, 110, 112, 117, 116] : List UInt8)))) = some (r1, r2, r3) := by rw [if_neg (show ¬ (false = true) by decide)] at H; exact H
                      clear H
                      have H := H1
                      clear H1
                      have HC14 := Aside0.mk H
                      clear H
                      go_upto_if 19 with (fail)
                      go_cut [19] (fun v19 wc => ∃ (kq : Nat) (x19_13 : Bool), v19 = .bool x19_13 ∧ Aside0 (motleyref04_Arity.j3 kq a0 x19_13 = some (r1, r2, r3)) ∧ Aside0 (kq ≤ kj10) ∧ Drawn0 w wc)
                      case first =>
                        have H := HC14.out
                        clear HC14
                        by_cases c15 : a0.toList = ([119, 97, 110, 116, 97, 114, 114, 97, 121] : List UInt8)
                        · rw [if_pos c15] at H
                          have c15b0 : (a0.toList == ([119, 97, 110, 116, 97, 114, 114, 97, 121] : List UInt8)) = true := beq_iff_eq.mpr c15
                          have c15b1 : (a0.toList != ([119, 97, 110, 116, 97, 114, 114, 97, 121] : List UInt8)) = false := bne_eq_false_iff_eq.mpr c15
                          clear c15
                          (first | rw [c15b0] | (simp only [i64_w, i32_w]; rw [c15b0]) | skip)
                          have H' := Aside0.mk H
                          clear H
                          go_wp2
                          go_meet
                          case rel => exact ⟨_, ((a0.toList == ([119, 97, 110, 116, 97, 114, 114, 97, 121] : List UInt8))), (by first | rfl | (simp; done) | (simp [*]; done)), H', ⟨by have := HJ1.out; have := HJ5.out; have := HJ10.out; first | omega | exact Nat.le_refl _⟩, by repeat (first | exact Drawn0.refl _ | apply Drawn0.step)⟩
                        · rw [if_neg c15] at H
                          have c15b0 : (a0.toList == ([119, 97, 110, 116, 97, 114, 114, 97, 121] : List UInt8)) = false := beq_eq_false_iff_ne.mpr c15
                          have c15b1 : (a0.toList != ([119, 97, 110, 116, 97, 114, 114, 97, 121] : List UInt8)) = true := bne_iff_ne.mpr c15
                          (first | rw [c15b0] | (simp only [i64_w, i32_w]; rw [c15b0]) | skip)
                          have H' := Aside0.mk H
                          clear H
                          go_wp2
                          go_meet
                          case rel => exact ⟨_, ((a0.toList == ([105, 110, 112, 117, 116] : List UInt8))), (by first | rfl | (simp; done) | (simp [*]; done)), H', ⟨by have := HJ1.out; have := HJ5.out; have := HJ10.out; first | omega | exact Nat.le_refl _⟩, by repeat (first | exact Drawn0.refl _ | apply Drawn0.step)⟩
                      case rest =>
                        clear HC14
                        try clear c1
                        try clear p2
                        try clear c3
                        try clear c3b0
                        try clear c3b1
                        try clear c4
                        try clear c4b0
                        try clear c4b1
                        try clear c5
                        try clear c6
                        try clear c7
                        try clear c7b0
                        try clear c7b1
                        try clear c8
                        try clear c8b0
                        try clear c8b1
                        try clear c9
                        try clear c10
                        try clear c10b0
                        try clear c10b1
                        try clear c12
                        try clear c12b0
                        try clear c12b1
                        try clear c13
                        try clear c15
                        try clear c15b0
                        try clear c15b1
                        try clear p2
                        obtain ⟨kq, x19_13, rfl, HA, HJ13, ⟨mc13, rfl⟩⟩ := hcut
                        cases kq with
                        | zero => exact absurd HA.out (by simp [motleyref04_Arity.j3])
                        | succ kj13 =>
                          have H := HA.out
                          clear HA
                          simp only [motleyref04_Arity.j3] at H
                          by_cases c16 : x19_13 = true
                          · subst c16
                            have H1 : (some (0, 0, true)) = some (r1, r2, r3) := by rw [if_pos rfl] at H; exact H
                            clear H
                            have H := H1
                            clear H1
                            simp only [Option.some.injEq, Prod.mk.injEq] at H
                            obtain ⟨rfl, rfl, rfl⟩ := H
                            go_wp2
                            go_ret3
                            exact ⟨by first | rfl | (simp; done) | (simp [*]; done), by repeat (first | exact Drawn0.refl _ | apply Drawn0.step)⟩
                          · replace c16 := Bool.eq_false_iff.mpr c16
                            subst c16
                            have H1 : (if a0.toList = ([115, 112, 108, 105, 116] : List UInt8) then (motleyref04_Arity.j4 kj13 a0 (a0.toList == ([115, 112, 108, 105, 116] : List UInt8))) else (if a0.toList = ([105, 110, 100, 101, 120] : List UInt8) then (motleyref04_Arity.j4 kj13 a0 (a0.toList == ([105, 110, 100, 101, 120] : List UInt8))) else (motleyref04_Arity.j4 kj13 a0 (a0.toList == ([98, 108, 101, 115, 115] : List UInt8))))) = some (r1, r2, r3) := by rw [if_neg (show ¬ (false = true) by decide)] at H; exact H
                            clear H
                            have H := H1
                            clear H1
                            have HC17 := Aside0.mk H
                            clear H
                            go_upto_if 22 with (fail)
                            go_cut [22] (fun v22 wc => ∃ (kq : Nat) (x22_16 : Bool), v22 = .bool x22_16 ∧ Aside0 (motleyref04_Arity.j4 kq a0 x22_16 = some (r1, r2, r3)) ∧ Aside0 (kq ≤ kj13) ∧ Drawn0 w wc)
                            case first =>
                              have H := HC17.out
                              clear HC17
                              by_cases c18 : a0.toList = ([115, 112, 108, 105, 116] : List UInt8)
                              · rw [if_pos c18] at H
                                have c18b0 : (a0.toList == ([115, 112, 108, 105, 116] : List UInt8)) = true := beq_iff_eq.mpr c18
                                have c18b1 : (a0.toList != ([115, 112, 108, 105, 116] : List UInt8)) = false := bne_eq_false_iff_eq.mpr c18
                                clear c18
                                (first | rw [c18b0] | (simp only [i64_w, i32_w]; rw [c18b0]) | skip)
                                have H' := Aside0.mk H
                                clear H
                                go_wp2
                                go_meet
                                case rel => exact ⟨_, ((a0.toList == ([115, 112, 108, 105, 116] : List UInt8))), (by first | rfl | (simp; done) | (simp [*]; done)), H', ⟨by have := HJ1.out; have := HJ5.out; have := HJ10.out; have := HJ13.out; first | omega | exact Nat.le_refl _⟩, by repeat (first | exact Drawn0.refl _ | apply Drawn0.step)⟩
                              · rw [if_neg c18] at H
                                have c18b0 : (a0.toList == ([115, 112, 108, 105, 116] : List UInt8)) = false := beq_eq_false_iff_ne.mpr c18
                                have c18b1 : (a0.toList != ([115, 112, 108, 105, 116] : List UInt8)) = true := bne_iff_ne.mpr c18
                                (first | rw [c18b0] | (simp only [i64_w, i32_w]; rw [c18b0]) | skip)
                                by_cases c19 : a0.toList = ([105, 110, 100, 101, 120] : List UInt8)
                                · rw [if_pos c19] at H
                                  have c19b0 : (a0.toList == ([105, 110, 100, 101, 120] : List UInt8)) = true := beq_iff_eq.mpr c19
                                  have c19b1 : (a0.toList != ([105, 110, 100, 101, 120] : List UInt8)) = false := bne_eq_false_iff_eq.mpr c19
                                  clear c19
                                  have H' := Aside0.mk H
                                  clear H
                                  go_wp2
                                  go_meet
                                  case rel => exact ⟨_, ((a0.toList == ([105, 110, 100, 101, 120] : List UInt8))), (by first | rfl | (simp; done) | (simp [*]; done)), H', ⟨by have := HJ1.out; have := HJ5.out; have := HJ10.out; have := HJ13.out; first | omega | exact Nat.le_refl _⟩, by repeat (first | exact Drawn0.refl _ | apply Drawn0.step)⟩
                                · rw [if_neg c19] at H
                                  have c19b0 : (a0.toList == ([105, 110, 100, 101, 120] : List UInt8)) = false := beq_eq_false_iff_ne.mpr c19
                                  have c19b1 : (a0.toList != ([105, 110, 100, 101, 120] : List UInt8)) = true := bne_iff_ne.mpr c19
                                  have H' := Aside0.mk H
                                  clear H
                                  go_wp2
                                  go_meet
                                  case rel => exact ⟨_, ((a0.toList == ([98, 108, 101, 115, 115] : List UInt8))), (by first | rfl | (simp; done) | (simp [*]; done)), H', ⟨by have := HJ1.out; have := HJ5.out; have := HJ10.out; have := HJ13.out; first | omega | exact Nat.le_refl _⟩, by repeat (first | exact Drawn0.refl _ | apply Drawn0.step)⟩
                            case rest =>
                              clear HC17
                              try clear c1
                              try clear p2
                              try clear c3
                              try clear c3b0
                              try clear c3b1
                              try clear c4
                              try clear c4b0
                              try clear c4b1
                              try clear c5
                              try clear c6
                              try clear c7
                              try clear c7b0
                              try clear c7b1
                              try clear c8
                              try clear c8b0
                              try clear c8b1
                              try clear c9
                              try clear c10
                              try clear c10b0
                              try clear c10b1
                              try clear c12
                              try clear c12b0
                              try clear c12b1
                              try clear c13
                              try clear c15
                              try clear c15b0
                              try clear c15b1
                              try clear c16
                              try clear c18
                              try clear c18b0
                              try clear c18b1
                              try clear c19
                              try clear c19b0
                              try clear c19b1
                              try clear p2
                              obtain ⟨kq, x22_16, rfl, HA, HJ16, ⟨mc16, rfl⟩⟩ := hcut
                              cases kq with
                              | zero => exact absurd HA.out (by simp [motleyref04_Arity.j4])
                              | succ kj16 =>
                                have H := HA.out
                                clear HA
                                simp only [motleyref04_Arity.j4] at H
                                by_cases c20 : x22_16 = true
                                · subst c20
                                  have H1 : (some (2, 2, true)) = some (r1, r2, r3) := by rw [if_pos rfl] at H; exact H
                                  clear H
                                  have H := H1
                                  clear H1
                                  simp only [Option.some.injEq, Prod.mk.injEq] at H
                                  obtain ⟨rfl, rfl, rfl⟩ := H
                                  go_wp2
                                  go_ret3
                                  exact ⟨by first | rfl | (simp; done) | (simp [*]; done), by repeat (first | exact Drawn0.refl _ | apply Drawn0.step)⟩
                                · replace c20 := Bool.eq_false_iff.mpr c20
                                  subst c20
                                  have H1 : (if a0.toList = ([115, 117, 98, 115, 116, 114] : List UInt8) then (some (2, 3, true)) else (if a0.toList = ([112, 111, 112] : List UInt8) then (some (1, 1, true)) else (if a0.toList = ([107, 101, 121, 115] : List UInt8) then (some (1, 1, true)) else (if a0.toList = ([118, 97, 108, 117, 101, 115] : List UInt8) then (some (1, 1, true)) else (if a0.toList = ([100, 101, 108, 101, 116, 101] : List UInt8) then (some (1, 1, true)) else (if a0.toList = ([101, 120, 105, 115, 116, 115] : List UInt8) then (some (1, 1, true)) else (if a0.toList = ([100, 101, 102, 105, 110, 101, 100] : List UInt8) then (some (1, 1, true)) else (if a0.toList = ([115, 99, 97, 108, 97, 114] : List UInt8) then (some (1, 1, true)) else (if a0.toList = ([108, 101, 110, 103, 116, 104] : List UInt8) then (some (1, 1, true)) else (if a0.toList = ([117, 99] : List UInt8) then (some (1, 1, true)) else (if a0.toList = ([108, 99] : List UInt8) then (some (1, 1, true)) else (if a0.toList = ([111, 114, 100] : List UInt8) then (some (1, 1, true)) else (if a0.toList = ([99, 104, 114] : List UInt8) then (some (1, 1, true)) else (if a0.toList = ([114, 101, 102] : List UInt8) then (some (1, 1, true)) else (if a0.toList = ([119, 101, 97, 107, 101, 110] : List UInt8) then (some (1, 1, true)) else (if a0.toList = ([117, 110, 116, 105, 101] : List UInt8) then (some (1, 1, true)) else (if a0.toList = ([103, 117, 97, 114, 100] : List UInt8) then (some (1, 1, true)) else (if a0.toList = ([116, 97, 105, 110, 116, 101, 100] : List UInt8) then (some (1, 1, true)) else (if a0.toList = ([97, 98, 115] : List UInt8) then (some (1, 1, true)) else (if a0.toList = ([101, 118, 97, 108, 117, 97, 116, 101] : List UInt8) then (some (1, 1, true)) else (some (0, 0, false)))))))))))))))))))))) = some (r1, r2, r3) := by rw [if_neg (show ¬ (false = true) by decide)] at H; exact H
                                  clear H
                                  have H := H1
                                  clear H1
                                  by_cases c21 : a0.toList = ([115, 117, 98, 115, 116, 114] : List UInt8)
                                  · rw [if_pos c21] at H
                                    have c21b0 : (a0.toList == ([115, 117, 98, 115, 116, 114] : List UInt8)) = true := beq_iff_eq.mpr c21
                                    have c21b1 : (a0.toList != ([115, 117, 98, 115, 116, 114] : List UInt8)) = false := bne_eq_false_iff_eq.mpr c21
                                    clear c21
                                    simp only [Option.some.injEq, Prod.mk.injEq] at H
                                    obtain ⟨rfl, rfl, rfl⟩ := H
                                    go_wp2
                                    go_ret3
                                    exact ⟨by first | rfl | (simp; done) | (simp [*]; done), by repeat (first | exact Drawn0.refl _ | apply Drawn0.step)⟩
                                  · rw [if_neg c21] at H
                                    have c21b0 : (a0.toList == ([115, 117, 98, 115, 116, 114] : List UInt8)) = false := beq_eq_false_iff_ne.mpr c21
                                    have c21b1 : (a0.toList != ([115, 117, 98, 115, 116, 114] : List UInt8)) = true := bne_iff_ne.mpr c21
                                    by_cases c22 : a0.toList = ([112, 111, 112] : List UInt8)
                                    · rw [if_pos c22] at H
                                      have c22b0 : (a0.toList == ([112, 111, 112] : List UInt8)) = true := beq_iff_eq.mpr c22
                                      have c22b1 : (a0.toList != ([112, 111, 112] : List UInt8)) = false := bne_eq_false_iff_eq.mpr c22
                                      clear c22
                                      simp only [Option.some.injEq, Prod.mk.injEq] at H
                                      obtain ⟨rfl, rfl, rfl⟩ := H
                                      go_wp2
                                      go_ret3
                                      exact ⟨by first | rfl | (simp; done) | (simp [*]; done), by repeat (first | exact Drawn0.refl _ | apply Drawn0.step)⟩
                                    · rw [if_neg c22] at H
                                      have c22b0 : (a0.toList == ([112, 111, 112] : List UInt8)) = false := beq_eq_false_iff_ne.mpr c22
                                      have c22b1 : (a0.toList != ([112, 111, 112] : List UInt8)) = true := bne_iff_ne.mpr c22
                                      by_cases c23 : a0.toList = ([107, 101, 121, 115] : List UInt8)
                                      · rw [if_pos c23] at H
                                        have c23b0 : (a0.toList == ([107, 101, 121, 115] : List UInt8)) = true := beq_iff_eq.mpr c23
                                        have c23b1 : (a0.toList != ([107, 101, 121, 115] : List UInt8)) = false := bne_eq_false_iff_eq.mpr c23
                                        clear c23
                                        simp only [Option.some.injEq, Prod.mk.injEq] at H
                                        obtain ⟨rfl, rfl, rfl⟩ := H
                                        go_wp2
                                        go_ret3
                                        exact ⟨by first | rfl | (simp; done) | (simp [*]; done), by repeat (first | exact Drawn0.refl _ | apply Drawn0.step)⟩
                                      · rw [if_neg c23] at H
                                        have c23b0 : (a0.toList == ([107, 101, 121, 115] : List UInt8)) = false := beq_eq_false_iff_ne.mpr c23
                                        have c23b1 : (a0.toList != ([107, 101, 121, 115] : List UInt8)) = true := bne_iff_ne.mpr c23
                                        by_cases c24 : a0.toList = ([118, 97, 108, 117, 101, 115] : List UInt8)
                                        · rw [if_pos c24] at H
                                          have c24b0 : (a0.toList == ([118, 97, 108, 117, 101, 115] : List UInt8)) = true := beq_iff_eq.mpr c24
                                          have c24b1 : (a0.toList != ([118, 97, 108, 117, 101, 115] : List UInt8)) = false := bne_eq_false_iff_eq.mpr c24
                                          clear c24
                                          simp only [Option.some.injEq, Prod.mk.injEq] at H
                                          obtain ⟨rfl, rfl, rfl⟩ := H
                                          go_wp2
                                          go_ret3
                                          exact ⟨by first | rfl | (simp; done) | (simp [*]; done), by repeat (first | exact Drawn0.refl _ | apply Drawn0.step)⟩
                                        · rw [if_neg c24] at H
                                          have c24b0 : (a0.toList == ([118, 97, 108, 117, 101, 115] : List UInt8)) = false := beq_eq_false_iff_ne.mpr c24
                                          have c24b1 : (a0.toList != ([118, 97, 108, 117, 101, 115] : List UInt8)) = true := bne_iff_ne.mpr c24
                                          by_cases c25 : a0.toList = ([100, 101, 108, 101, 116, 101] : List UInt8)
                                          · rw [if_pos c25] at H
                                            have c25b0 : (a0.toList == ([100, 101, 108, 101, 116, 101] : List UInt8)) = true := beq_iff_eq.mpr c25
                                            have c25b1 : (a0.toList != ([100, 101, 108, 101, 116, 101] : List UInt8)) = false := bne_eq_false_iff_eq.mpr c25
                                            clear c25
                                            simp only [Option.some.injEq, Prod.mk.injEq] at H
                                            obtain ⟨rfl, rfl, rfl⟩ := H
                                            go_wp2
                                            go_ret3
                                            exact ⟨by first | rfl | (simp; done) | (simp [*]; done), by repeat (first | exact Drawn0.refl _ | apply Drawn0.step)⟩
                                          · rw [if_neg c25] at H
                                            have c25b0 : (a0.toList == ([100, 101, 108, 101, 116, 101] : List UInt8)) = false := beq_eq_false_iff_ne.mpr c25
                                            have c25b1 : (a0.toList != ([100, 101, 108, 101, 116, 101] : List UInt8)) = true := bne_iff_ne.mpr c25
                                            by_cases c26 : a0.toList = ([101, 120, 105, 115, 116, 115] : List UInt8)
                                            · rw [if_pos c26] at H
                                              have c26b0 : (a0.toList == ([101, 120, 105, 115, 116, 115] : List UInt8)) = true := beq_iff_eq.mpr c26
                                              have c26b1 : (a0.toList != ([101, 120, 105, 115, 116, 115] : List UInt8)) = false := bne_eq_false_iff_eq.mpr c26
                                              clear c26
                                              simp only [Option.some.injEq, Prod.mk.injEq] at H
                                              obtain ⟨rfl, rfl, rfl⟩ := H
                                              go_wp2
                                              go_ret3
                                              exact ⟨by first | rfl | (simp; done) | (simp [*]; done), by repeat (first | exact Drawn0.refl _ | apply Drawn0.step)⟩
                                            · rw [if_neg c26] at H
                                              have c26b0 : (a0.toList == ([101, 120, 105, 115, 116, 115] : List UInt8)) = false := beq_eq_false_iff_ne.mpr c26
                                              have c26b1 : (a0.toList != ([101, 120, 105, 115, 116, 115] : List UInt8)) = true := bne_iff_ne.mpr c26
                                              by_cases c27 : a0.toList = ([100, 101, 102, 105, 110, 101, 100] : List UInt8)
                                              · rw [if_pos c27] at H
                                                have c27b0 : (a0.toList == ([100, 101, 102, 105, 110, 101, 100] : List UInt8)) = true := beq_iff_eq.mpr c27
                                                have c27b1 : (a0.toList != ([100, 101, 102, 105, 110, 101, 100] : List UInt8)) = false := bne_eq_false_iff_eq.mpr c27
                                                clear c27
                                                simp only [Option.some.injEq, Prod.mk.injEq] at H
                                                obtain ⟨rfl, rfl, rfl⟩ := H
                                                go_wp2
                                                go_ret3
                                                exact ⟨by first | rfl | (simp; done) | (simp [*]; done), by repeat (first | exact Drawn0.refl _ | apply Drawn0.step)⟩
                                              · rw [if_neg c27] at H
                                                have c27b0 : (a0.toList == ([100, 101, 102, 105, 110, 101, 100] : List UInt8)) = false := beq_eq_false_iff_ne.mpr c27
                                                have c27b1 : (a0.toList != ([100, 101, 102, 105, 110, 101, 100] : List UInt8)) = true := bne_iff_ne.mpr c27
                                                by_cases c28 : a0.toList = ([115, 99, 97, 108, 97, 114] : List UInt8)
                                                · rw [if_pos c28] at H
                                                  have c28b0 : (a0.toList == ([115, 99, 97, 108, 97, 114] : List UInt8)) = true := beq_iff_eq.mpr c28
                                                  have c28b1 : (a0.toList != ([115, 99, 97, 108, 97, 114] : List UInt8)) = false := bne_eq_false_iff_eq.mpr c28
                                                  clear c28
                                                  simp only [Option.some.injEq, Prod.mk.injEq] at H
                                                  obtain ⟨rfl, rfl, rfl⟩ := H
                                                  go_wp2
                                                  go_ret3
                                                  exact ⟨by first | rfl | (simp; done) | (simp [*]; done), by repeat (first | exact Drawn0.refl _ | apply Drawn0.step)⟩
                                                · rw [if_neg c28] at H
                                                  have c28b0 : (a0.toList == ([115, 99, 97, 108, 97, 114] : List UInt8)) = false := beq_eq_false_iff_ne.mpr c28
                                                  have c28b1 : (a0.toList != ([115, 99, 97, 108, 97, 114] : List UInt8)) = true := bne_iff_ne.mpr c28
                                                  by_cases c29 : a0.toList = ([108, 101, 110, 103, 116, 104] : List UInt8)
                                                  · rw [if_pos c29] at H
                                                    have c29b0 : (a0.toList == ([108, 101, 110, 103, 116, 104] : List UInt8)) = true := beq_iff_eq.mpr c29
                                                    have c29b1 : (a0.toList != ([108, 101, 110, 103, 116, 104] : List UInt8)) = false := bne_eq_false_iff_eq.mpr c29
                                                    clear c29
                                                    simp only [Option.some.injEq, Prod.mk.injEq] at H
                                                    obtain ⟨rfl, rfl, rfl⟩ := H
                                                    go_wp2
                                                    go_ret3
                                                    exact ⟨by first | rfl | (simp; done) | (simp [*]; done), by repeat (first | exact Drawn0.refl _ | apply Drawn0.step)⟩
                                                  · rw [if_neg c29] at H
                                                    have c29b0 : (a0.toList == ([108, 101, 110, 103, 116, 104] : List UInt8)) = false := beq_eq_false_iff_ne.mpr c29
                                                    have c29b1 : (a0.toList != ([108, 101, 110, 103, 116, 104] : List UInt8)) = true := bne_iff_ne.mpr c29
                                                    by_cases c30 : a0.toList = ([117, 99] : List UInt8)
                                                    · rw [if_pos c30] at H
                                                      have c30b0 : (a0.toList == ([117, 99] : List UInt8)) = true := beq_iff_eq.mpr c30
                                                      have c30b1 : (a0.toList != ([117, 99] : List UInt8)) = false := bne_eq_false_iff_eq.mpr c30
                                                      clear c30
                                                      simp only [Option.some.injEq, Prod.mk.injEq] at H
                                                      obtain ⟨rfl, rfl, rfl⟩ := H
                                                      go_wp2
                                                      go_ret3
                                                      exact ⟨by first | rfl | (simp; done) | (simp [*]; done), by repeat (first | exact Drawn0.refl _ | apply Drawn0.step)⟩
                                                    · rw [if_neg c30] at H
                                                      have c30b0 : (a0.toList == ([117, 99] : List UInt8)) = false := beq_eq_false_iff_ne.mpr c30
                                                      have c30b1 : (a0.toList != ([117, 99] : List UInt8)) = true := bne_iff_ne.mpr c30
                                                      by_cases c31 : a0.toList = ([108, 99] : List UInt8)
                                                      · rw [if_pos c31] at H
                                                        have c31b0 : (a0.toList == ([108, 99] : List UInt8)) = true := beq_iff_eq.mpr c31
                                                        have c31b1 : (a0.toList != ([108, 99] : List UInt8)) = false := bne_eq_false_iff_eq.mpr c31
                                                        clear c31
                                                        simp only [Option.some.injEq, Prod.mk.injEq] at H
                                                        obtain ⟨rfl, rfl, rfl⟩ := H
                                                        go_wp2
                                                        go_ret3
                                                        exact ⟨by first | rfl | (simp; done) | (simp [*]; done), by repeat (first | exact Drawn0.refl _ | apply Drawn0.step)⟩
                                                      · rw [if_neg c31] at H
                                                        have c31b0 : (a0.toList == ([108, 99] : List UInt8)) = false := beq_eq_false_iff_ne.mpr c31
                                                        have c31b1 : (a0.toList != ([108, 99] : List UInt8)) = true := bne_iff_ne.mpr c31
                                                        by_cases c32 : a0.toList = ([111, 114, 100] : List UInt8)
                                                        · rw [if_pos c32] at H
                                                          have c32b0 : (a0.toList == ([111, 114, 100] : List UInt8)) = true := beq_iff_eq.mpr c32
                                                          have c32b1 : (a0.toList != ([111, 114, 100] : List UInt8)) = false := bne_eq_false_iff_eq.mpr c32
                                                          clear c32
                                                          simp only [Option.some.injEq, Prod.mk.injEq] at H
                                                          obtain ⟨rfl, rfl, rfl⟩ := H
                                                          go_wp2
                                                          go_ret3
                                                          exact ⟨by first | rfl | (simp; done) | (simp [*]; done), by repeat (first | exact Drawn0.refl _ | apply Drawn0.step)⟩
                                                        · rw [if_neg c32] at H
                                                          have c32b0 : (a0.toList == ([111, 114, 100] : List UInt8)) = false := beq_eq_false_iff_ne.mpr c32
                                                          have c32b1 : (a0.toList != ([111, 114, 100] : List UInt8)) = true := bne_iff_ne.mpr c32
                                                          by_cases c33 : a0.toList = ([99, 104, 114] : List UInt8)
                                                          · rw [if_pos c33] at H
                                                            have c33b0 : (a0.toList == ([99, 104, 114] : List UInt8)) = true := beq_iff_eq.mpr c33
                                                            have c33b1 : (a0.toList != ([99, 104, 114] : List UInt8)) = false := bne_eq_false_iff_eq.mpr c33
                                                            clear c33
                                                            simp only [Option.some.injEq, Prod.mk.injEq] at H
                                                            obtain ⟨rfl, rfl, rfl⟩ := H
                                                            go_wp2
                                                            go_ret3
                                                            exact ⟨by first | rfl | (simp; done) | (simp [*]; done), by repeat (first | exact Drawn0.refl _ | apply Drawn0.step)⟩
                                                          · rw [if_neg c33] at H
                                                            have c33b0 : (a0.toList == ([99, 104, 114] : List UInt8)) = false := beq_eq_false_iff_ne.mpr c33
                                                            have c33b1 : (a0.toList != ([99, 104, 114] : List UInt8)) = true := bne_iff_ne.mpr c33
                                                            by_cases c34 : a0.toList = ([114, 101, 102] : List UInt8)
                                                            · rw [if_pos c34] at H
                                                              have c34b0 : (a0.toList == ([114, 101, 102] : List UInt8)) = true := beq_iff_eq.mpr c34
                                                              have c34b1 : (a0.toList != ([114, 101, 102] : List UInt8)) = false := bne_eq_false_iff_eq.mpr c34
                                                              clear c34
                                                              simp only [Option.some.injEq, Prod.mk.injEq] at H
                                                              obtain ⟨rfl, rfl, rfl⟩ := H
                                                              go_wp2
                                                              go_ret3
                                                              exact ⟨by first | rfl | (simp; done) | (simp [*]; done), by repeat (first | exact Drawn0.refl _ | apply Drawn0.step)⟩
                                                            · rw [if_neg c34] at H
                                                              have c34b0 : (a0.toList == ([114, 101, 102] : List UInt8)) = false := beq_eq_false_iff_ne.mpr c34
                                                              have c34b1 : (a0.toList != ([114, 101, 102] : List UInt8)) = true := bne_iff_ne.mpr c34
                                                              by_cases c35 : a0.toList = ([119, 101, 97, 107, 101, 110] : List UInt8)
                                                              · rw [if_pos c35] at H
                                                                have c35b0 : (a0.toList == ([119, 101, 97, 107, 101, 110] : List UInt8)) = true := beq_iff_eq.mpr c35
                                                                have c35b1 : (a0.toList != ([119, 101, 97, 107, 101, 110] : List UInt8)) = false := bne_eq_false_iff_eq.mpr c35
                                                                clear c35
                                                                simp only [Option.some.injEq, Prod.mk.injEq] at H
                                                                obtain ⟨rfl, rfl, rfl⟩ := H
                                                                go_wp2
                                                                go_ret3
                                                                exact ⟨by first | rfl | (simp; done) | (simp [*]; done), by repeat (first | exact Drawn0.refl _ | apply Drawn0.step)⟩
                                                              · rw [if_neg c35] at H
                                                                have c35b0 : (a0.toList == ([119, 101, 97, 107, 101, 110] : List UInt8)) = false := beq_eq_false_iff_ne.mpr c35
                                                                have c35b1 : (a0.toList != ([119, 101, 97, 107, 101, 110] : List UInt8)) = true := bne_iff_ne.mpr c35
                                                                by_cases c36 : a0.toList = ([117, 110, 116, 105, 101] : List UInt8)
                                                                · rw [if_pos c36] at H
                                                                  have c36b0 : (a0.toList == ([117, 110, 116, 105, 101] : List UInt8)) = true := beq_iff_eq.mpr c36
                                                                  have c36b1 : (a0.toList != ([117, 110, 116, 105, 101] : List UInt8)) = false := bne_eq_false_iff_eq.mpr c36
                                                                  clear c36
                                                                  simp only [Option.some.injEq, Prod.mk.injEq] at H
                                                                  obtain ⟨rfl, rfl, rfl⟩ := H
                                                                  go_wp2
                                                                  go_ret3
                                                                  exact ⟨by first | rfl | (simp; done) | (simp [*]; done), by repeat (first | exact Drawn0.refl _ | apply Drawn0.step)⟩
                                                                · rw [if_neg c36] at H
                                                                  have c36b0 : (a0.toList == ([117, 110, 116, 105, 101] : List UInt8)) = false := beq_eq_false_iff_ne.mpr c36
                                                                  have c36b1 : (a0.toList != ([117, 110, 116, 105, 101] : List UInt8)) = true := bne_iff_ne.mpr c36
                                                                  by_cases c37 : a0.toList = ([103, 117, 97, 114, 100] : List UInt8)
                                                                  · rw [if_pos c37] at H
                                                                    have c37b0 : (a0.toList == ([103, 117, 97, 114, 100] : List UInt8)) = true := beq_iff_eq.mpr c37
                                                                    have c37b1 : (a0.toList != ([103, 117, 97, 114, 100] : List UInt8)) = false := bne_eq_false_iff_eq.mpr c37
                                                                    clear c37
                                                                    simp only [Option.some.injEq, Prod.mk.injEq] at H
                                                                    obtain ⟨rfl, rfl, rfl⟩ := H
                                                                    go_wp2
                                                                    go_ret3
                                                                    exact ⟨by first | rfl | (simp; done) | (simp [*]; done), by repeat (first | exact Drawn0.refl _ | apply Drawn0.step)⟩
                                                                  · rw [if_neg c37] at H
                                                                    have c37b0 : (a0.toList == ([103, 117, 97, 114, 100] : List UInt8)) = false := beq_eq_false_iff_ne.mpr c37
                                                                    have c37b1 : (a0.toList != ([103, 117, 97, 114, 100] : List UInt8)) = true := bne_iff_ne.mpr c37
                                                                    by_cases c38 : a0.toList = ([116, 97, 105, 110, 116, 101, 100] : List UInt8)
                                                                    · rw [if_pos c38] at H
                                                                      have c38b0 : (a0.toList == ([116, 97, 105, 110, 116, 101, 100] : List UInt8)) = true := beq_iff_eq.mpr c38
                                                                      have c38b1 : (a0.toList != ([116, 97, 105, 110, 116, 101, 100] : List UInt8)) = false := bne_eq_false_iff_eq.mpr c38
                                                                      clear c38
                                                                      simp only [Option.some.injEq, Prod.mk.injEq] at H
                                                                      obtain ⟨rfl, rfl, rfl⟩ := H
                                                                      go_wp2
                                                                      go_ret3
                                                                      exact ⟨by first | rfl | (simp; done) | (simp [*]; done), by repeat (first | exact Drawn0.refl _ | apply Drawn0.step)⟩
                                                                    · rw [if_neg c38] at H
                                                                      have c38b0 : (a0.toList == ([116, 97, 105, 110, 116, 101, 100] : List UInt8)) = false := beq_eq_false_iff_ne.mpr c38
                                                                      have c38b1 : (a0.toList != ([116, 97, 105, 110, 116, 101, 100] : List UInt8)) = true := bne_iff_ne.mpr c38
                                                                      by_cases c39 : a0.toList = ([97, 98, 115] : List UInt8)
                                                                      · rw [if_pos c39] at H
                                                                        have c39b0 : (a0.toList == ([97, 98, 115] : List UInt8)) = true := beq_iff_eq.mpr c39
                                                                        have c39b1 : (a0.toList != ([97, 98, 115] : List UInt8)) = false := bne_eq_false_iff_eq.mpr c39
                                                                        clear c39
                                                                        simp only [Option.some.injEq, Prod.mk.injEq] at H
                                                                        obtain ⟨rfl, rfl, rfl⟩ := H
                                                                        go_wp2
                                                                        go_ret3
                                                                        exact ⟨by first | rfl | (simp; done) | (simp [*]; done), by repeat (first | exact Drawn0.refl _ | apply Drawn0.step)⟩
                                                                      · rw [if_neg c39] at H
                                                                        have c39b0 : (a0.toList == ([97, 98, 115] : List UInt8)) = false := beq_eq_false_iff_ne.mpr c39
                                                                        have c39b1 : (a0.toList != ([97, 98, 115] : List UInt8)) = true := bne_iff_ne.mpr c39
                                                                        by_cases c40 : a0.toList = ([101, 118, 97, 108, 117, 97, 116, 101] : List UInt8)
                                                                        · rw [if_pos c40] at H
                                                                          have c40b0 : (a0.toList == ([101, 118, 97, 108, 117, 97, 116, 101] : List UInt8)) = true := beq_iff_eq.mpr c40
                                                                          have c40b1 : (a0.toList != ([101, 118, 97, 108, 117, 97, 116, 101] : List UInt8)) = false := bne_eq_false_iff_eq.mpr c40
                                                                          clear c40
                                                                          simp only [Option.some.injEq, Prod.mk.injEq] at H
                                                                          obtain ⟨rfl, rfl, rfl⟩ := H
                                                                          go_wp2
                                                                          go_ret3
                                                                          exact ⟨by first | rfl | (simp; done) | (simp [*]; done), by repeat (first | exact Drawn0.refl _ | apply Drawn0.step)⟩
                                                                        · rw [if_neg c40] at H
                                                                          have c40b0 : (a0.toList == ([101, 118, 97, 108, 117, 97, 116, 101] : List UInt8)) = false := beq_eq_false_iff_ne.mpr c40
                                                                          have c40b1 : (a0.toList != ([101, 118, 97, 108, 117, 97, 116, 101] : List UInt8)) = true := bne_iff_ne.mpr c40
                                                                          simp only [Option.some.injEq, Prod.mk.injEq] at H
                                                                          obtain ⟨rfl, rfl, rfl⟩ := H
                                                                          go_wp2
                                                                          go_ret3
                                                                          exact ⟨by first | rfl | (simp; done) | (simp [*]; done), by repeat (first | exact Drawn0.refl _ | apply Drawn0.step)⟩

-- NOT PRINTED: function 18 (tree_functions)

-- NOT PRINTED: function 7 (tree_Arity)

end Go.Proofs.YtfacahgkhpcfmaaGreatDoor.PTreeWords
