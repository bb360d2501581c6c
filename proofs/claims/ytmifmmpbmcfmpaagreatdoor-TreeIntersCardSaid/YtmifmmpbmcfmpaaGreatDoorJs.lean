/-
  A character told in hexadecimal digits: the reference's functions.
-/
import Derived.Test.YtmifmmpbmcfmpaaGreatDoorJr
set_option linter.unusedVariables false
set_option linter.unusedSimpArgs false
namespace Go.Proofs.YtmifmmpbmcfmpaaGreatDoor.IW
open Go Go.RowKit
set_option maxRecDepth 100000

set_option maxHeartbeats 1000000 in
theorem digit_any (c : Int) (w : World) (h0 : 0 ≤ c) (h255 : c ≤ 255) : Calls Tryz.prog 81 #[.int .u8 c] w fun e w' => e = .returned (.int .i64 (hexI c)) ∧ w' = w := by
  by_cases h1 : 48 ≤ c ∧ c ≤ 57
  · have HV : Aside0 (hexI c = c - 48) := ⟨by unfold hexI; rw [if_pos h1]⟩
    have d1 : decide (c ≥ 48) = true := decide_eq_true h1.1
    have d2 : decide (c ≤ 57) = true := decide_eq_true h1.2
    go_enter Tryz.func81, Tryz.ntmps81
    go_wp2
    go_ret
    exact ⟨by rw [HV.out]; rfl, rfl⟩
  · by_cases h2 : 97 ≤ c ∧ c ≤ 102
    · have HV : Aside0 (hexI c = c - 97 + 10) := ⟨by unfold hexI; rw [if_neg h1, if_pos h2]; omega⟩
      have d1 : decide (c ≥ 48) = true := decide_eq_true (by omega)
      have d2 : decide (c ≤ 57) = false := decide_eq_false (by omega)
      have d3 : decide (c ≥ 97) = true := decide_eq_true h2.1
      have d4 : decide (c ≤ 102) = true := decide_eq_true h2.2
      go_enter Tryz.func81, Tryz.ntmps81
      go_wp2
      go_ret
      exact ⟨by rw [HV.out]; rfl, rfl⟩
    · by_cases h3 : 65 ≤ c ∧ c ≤ 70
      · have HV : Aside0 (hexI c = c - 65 + 10) := ⟨by unfold hexI; rw [if_neg h1, if_neg h2, if_pos h3]; omega⟩
        have d1 : decide (c ≥ 48) = true := decide_eq_true (by omega)
        have d2 : decide (c ≤ 57) = false := decide_eq_false (by omega)
        have d3 : decide (c ≥ 97) = false := decide_eq_false (by omega)
        have d5 : decide (c ≥ 65) = true := decide_eq_true h3.1
        have d6 : decide (c ≤ 70) = true := decide_eq_true h3.2
        go_enter Tryz.func81, Tryz.ntmps81
        go_wp2
        go_ret
        exact ⟨by rw [HV.out]; rfl, rfl⟩
      · have HV : Aside0 (hexI c = -1) := ⟨by unfold hexI; rw [if_neg h1, if_neg h2, if_neg h3]⟩
        by_cases g1 : c ≥ 48
        · have d1 : decide (c ≥ 48) = true := decide_eq_true g1
          have d2 : decide (c ≤ 57) = false := decide_eq_false (by omega)
          by_cases g2 : c ≥ 97
          · have d3 : decide (c ≥ 97) = true := decide_eq_true g2
            have d4 : decide (c ≤ 102) = false := decide_eq_false (by omega)
            have d5 : decide (c ≥ 65) = true := decide_eq_true (by omega)
            have d6 : decide (c ≤ 70) = false := decide_eq_false (by omega)
            clear h1 h2 h3
            go_enter Tryz.func81, Tryz.ntmps81
            go_wp2
            go_ret
            exact ⟨by rw [HV.out]; rfl, rfl⟩
          · have d3 : decide (c ≥ 97) = false := decide_eq_false g2
            by_cases g3 : c ≥ 65
            · have d5 : decide (c ≥ 65) = true := decide_eq_true g3
              have d6 : decide (c ≤ 70) = false := decide_eq_false (by omega)
              clear h1 h2 h3
              go_enter Tryz.func81, Tryz.ntmps81
              go_wp2
              go_ret
              exact ⟨by rw [HV.out]; rfl, rfl⟩
            · have d5 : decide (c ≥ 65) = false := decide_eq_false g3
              clear h1 h2 h3
              go_enter Tryz.func81, Tryz.ntmps81
              go_wp2
              go_ret
              exact ⟨by rw [HV.out]; rfl, rfl⟩
        · have d1 : decide (c ≥ 48) = false := decide_eq_false g1
          have d3 : decide (c ≥ 97) = false := decide_eq_false (by omega)
          have d5 : decide (c ≥ 65) = false := decide_eq_false (by omega)
          clear h1 h2 h3
          go_enter Tryz.func81, Tryz.ntmps81
          go_wp2
          go_ret
          exact ⟨by rw [HV.out]; rfl, rfl⟩

set_option maxHeartbeats 1000000 in
theorem isChar_any (c : Int) (w : World) (h0 : 0 ≤ c) : Calls Tryz.prog 82 #[.int .i64 c] w fun e w' => e = .returned (.bool (isCh c)) ∧ w' = w := by
  have d0 : decide (c ≥ 0) = true := decide_eq_true h0
  by_cases h1 : c ≤ 1114111
  · have d1 : decide (c ≤ 1114111) = true := decide_eq_true h1
    by_cases h2 : c ≥ 55296
    · have d2 : decide (c ≥ 55296) = true := decide_eq_true h2
      by_cases h3 : c ≤ 57343
      · have d3 : decide (c ≤ 57343) = true := decide_eq_true h3
        have HV : Aside0 (isCh c = false) := ⟨decide_eq_false (fun h => h.2.2 ⟨h2, h3⟩)⟩
        clear h0 h1 h2 h3
        go_enter Tryz.func82, Tryz.ntmps82
        go_wp2
        go_ret
        exact ⟨by rw [HV.out]; rfl, rfl⟩
      · have d3 : decide (c ≤ 57343) = false := decide_eq_false h3
        have HV : Aside0 (isCh c = true) := ⟨decide_eq_true ⟨h0, h1, fun h => h3 h.2⟩⟩
        clear h0 h1 h2 h3
        go_enter Tryz.func82, Tryz.ntmps82
        go_wp2
        go_ret
        exact ⟨by rw [HV.out]; rfl, rfl⟩
    · have d2 : decide (c ≥ 55296) = false := decide_eq_false h2
      have HV : Aside0 (isCh c = true) := ⟨decide_eq_true ⟨h0, h1, fun h => h2 h.1⟩⟩
      clear h0 h1 h2
      go_enter Tryz.func82, Tryz.ntmps82
      go_wp2
      go_ret
      exact ⟨by rw [HV.out]; rfl, rfl⟩
  · have d1 : decide (c ≤ 1114111) = false := decide_eq_false h1
    have HV : Aside0 (isCh c = false) := ⟨decide_eq_false (fun h => h1 h.2.1)⟩
    clear h0 h1
    go_enter Tryz.func82, Tryz.ntmps82
    go_wp2
    go_ret
    exact ⟨by rw [HV.out]; rfl, rfl⟩

theorem eq_two (s : ByteArray) (h : 2 ≤ s.size) (c d : UInt8) : ((s.extract 0 2).toList == [c, d]) = ((bt s 0 == (c.toNat : Int)) && (bt s 1 == (d.toNat : Int))) := by
  rw [Lib.toList_data, data_ext, bt_list, bt_list]
  have hl : s.data.toList.length = s.size := by simp
  cases hd : s.data.toList with
  | nil => rw [hd] at hl; simp at hl; omega
  | cons x l =>
    cases l with
    | nil => rw [hd] at hl; simp at hl; omega
    | cons y l =>
      simp only [List.drop_zero, List.getElem?_cons_zero, List.getElem?_cons_succ, Option.map_some, Option.getD_some]
      rw [← u8_eq x c, ← u8_eq y d]
      simp
theorem bt_range (s : ByteArray) (i : Nat) : 0 ≤ bt s i ∧ bt s i ≤ 255 := by
  unfold bt
  split
  · rename_i h; have := (s[i]'h).toNat_lt; omega
  · omega
theorem hexNo {s : ByteArray} (h : ¬ HexOk s) : hexK s = 0 ∧ hexC s = 0 := by
  unfold hexK hexC; rw [if_neg h, if_neg h]; exact ⟨rfl, rfl⟩
theorem pow16 {k : Nat} (h : k ≤ 6) : (16 : Int) ^ k ≤ 16777216 := by
  have : k = 0 ∨ k = 1 ∨ k = 2 ∨ k = 3 ∨ k = 4 ∨ k = 5 ∨ k = 6 := by omega
  rcases this with rfl | rfl | rfl | rfl | rfl | rfl | rfl <;> decide
theorem hexV_step (s : ByteArray) (n : Nat) (h : 2 ≤ n) : hexV s (n + 1 - 2) = hexV s (n - 2) * 16 + hexI (bt s n) := by
  rw [show n + 1 - 2 = (n - 2) + 1 by omega]
  show hexV s (n - 2) * 16 + hexI (bt s (2 + (n - 2))) = _
  rw [show 2 + (n - 2) = n by omega]
set_option maxHeartbeats 1000000 in
theorem rhex_any (s : ByteArray) (w : World) (hm : s.size ≤ 1000000) : Calls Tryz.prog 47 #[.string s] w fun e w' => e = .returned (.tuple #[.int .i64 (hexC s), .int .i64 (hexK s : Nat)]) ∧ w' = w := by
  have HM := Aside0.mk hm
  by_cases h4 : s.size < 4
  · have c1 : decide ((s.size : Int) < 4) = true := decide_eq_true (by omega)
    have c2 : decide (s.size < 4) = true := decide_eq_true h4
    have HV := Aside0.mk (hexNo (s := s) (fun h => by have h1 := bt_pos h.2.2.2.1 (by decide); have h2 := h.2.2.1; omega))
    clear hm h4
    go_enter Tryz.func47, Tryz.ntmps47
    go_wp2
    go_ret2
    exact ⟨by rw [HV.out.1, HV.out.2]; rfl, rfl⟩
  · have c1 : decide ((s.size : Int) < 4) = false := decide_eq_false (by omega)
    have c2 : decide (s.size < 4) = false := decide_eq_false h4
    have c3 : (2 : Int) ≤ (s.size : Int) := by omega
    have e2 := eq_two s (by omega) 120 123
    have H4 := Aside0.mk h4
    cases hx : ((bt s 0 == ((120 : UInt8).toNat : Int)) && (bt s 1 == ((123 : UInt8).toNat : Int))) with
    | false =>
      rw [hx] at e2
      have HV := Aside0.mk (hexNo (s := s) (fun h => by rw [h.1, h.2.1] at hx; exact absurd hx (by decide)))
      clear hm h4 hx
      go_enter Tryz.func47, Tryz.ntmps47
      go_wp2
      go_ret2
      exact ⟨by rw [HV.out.1, HV.out.2]; rfl, rfl⟩
    | true =>
      rw [hx] at e2
      have HX : Aside0 (bt s 0 = 120 ∧ bt s 1 = 123) := ⟨by simp only [Bool.and_eq_true, beq_iff_eq] at hx; exact hx⟩
      clear hm h4 hx
      go_enter Tryz.func47, Tryz.ntmps47
      go_wp2
      go_loopg [4, 5] 6 (fun kq v4 v5 w' => ∃ n m : Nat, v4 = .int .i64 m ∧ v5 = .int .i64 n ∧ Aside0 (2 ≤ n ∧ n ≤ s.size ∧ kq + n = 8 ∧ (m : Int) = hexV s (n - 2) ∧ ∀ i, i < n - 2 → 2 + i < s.size ∧ 0 ≤ hexI (bt s (2 + i))) ∧ w' = w)
      case atStart => exact ⟨2, 0, rfl, rfl, ⟨by have := H4.out; exact ⟨Nat.le_refl _, by omega, rfl, rfl, fun i hi => by omega⟩⟩, rfl⟩
      case round =>
        obtain ⟨n, m, rfl, rfl, HI, rfl⟩ := hrel
        obtain ⟨hn2, hnl, hkq, hv, hall⟩ := HI.out
        have hM := HM.out
        have hb := hexV_lt s (n - 2) (fun i hi => (hall i hi).2)
        have h16 : (16 : Int) ^ (n - 2) ≤ 16777216 := pow16 (by omega)
        have hm24 : (m : Int) < 16777216 := by omega
        have p1 : (0 : Int) ≤ (n : Int) := by omega
        by_cases hlt : n < s.size
        · have d1 : decide ((n : Int) < (s.size : Int)) = true := decide_eq_true (by omega)
          have d2 : decide (n < s.size) = true := decide_eq_true hlt
          have d3 : (n : Int) < (s.size : Int) := by omega
          have d0 : ((n : Int) == (s.size : Int)) = false := by rw [beq_eq_false_iff_ne]; omega
          have d0a : decide ((n : Int) = (s.size : Int)) = false := decide_eq_false (by omega)
          have d0b : decide (n = s.size) = false := decide_eq_false (by omega)
          have b1 := bt_at s n hlt
          have hr := bt_range s n
          have HR := Aside0.mk hr
          have hl := hexI_lt (bt s n)
          have HC : Aside0 ((0 : Int) ≤ (m : Int)) := ⟨by omega⟩
          by_cases h8 : n < 8
          · have f1 : decide ((n : Int) < 8) = true := decide_eq_true (by omega)
            have f2 : decide (n < 8) = true := decide_eq_true h8
            by_cases hh : 0 ≤ hexI (bt s n)
            · obtain ⟨d, hd⟩ : ∃ d : Nat, hexI (bt s n) = (d : Int) := ⟨(hexI (bt s n)).toNat, by omega⟩
              have hd15 : (d : Int) ≤ 15 := by omega
              have HD := Aside0.mk hd
              have hs := hexV_step s n hn2
              have HX2 : Aside0 (2 ≤ n + 1 ∧ n + 1 ≤ s.size ∧ (gk - 1) + (n + 1) = 8 ∧ ((m * 16 + d : Nat) : Int) = hexV s (n + 1 - 2) ∧ ∀ i, i < n + 1 - 2 → 2 + i < s.size ∧ 0 ≤ hexI (bt s (2 + i))) := ⟨by omega, by omega, by omega, by rw [hs, ← hv, hd]; omega, fun i hi => by
                by_cases e : i = n - 2
                · rw [e, show 2 + (n - 2) = n by omega]; exact ⟨hlt, hh⟩
                · exact hall i (by omega)⟩
              have HG : Aside0 (gk - 1 < gk) := ⟨by omega⟩
              have b9 : n + 1 ≤ 2000000 := by omega
              have wr1 := wrA (K := 1) n 1 rfl b9
              clear hn2 hnl hkq hv hall hM hb h16 hr hl HI hh hd hs b9
              go_wp2_with first | (go_at_call 81; refine (digit_any _ _ HR.out.1 HR.out.2).mono ?_; rintro e w2 ⟨rfl, hw⟩; rw [hw, HD.out])
              go_roundg (gk - 1)
              case measure => exact HG.out
              case rel => exact ⟨n + 1, m * 16 + d, by first | rfl | congr 1, by first | rfl | rw [wr1], HX2, rfl⟩
            · have HD := Aside0.mk (hexI_no hh)
              have hlen : hexLen s = n - 2 := (hexLen_spec s).uniq ⟨hall, .inr (by rw [show 2 + (n - 2) = n by omega]; exact fun h => hh h.2), by omega⟩
              by_cases h2 : n = 2
              · have g1 : ((n : Int) == 2) = true := by rw [h2]; rfl
                have g2 : decide ((n : Int) = 2) = true := by rw [h2]; rfl
                have g3 : decide (n = 2) = true := decide_eq_true h2
                have HV := Aside0.mk (hexNo (s := s) (fun h => by have := h.2.2.1; omega))
                clear hn2 hnl hkq hv hall hM hb h16 hr hl hlen HI hh h2
                go_wp2_with first | (go_at_call 81; refine (digit_any _ _ HR.out.1 HR.out.2).mono ?_; rintro e w2 ⟨rfl, hw⟩; rw [hw, HD.out])
                go_ret2
                exact ⟨by rw [HV.out.1, HV.out.2]; rfl, rfl⟩
              · have g1 : ((n : Int) == 2) = false := by rw [beq_eq_false_iff_ne]; omega
                have g2 : decide ((n : Int) = 2) = false := decide_eq_false (by omega)
                have g3 : decide (n = 2) = false := decide_eq_false h2
                by_cases hx : bt s n = 125
                · have x1 : (bt s n != 125) = false := by rw [hx]; rfl
                  have x0 : (bt s n == 125) = true := by rw [hx]; rfl
                  have hC : 2 + hexLen s = n := by omega
                  cases hch : isCh (m : Int) with
                  | true =>
                    have HCH := Aside0.mk hch
                    have hok : HexOk s := ⟨HX.out.1, HX.out.2, by omega, by rw [hC]; exact hx, by rw [hlen, ← hv]; exact hch⟩
                    have HV : Aside0 (hexC s = (m : Int) ∧ hexK s = n + 1) := ⟨by unfold hexC; rw [if_pos hok, hlen, ← hv], by unfold hexK; rw [if_pos hok, hlen]; omega⟩
                    have b9 : n + 1 ≤ 2000000 := by omega
                    have wr1 := wrA (K := 1) n 1 rfl b9
                    clear hn2 hnl hkq hv hall hM hb h16 hr hl hlen HI hh h2 hx hC hch hok b9
                    go_wp2_with first | (go_at_call 81; refine (digit_any _ _ HR.out.1 HR.out.2).mono ?_; rintro e w2 ⟨rfl, hw⟩; rw [hw, HD.out]) | (go_at_call 82; refine (isChar_any _ _ HC.out).mono ?_; rintro e w2 ⟨rfl, hw⟩; rw [hw, HCH.out])
                    go_ret2
                    exact ⟨by rw [HV.out.1, HV.out.2]; first | rfl | (rw [← wr1]; rfl), rfl⟩
                  | false =>
                    have HCH := Aside0.mk hch
                    have HV := Aside0.mk (hexNo (s := s) (fun h => by have h5 := h.2.2.2.2; rw [hlen, ← hv, hch] at h5; exact absurd h5 (by decide)))
                    clear hn2 hnl hkq hv hall hM hb h16 hr hl hlen HI hh h2 hx hC hch
                    go_wp2_with first | (go_at_call 81; refine (digit_any _ _ HR.out.1 HR.out.2).mono ?_; rintro e w2 ⟨rfl, hw⟩; rw [hw, HD.out]) | (go_at_call 82; refine (isChar_any _ _ HC.out).mono ?_; rintro e w2 ⟨rfl, hw⟩; rw [hw, HCH.out])
                    go_ret2
                    exact ⟨by rw [HV.out.1, HV.out.2]; rfl, rfl⟩
                · have x1 : (bt s n != 125) = true := by simpa using hx
                  have x0 : (bt s n == 125) = false := by simpa using hx
                  have HV := Aside0.mk (hexNo (s := s) (fun h => by have h5 := h.2.2.2.1; rw [hlen, show 2 + (n - 2) = n by omega] at h5; exact hx h5))
                  clear hn2 hnl hkq hv hall hM hb h16 hr hl hlen HI hh h2 hx
                  go_wp2_with first | (go_at_call 81; refine (digit_any _ _ HR.out.1 HR.out.2).mono ?_; rintro e w2 ⟨rfl, hw⟩; rw [hw, HD.out])
                  go_ret2
                  exact ⟨by rw [HV.out.1, HV.out.2]; rfl, rfl⟩
          · have f1 : decide ((n : Int) < 8) = false := decide_eq_false (by omega)
            have f2 : decide (n < 8) = false := decide_eq_false h8
            have hlen : hexLen s = n - 2 := (hexLen_spec s).uniq ⟨hall, .inl (by omega), by omega⟩
            have hh : True := trivial
            have h2 : ¬ n = 2 := by omega
            have g1 : ((n : Int) == 2) = false := by rw [beq_eq_false_iff_ne]; omega
            have g2 : decide ((n : Int) = 2) = false := decide_eq_false (by omega)
            have g3 : decide (n = 2) = false := decide_eq_false h2
            by_cases hx : bt s n = 125
            · have x1 : (bt s n != 125) = false := by rw [hx]; rfl
              have x0 : (bt s n == 125) = true := by rw [hx]; rfl
              have hC : 2 + hexLen s = n := by omega
              cases hch : isCh (m : Int) with
              | true =>
                have HCH := Aside0.mk hch
                have hok : HexOk s := ⟨HX.out.1, HX.out.2, by omega, by rw [hC]; exact hx, by rw [hlen, ← hv]; exact hch⟩
                have HV : Aside0 (hexC s = (m : Int) ∧ hexK s = n + 1) := ⟨by unfold hexC; rw [if_pos hok, hlen, ← hv], by unfold hexK; rw [if_pos hok, hlen]; omega⟩
                have b9 : n + 1 ≤ 2000000 := by omega
                have wr1 := wrA (K := 1) n 1 rfl b9
                clear hn2 hnl hkq hv hall hM hb h16 hr hl hlen HI hh h2 hx hC hch hok b9
                go_wp2_with first | fail | (go_at_call 82; refine (isChar_any _ _ HC.out).mono ?_; rintro e w2 ⟨rfl, hw⟩; rw [hw, HCH.out])
                go_ret2
                exact ⟨by rw [HV.out.1, HV.out.2]; first | rfl | (rw [← wr1]; rfl), rfl⟩
              | false =>
                have HCH := Aside0.mk hch
                have HV := Aside0.mk (hexNo (s := s) (fun h => by have h5 := h.2.2.2.2; rw [hlen, ← hv, hch] at h5; exact absurd h5 (by decide)))
                clear hn2 hnl hkq hv hall hM hb h16 hr hl hlen HI hh h2 hx hC hch
                go_wp2_with first | fail | (go_at_call 82; refine (isChar_any _ _ HC.out).mono ?_; rintro e w2 ⟨rfl, hw⟩; rw [hw, HCH.out])
                go_ret2
                exact ⟨by rw [HV.out.1, HV.out.2]; rfl, rfl⟩
            · have x1 : (bt s n != 125) = true := by simpa using hx
              have x0 : (bt s n == 125) = false := by simpa using hx
              have HV := Aside0.mk (hexNo (s := s) (fun h => by have h5 := h.2.2.2.1; rw [hlen, show 2 + (n - 2) = n by omega] at h5; exact hx h5))
              clear hn2 hnl hkq hv hall hM hb h16 hr hl hlen HI hh h2 hx
              go_wp2_with first | fail
              go_ret2
              exact ⟨by rw [HV.out.1, HV.out.2]; rfl, rfl⟩
        · have d1 : decide ((n : Int) < (s.size : Int)) = false := decide_eq_false (by omega)
          have d2 : decide (n < s.size) = false := decide_eq_false hlt
          have hns : n = s.size := by omega
          have g1 : ((n : Int) == 2) = false := by rw [beq_eq_false_iff_ne]; have := H4.out; omega
          have g2 : decide ((n : Int) = 2) = false := decide_eq_false (by have := H4.out; omega)
          have g3 : decide (n = 2) = false := decide_eq_false (by have := H4.out; omega)
          have d0 : ((n : Int) == (s.size : Int)) = true := by rw [hns]; exact beq_self_eq_true _
          have d0a : decide ((n : Int) = (s.size : Int)) = true := decide_eq_true (by rw [hns])
          have d0b : decide (n = s.size) = true := decide_eq_true hns
          have hlen : hexLen s = n - 2 := (hexLen_spec s).uniq ⟨hall, .inr (fun h => by omega), by omega⟩
          have HV := Aside0.mk (hexNo (s := s) (fun h => by have h5 := bt_pos h.2.2.2.1 (by decide); omega))
          clear hn2 hnl hkq hv hall hM hb h16 HI hns hlt hlen
          go_wp2
          go_ret2
          exact ⟨by rw [HV.out.1, HV.out.2]; rfl, rfl⟩
end Go.Proofs.YtmifmmpbmcfmpaaGreatDoor.IW
