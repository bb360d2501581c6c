/-
  The program's words.
-/
import Derived.Test.YtmifmmpbmcfmpaaGreatDoorJc
set_option linter.unusedVariables false
set_option linter.unusedSimpArgs false
namespace Go.Proofs.YtmifmmpbmcfmpaaGreatDoor.IW
open Go Go.RowKit
set_option maxRecDepth 100000


theorem scan_fuel (s : ByteArray) : ∀ (f g n : Nat), s.size ≤ n + f → s.size ≤ n + g → scan s f n = scan s g n
  | 0, 0, _, _, _ => rfl
  | 0, g + 1, n, h, _ => by rw [scan, scan, if_neg (by omega)]
  | f + 1, 0, n, _, h => by rw [scan, scan, if_neg (by omega)]
  | f + 1, g + 1, n, h, h2 => by
    rw [scan, scan, scan_fuel s f g (n + 1) (by omega) (by omega), scan_fuel s f g (n + 3) (by omega) (by omega)]
theorem scan_ge (s : ByteArray) : ∀ (f n : Nat), n ≤ scan s f n
  | 0, n => Nat.le_refl _
  | f + 1, n => by
    rw [scan]
    have h1 := scan_ge s f (n + 1)
    have h3 := scan_ge s f (n + 3)
    split
    · split
      · omega
      · split
        · omega
        · omega
    · omega
theorem scan_le (s : ByteArray) : ∀ (f n : Nat), n ≤ s.size → scan s f n ≤ s.size
  | 0, n, h => h
  | f + 1, n, h => by
    rw [scan]
    split
    · split
      · exact scan_le s f _ (by omega)
      · split
        · rename_i h1 h2 h3
          exact scan_le s f _ (by have := h3.2.1; omega)
        · exact h
    · exact h
theorem wordLen_le (s : ByteArray) : wordLen s ≤ s.size := scan_le s _ _ (by omega)
theorem wordN_le (s : ByteArray) : wordN s ≤ s.size := by
  have := wordLen_le s
  unfold wordN
  split <;> omega
theorem wordN_12 (s : ByteArray) : wordN s ≤ 12 := by
  unfold wordN
  split <;> omega
theorem scan_pre (s : ByteArray) (W : Nat) (hW : W ≤ s.size) : ∀ (f n : Nat), scan s f n = W → scan (s.extract 0 W) f n = W
  | 0, n, h => h
  | f + 1, n, h => by
    rw [scan] at h ⊢
    have hsz : (s.extract 0 W).size = W := by rw [size_ext _ _ _ hW]; omega
    rw [hsz]
    by_cases hn : n < s.size
    · rw [if_pos hn] at h
      by_cases hb : (alphaI (bt s n) || (!decide (n = 0) && digitI (bt s n))) = true
      · rw [if_pos hb] at h
        have := scan_ge s f (n + 1)
        have e := bt_ext s 0 W n (by omega)
        rw [Nat.zero_add] at e
        rw [if_pos (by omega), e, if_pos hb]
        exact scan_pre s W hW f _ h
      · rw [if_neg hb] at h
        by_cases hc : n ≠ 0 ∧ n + 2 < s.size ∧ bt s n = 58 ∧ bt s (n + 1) = 58 ∧ alphaI (bt s (n + 2)) = true
        · rw [if_pos hc] at h
          have := scan_ge s f (n + 3)
          have e := bt_ext s 0 W n (by omega)
          have e1 := bt_ext s 0 W (n + 1) (by omega)
          have e2 := bt_ext s 0 W (n + 2) (by omega)
          rw [Nat.zero_add] at e e1 e2
          rw [if_pos (by omega), e, e1, e2, if_neg hb, if_pos ⟨hc.1, by omega, hc.2.2⟩]
          exact scan_pre s W hW f _ h
        · rw [if_neg hc] at h
          rw [if_neg (by omega)]
          exact h
    · rw [if_neg hn] at h
      rw [if_neg (by omega)]
      exact h
theorem wordLen_pre (s : ByteArray) : wordLen (s.extract 0 (wordLen s)) = wordLen s := by
  have h := scan_pre s (wordLen s) (wordLen_le s) s.size 0 rfl
  have hsz : (s.extract 0 (wordLen s)).size = wordLen s := by rw [size_ext _ _ _ (wordLen_le s)]; omega
  unfold wordLen at h hsz ⊢
  rw [scan_fuel _ _ s.size 0 (by omega) (by have := wordLen_le s; unfold wordLen at this; omega)]
  exact h

def isWordB (s : ByteArray) : Bool := !s.toList.isEmpty && decide (s.size ≤ 12) && decide (wordLen s = s.size)
theorem isWord_pre (s : ByteArray) : isWordB (s.extract 0 (wordLen s)) = decide (wordN s ≠ 0) := by
  have hsz : (s.extract 0 (wordLen s)).size = wordLen s := by rw [size_ext _ _ _ (wordLen_le s)]; omega
  unfold isWordB
  rw [wordLen_pre, hsz]
  unfold wordN
  by_cases h0 : wordLen s = 0
  · have : (s.extract 0 (wordLen s)).toList = [] := toList_nil.2 (by omega)
    rw [this, h0]; rfl
  · have : (s.extract 0 (wordLen s)).toList.isEmpty = false := by
      cases hl : (s.extract 0 (wordLen s)).toList with
      | nil => exact absurd (toList_nil.1 hl) (by omega)
      | cons x l => rfl
    rw [this]
    by_cases h1 : wordLen s ≤ 12
    · rw [if_neg (by omega)]; simp [h0, h1]
    · rw [if_pos (by omega)]; simp [h1]

set_option maxHeartbeats 1000000 in
theorem isWord_any (s : ByteArray) (w : World) (hm : s.size ≤ 1000000) : Calls Tryz.prog 96 #[.string s] w fun e w' => e = .returned (.bool (isWordB s)) ∧ w' = w := by
  have HM := Aside0.mk hm
  clear hm
  obtain ⟨b1, h1⟩ : ∃ b, s.toList.isEmpty = b := ⟨_, rfl⟩
  obtain ⟨b2, h2⟩ : ∃ b, decide (s.size ≤ 12) = b := ⟨_, rfl⟩
  obtain ⟨b3, h3⟩ : ∃ b, decide (wordLen s = s.size) = b := ⟨_, rfl⟩
  have e : isWordB s = (!b1 && b2 && b3) := by unfold isWordB; rw [h1, h2, h3]
  rw [e]
  clear e
  have h4 : decide ((s.size : Int) ≤ 12) = b2 := by rw [← h2]; exact decide_eq_decide.2 (by omega)
  have h5 : ((wordLen s : Int) == (s.size : Int)) = b3 := by
    rw [← h3]
    by_cases h : wordLen s = s.size
    · rw [h]; simp
    · rw [decide_eq_false h, beq_eq_false_iff_ne.2 (by omega)]
  have h6 : decide ((wordLen s : Int) = (s.size : Int)) = b3 := by rw [← h3]; exact decide_eq_decide.2 (by omega)
  cases b1 <;> cases b2 <;> cases b3
  all_goals
    go_enter Tryz.func96, Tryz.ntmps96
    go_wp2_with (go_at_call 126; refine (wordEnd_any _ _ HM.out).mono ?_; rintro e w2 ⟨rfl, hw⟩; rw [hw])
    go_ret
    exact ⟨rfl, rfl⟩

set_option maxHeartbeats 1000000 in
theorem named_any (s : ByteArray) (w : World) (hm : s.size ≤ 1000000) (r : ByteArray) (hr : r = if isWordB s = true then s else ⟨#[]⟩) : Calls Tryz.prog 95 #[.string s] w fun e w' => e = .returned (.string r) ∧ w' = w := by
  have HM := Aside0.mk hm
  have HR := Aside0.mk hr
  clear hm hr
  cases hb : isWordB s with
  | true =>
    go_enter Tryz.func95, Tryz.ntmps95
    go_wp2_with (go_at_call 96; refine (isWord_any _ _ HM.out).mono ?_; rintro e w2 ⟨rfl, hw⟩; rw [hw])
    go_ret
    exact ⟨by rw [HR.out, if_pos hb]; rfl, rfl⟩
  | false =>
    go_enter Tryz.func95, Tryz.ntmps95
    go_wp2_with (go_at_call 96; refine (isWord_any _ _ HM.out).mono ?_; rintro e w2 ⟨rfl, hw⟩; rw [hw])
    go_ret
    exact ⟨by rw [HR.out, if_neg (by rw [hb]; decide)]; rfl, rfl⟩

theorem named_pre (s : ByteArray) (n : Nat) (h : wordLen s = n) : s.extract 0 (wordN s) = if isWordB (s.extract 0 n) = true then s.extract 0 n else ⟨#[]⟩ := by
  subst h
  rw [isWord_pre]
  by_cases h0 : wordN s = 0
  · rw [if_neg (by simp [h0]), h0]; exact ext_nil _ _ _ (Nat.le_refl _)
  · rw [if_pos (by simp [h0])]
    unfold wordN at h0 ⊢
    split
    · rename_i h; rw [if_pos h] at h0; exact absurd rfl h0
    · rfl

set_option maxHeartbeats 1000000 in
theorem wordAt_any (s : ByteArray) (w : World) (hm : s.size ≤ 1000000) : Calls Tryz.prog 57 #[.string s] w fun e w' => e = .returned (.string (s.extract 0 (wordN s))) ∧ w' = w := by
  have HM := Aside0.mk hm
  clear hm
  go_enter Tryz.func57, Tryz.ntmps57
  go_wp2
  go_loopg [3] s.size (fun kq v3 w' => ∃ n : Nat, v3 = .int .i64 n ∧ Aside0 (At s n ∧ kq + n = s.size) ∧ w' = w)
  case atStart => exact ⟨0, rfl, ⟨at_zero s, by omega⟩, rfl⟩
  case round =>
    obtain ⟨n, rfl, HI, rfl⟩ := hrel
    obtain ⟨hat, hkq⟩ := HI.out
    have hM := HM.out
    have p1 : (0 : Int) ≤ n := by omega
    have q0 : (n : Int) ≤ (s.size : Int) := by omega
    have HS : Aside0 ((s.extract 0 n).size ≤ 1000000) := ⟨by rw [size_ext _ _ _ (by omega)]; omega⟩
    cases gk with
    | zero =>
      have c1 : decide ((n : Int) < (s.size : Int)) = false := decide_eq_false (by omega)
      have c2 : decide (n < s.size) = false := decide_eq_false (by omega)
      have HF := Aside0.mk (named_pre s n (hat.end_ (by omega)))
      clear hat hkq hM HI
      go_wp2_with first
        | (go_at_call 60; refine (isWordByte_any _ _ _).mono ?_; rintro e w2 ⟨rfl, hw⟩; first | rw [hw, hwb] | rw [hw, hwb2])
        | (go_at_call 94; refine (SH.strings_HasPrefix _ _ _).mono ?_; rintro e w2 ⟨rfl, hw⟩; first | rw [hw, hp] | rw [hw])
        | (go_at_call 95; refine (named_any _ _ HS.out _ HF.out).mono ?_; rintro e w2 ⟨rfl, hw⟩; rw [hw])
      go_ret
      exact ⟨rfl, rfl⟩
    | succ g1 =>
      have hlt : n < s.size := by omega
      have c0 : ((n : Int) == 0) = decide (n = 0) := by by_cases h : n = 0 <;> simp [h]
      have c9 : decide ((n : Int) = 0) = decide (n = 0) := decide_eq_decide.2 (by omega)
      have c1 : decide ((n : Int) < (s.size : Int)) = true := decide_eq_true (by omega)
      have c2 : decide (n < s.size) = true := decide_eq_true hlt
      have p1 : (0 : Int) ≤ n := by omega
      have q1 : (n : Int) < (s.size : Int) := by omega
      have b1 := bt_at s n hlt
      have wr1 : wrap64 ((n : Int) + 1) = ((n + 1 : Nat) : Int) := by unfold wrap64; omega
      have wr2 : wrap64 ((n : Int) + 2) = ((n + 2 : Nat) : Int) := by unfold wrap64; omega
      have hcl := colons s n (Nat.le_of_lt hlt)
      cases hb : alphaI (bt s n) with
      | true =>
        have HX : Aside0 (At s (n + 1) ∧ g1 + (n + 1) = s.size) := ⟨hat.one hlt (by rw [hb]; rfl), by omega⟩
        have hwb : (alphaI (bt s n) || (!decide (n = 0) && digitI (bt s n))) = true := by rw [hb]; rfl
        clear hat hkq hM HI wr2 hcl
        go_wp2_with first
          | (go_at_call 60; refine (isWordByte_any _ _ _).mono ?_; rintro e w2 ⟨rfl, hw⟩; first | rw [hw, hwb] | rw [hw, hwb2])
          | (go_at_call 94; refine (SH.strings_HasPrefix _ _ _).mono ?_; rintro e w2 ⟨rfl, hw⟩; first | rw [hw, hp] | rw [hw])
          | (go_at_call 95; refine (named_any _ _ HS.out _ HF.out).mono ?_; rintro e w2 ⟨rfl, hw⟩; rw [hw])
        go_roundg g1
        case measure => omega
        case rel => exact ⟨n + 1, by rw [wr1], HX, rfl⟩
      | false =>
        by_cases hn : n = 0
        · have HF := Aside0.mk (named_pre s n (hat.stop hlt (by rw [hb]; simp [hn]) (by simp [hn])))
          have c4 : decide ((n : Int) > 0) = false := decide_eq_false (by omega)
          have c5 : decide (0 < n) = false := decide_eq_false (by omega)
          have hwb : (alphaI (bt s n) || (!decide (n = 0) && digitI (bt s n))) = false := by rw [hb]; simp [hn]
          clear hat hkq hM HI wr2 hcl hn
          go_wp2_with first
            | (go_at_call 60; refine (isWordByte_any _ _ _).mono ?_; rintro e w2 ⟨rfl, hw⟩; first | rw [hw, hwb] | rw [hw, hwb2])
            | (go_at_call 94; refine (SH.strings_HasPrefix _ _ _).mono ?_; rintro e w2 ⟨rfl, hw⟩; first | rw [hw, hp] | rw [hw])
            | (go_at_call 95; refine (named_any _ _ HS.out _ HF.out).mono ?_; rintro e w2 ⟨rfl, hw⟩; rw [hw])
          go_ret
          exact ⟨rfl, rfl⟩
        · have c4 : decide ((n : Int) > 0) = true := decide_eq_true (by omega)
          have c5 : decide (0 < n) = true := decide_eq_true (by omega)
          have hn0 : (!decide (n = 0)) = true := by simp; omega
          cases hd : digitI (bt s n) with
          | true =>
            have HX : Aside0 (At s (n + 1) ∧ g1 + (n + 1) = s.size) := ⟨hat.one hlt (by rw [hb, hn0, hd]; rfl), by omega⟩
            have hwb : (alphaI (bt s n) || (!false && digitI (bt s n))) = true := by rw [hb, hd]; rfl
            clear hat hkq hM HI wr2 hcl hn0
            go_wp2_with first
              | (go_at_call 60; refine (isWordByte_any _ _ _).mono ?_; rintro e w2 ⟨rfl, hw⟩; first | rw [hw, hwb] | rw [hw, hwb2])
              | (go_at_call 94; refine (SH.strings_HasPrefix _ _ _).mono ?_; rintro e w2 ⟨rfl, hw⟩; first | rw [hw, hp] | rw [hw])
              | (go_at_call 95; refine (named_any _ _ HS.out _ HF.out).mono ?_; rintro e w2 ⟨rfl, hw⟩; rw [hw])
            go_roundg g1
            case measure => omega
            case rel => exact ⟨n + 1, by rw [wr1], HX, rfl⟩
          | false =>
            have hwb : (alphaI (bt s n) || (!false && digitI (bt s n))) = false := by rw [hb, hd]; rfl
            have hq : (alphaI (bt s n) || (!decide (n = 0) && digitI (bt s n))) = false := by rw [hb, hd]; simp
            by_cases hc : n ≠ 0 ∧ n + 2 < s.size ∧ bt s n = 58 ∧ bt s (n + 1) = 58 ∧ alphaI (bt s (n + 2)) = true
            · have HX : Aside0 (At s (n + 2) ∧ (g1 - 1) + (n + 2) = s.size) := ⟨hat.two hlt hq hc, by omega⟩
              have HG : Aside0 (g1 - 1 < g1 + 1) := ⟨by omega⟩
              obtain ⟨_, l2, e1, e2, a3⟩ := hc
              have hp : Lib.hasPrefix (s.extract n s.size).data.toList [58, 58] = true := by rw [hcl, e1, e2, decide_eq_true (by omega)]; rfl
              have c3 : decide (wrap64 ((n : Int) + 2) < (s.size : Int)) = true := decide_eq_true (by rw [wr2]; exact Int.ofNat_lt.2 l2)
              have p3 : (0 : Int) ≤ wrap64 ((n : Int) + 2) := by rw [wr2]; omega
              have q3 : wrap64 ((n : Int) + 2) < (s.size : Int) := by rw [wr2]; omega
              have t2 : (wrap64 ((n : Int) + 2)).toNat = n + 2 := by rw [wr2]; exact Int.toNat_natCast _
              have b3 := bt_at s (n + 2) l2
              have hwb2 : (alphaI (bt s (n + 2)) || (!true && digitI (bt s (n + 2)))) = true := by rw [a3]; rfl
              clear hat hkq hM HI hn0 hq e1 e2 hcl
              go_wp2_with first
                | (go_at_call 60; refine (isWordByte_any _ _ _).mono ?_; rintro e w2 ⟨rfl, hw⟩; first | rw [hw, hwb] | rw [hw, hwb2])
                | (go_at_call 94; refine (SH.strings_HasPrefix _ _ _).mono ?_; rintro e w2 ⟨rfl, hw⟩; first | rw [hw, hp] | rw [hw])
                | (go_at_call 95; refine (named_any _ _ HS.out _ HF.out).mono ?_; rintro e w2 ⟨rfl, hw⟩; rw [hw])
              go_roundg (g1 - 1)
              case measure => exact HG.out
              case rel => exact ⟨n + 2, by rw [wr2], HX, rfl⟩
            · have HF := Aside0.mk (named_pre s n (hat.stop hlt hq hc))
              cases hp : Lib.hasPrefix (s.extract n s.size).data.toList [58, 58] with
              | false =>
                clear hat hkq hM HI hn0 hq hcl hc
                go_wp2_with first
                  | (go_at_call 60; refine (isWordByte_any _ _ _).mono ?_; rintro e w2 ⟨rfl, hw⟩; first | rw [hw, hwb] | rw [hw, hwb2])
                  | (go_at_call 94; refine (SH.strings_HasPrefix _ _ _).mono ?_; rintro e w2 ⟨rfl, hw⟩; first | rw [hw, hp] | rw [hw])
                  | (go_at_call 95; refine (named_any _ _ HS.out _ HF.out).mono ?_; rintro e w2 ⟨rfl, hw⟩; rw [hw])
                go_ret
                exact ⟨rfl, rfl⟩
              | true =>
                rw [hp] at hcl
                have hcm := hcl.symm
                clear hcl
                simp only [Bool.and_eq_true, decide_eq_true_eq, beq_iff_eq] at hcm
                by_cases l2 : n + 2 < s.size
                · have c3 : decide (wrap64 ((n : Int) + 2) < (s.size : Int)) = true := decide_eq_true (by rw [wr2]; exact Int.ofNat_lt.2 l2)
                  have p3 : (0 : Int) ≤ wrap64 ((n : Int) + 2) := by rw [wr2]; omega
                  have q3 : wrap64 ((n : Int) + 2) < (s.size : Int) := by rw [wr2]; omega
                  have t2 : (wrap64 ((n : Int) + 2)).toNat = n + 2 := by rw [wr2]; exact Int.toNat_natCast _
                  have b3 := bt_at s (n + 2) l2
                  have a3 : alphaI (bt s (n + 2)) = false := by
                    cases h : alphaI (bt s (n + 2)) with
                    | false => rfl
                    | true => exact absurd ⟨hn, l2, hcm.1.2, hcm.2, h⟩ hc
                  have hwb2 : (alphaI (bt s (n + 2)) || (!true && digitI (bt s (n + 2)))) = false := by rw [a3]; rfl
                  clear hat hkq hM HI hn0 hq hcm hc
                  go_wp2_with first
                    | (go_at_call 60; refine (isWordByte_any _ _ _).mono ?_; rintro e w2 ⟨rfl, hw⟩; first | rw [hw, hwb] | rw [hw, hwb2])
                    | (go_at_call 94; refine (SH.strings_HasPrefix _ _ _).mono ?_; rintro e w2 ⟨rfl, hw⟩; first | rw [hw, hp] | rw [hw])
                    | (go_at_call 95; refine (named_any _ _ HS.out _ HF.out).mono ?_; rintro e w2 ⟨rfl, hw⟩; rw [hw])
                  go_ret
                  exact ⟨rfl, rfl⟩
                · have c3 : decide (wrap64 ((n : Int) + 2) < (s.size : Int)) = false := decide_eq_false (by rw [wr2]; omega)
                  clear hat hkq hM HI hn0 hq hcm hc
                  go_wp2_with first
                    | (go_at_call 60; refine (isWordByte_any _ _ _).mono ?_; rintro e w2 ⟨rfl, hw⟩; first | rw [hw, hwb] | rw [hw, hwb2])
                    | (go_at_call 94; refine (SH.strings_HasPrefix _ _ _).mono ?_; rintro e w2 ⟨rfl, hw⟩; first | rw [hw, hp] | rw [hw])
                    | (go_at_call 95; refine (named_any _ _ HS.out _ HF.out).mono ?_; rintro e w2 ⟨rfl, hw⟩; rw [hw])
                  go_ret
                  exact ⟨rfl, rfl⟩
end Go.Proofs.YtmifmmpbmcfmpaaGreatDoor.IW
