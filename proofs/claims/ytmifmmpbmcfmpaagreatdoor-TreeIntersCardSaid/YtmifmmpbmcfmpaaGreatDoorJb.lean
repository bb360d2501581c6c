/-
  The reference's words.
-/
import Derived.Test.YtmifmmpbmcfmpaaGreatDoorJa
import Derived.Test.YtmifmmpbmcfmpaaGreatDoorLi
set_option linter.unusedVariables false
set_option linter.unusedSimpArgs false
namespace Go.Proofs.YtmifmmpbmcfmpaaGreatDoor.IW
open Go Go.RowKit
set_option maxRecDepth 100000

def bt (s : ByteArray) (i : Nat) : Int := if h : i < s.size then ((s[i]'h).toNat : Int) else 0
theorem bt_at (s : ByteArray) (i : Nat) : ∀ h : i < s.size, ((s[i]'h).toNat : Int) = bt s i := fun h => by simp [bt, h]

def scan (s : ByteArray) : Nat → Nat → Nat
  | 0, n => n
  | d + 1, n => if n < s.size then (if (alphaI (bt s n) || (!decide (n = 0) && digitI (bt s n))) = true then scan s d (n + 1) else if n ≠ 0 ∧ n + 2 < s.size ∧ bt s n = 58 ∧ bt s (n + 1) = 58 ∧ alphaI (bt s (n + 2)) = true then scan s d (n + 3) else n) else n
def wordLen (s : ByteArray) : Nat := scan s s.size 0
def wordN (s : ByteArray) : Nat := if wordLen s > 12 then 0 else wordLen s

theorem toList_nil {s : ByteArray} : s.toList = [] ↔ s.size = 0 := by
  rw [Lib.toList_data]
  constructor
  · intro h; have := congrArg List.length h; simpa using this
  · intro h; apply List.eq_nil_of_length_eq_zero; simpa using h

/-- Where the loops are: the rest of the word. -/
def At (s : ByteArray) (n : Nat) : Prop := ∃ f, s.size ≤ n + f ∧ scan s f n = wordLen s
theorem at_zero (s : ByteArray) : At s 0 := ⟨s.size, by omega, rfl⟩
theorem At.end_ {s : ByteArray} {n : Nat} (h : At s n) (hn : s.size ≤ n) : wordLen s = n := by
  obtain ⟨f, h1, h2⟩ := h
  cases f with
  | zero => exact h2.symm
  | succ f => rw [← h2, scan, if_neg (by omega)]
theorem At.one {s : ByteArray} {n : Nat} (h : At s n) (hn : n < s.size) (hb : (alphaI (bt s n) || (!decide (n = 0) && digitI (bt s n))) = true) : At s (n + 1) := by
  obtain ⟨f, h1, h2⟩ := h
  cases f with
  | zero => omega
  | succ f => exact ⟨f, by omega, by rw [← h2, scan, if_pos hn, if_pos hb]⟩
theorem At.three {s : ByteArray} {n : Nat} (h : At s n) (hn : n < s.size) (hb : (alphaI (bt s n) || (!decide (n = 0) && digitI (bt s n))) = false) (hc : n ≠ 0 ∧ n + 2 < s.size ∧ bt s n = 58 ∧ bt s (n + 1) = 58 ∧ alphaI (bt s (n + 2)) = true) : At s (n + 3) := by
  obtain ⟨f, h1, h2⟩ := h
  cases f with
  | zero => omega
  | succ f => exact ⟨f, by omega, by rw [← h2, scan, if_pos hn, if_neg (by rw [hb]; decide), if_pos hc]⟩
theorem At.two {s : ByteArray} {n : Nat} (h : At s n) (hn : n < s.size) (hb : (alphaI (bt s n) || (!decide (n = 0) && digitI (bt s n))) = false) (hc : n ≠ 0 ∧ n + 2 < s.size ∧ bt s n = 58 ∧ bt s (n + 1) = 58 ∧ alphaI (bt s (n + 2)) = true) : At s (n + 2) := by
  obtain ⟨f, h1, h2⟩ := h.three hn hb hc
  exact ⟨f + 1, by omega, by rw [← h2, scan, if_pos hc.2.1, if_pos (by rw [hc.2.2.2.2]; rfl)]⟩
theorem At.stop {s : ByteArray} {n : Nat} (h : At s n) (hn : n < s.size) (hb : (alphaI (bt s n) || (!decide (n = 0) && digitI (bt s n))) = false) (hc : ¬ (n ≠ 0 ∧ n + 2 < s.size ∧ bt s n = 58 ∧ bt s (n + 1) = 58 ∧ alphaI (bt s (n + 2)) = true)) : wordLen s = n := by
  obtain ⟨f, h1, h2⟩ := h
  cases f with
  | zero => omega
  | succ f => rw [← h2, scan, if_pos hn, if_neg (by rw [hb]; decide), if_neg hc]

set_option maxHeartbeats 1000000 in
theorem word_any (s : ByteArray) (w : World) (hm : s.size ≤ 1000000) : Calls Tryz.prog 50 #[.string s] w fun e w' => e = .returned (.int .i64 (wordN s : Nat)) ∧ w' = w := by
  have HM := Aside0.mk hm
  by_cases h0 : s.size = 0
  · have c0 : s.toList.isEmpty = true := by rw [toList_nil.2 h0]; rfl
    have e0 : wordN s = 0 := by unfold wordN; rw [(at_zero s).end_ (by omega)]; rfl
    rw [e0]
    clear hm h0 e0
    go_enter Tryz.func50, Tryz.ntmps50
    go_wp2
    go_ret
    exact ⟨rfl, rfl⟩
  · have c0 : s.toList.isEmpty = false := by
      cases hl : s.toList with
      | nil => exact absurd (toList_nil.1 hl) h0
      | cons x l => rfl
    have p0 : 0 < s.size := by omega
    have b0 := bt_at s 0 p0
    cases ha : alphaI (bt s 0) with
    | false =>
      have e0 : wordN s = 0 := by
        unfold wordN; rw [(at_zero s).stop p0 (by rw [ha]; rfl) (by simp)]; rfl
      rw [e0]
      clear hm h0 e0
      go_enter Tryz.func50, Tryz.ntmps50
      go_wp2_with (go_at_call 84; refine (isAlpha_any _ _).mono ?_; rintro e w2 ⟨rfl, hw⟩; rw [hw])
      go_ret
      exact ⟨rfl, rfl⟩
    | true =>
      have a1 : At s 1 := (at_zero s).one p0 (by rw [ha]; rfl)
      have HA := Aside0.mk a1
      clear a1
      have P0 := Aside0.mk p0
      clear h0 hm
      go_enter Tryz.func50, Tryz.ntmps50
      go_wp2_with (go_at_call 84; refine (isAlpha_any _ _).mono ?_; rintro e w2 ⟨rfl, hw⟩; rw [hw])
      clear b0 p0 c0
      go_loopg [3] (s.size - 1) (fun kq v3 w' => ∃ n : Nat, v3 = .int .i64 n ∧ Aside0 (At s n ∧ 1 ≤ n ∧ kq + n = s.size) ∧ w' = w)
      case atStart => exact ⟨1, rfl, ⟨HA.out, by omega, by have := P0.out; omega⟩, rfl⟩
      case round =>
        obtain ⟨n, rfl, HI, rfl⟩ := hrel
        obtain ⟨hat, hn1, hkq⟩ := HI.out
        have hM := HM.out
        have fin : ∀ m : Nat, wordLen s = m → (if m > 12 then 0 else m) = wordN s := fun m h => by unfold wordN; rw [h]
        cases gk with
        | zero =>
          have c1 : decide ((n : Int) < (s.size : Int)) = false := decide_eq_false (by omega)
          have hf := fin n (hat.end_ (by omega))
          have HF := Aside0.mk hf
          have c2 : decide (n < s.size) = false := decide_eq_false (by omega)
          clear hat hn1 hkq hM fin hf HI
          go_wp2_with (go_at_call 86; refine (shortWord_any _ _).mono ?_; rintro e w2 ⟨rfl, hw⟩; rw [hw, HF.out])
          go_ret
          exact ⟨rfl, rfl⟩
        | succ g1 =>
          have hlt : n < s.size := by omega
          have c1 : decide ((n : Int) < (s.size : Int)) = true := decide_eq_true (by omega)
          have c2 : decide (n < s.size) = true := decide_eq_true (by omega)
          have p1 : (0 : Int) ≤ n := by omega
          have q1 : (n : Int) < (s.size : Int) := by omega
          have b1 := bt_at s n hlt
          have hn0 : (!decide (n = 0)) = true := by simp; omega
          have wr1 : wrap64 ((n : Int) + 1) = ((n + 1 : Nat) : Int) := by unfold wrap64; omega
          have wr2 : wrap64 ((n : Int) + 2) = ((n + 2 : Nat) : Int) := by unfold wrap64; omega
          have wr3 : wrap64 ((n : Int) + 3) = ((n + 3 : Nat) : Int) := by unfold wrap64; omega
          cases hb : (alphaI (bt s n) || digitI (bt s n)) with
          | true =>
            have nx : At s (n + 1) := hat.one hlt (by rw [hn0, Bool.true_and]; exact hb)
            have HX : Aside0 (At s (n + 1) ∧ 1 ≤ n + 1 ∧ g1 + (n + 1) = s.size) := ⟨nx, by omega, by omega⟩
            clear hat hn1 hkq hM fin HI nx hn0 wr2 wr3
            cases ha2 : alphaI (bt s n) with
            | true =>
              go_wp2_with (go_at_call 84; refine (isAlpha_any _ _).mono ?_; rintro e w2 ⟨rfl, hw⟩; rw [hw])
              go_roundg g1
              case measure => omega
              case rel => exact ⟨n + 1, by rw [wr1], HX, rfl⟩
            | false =>
              have hd2 : digitI (bt s n) = true := by rw [ha2, Bool.false_or] at hb; exact hb
              go_wp2_with first
                | (go_at_call 84; refine (isAlpha_any _ _).mono ?_; rintro e w2 ⟨rfl, hw⟩; rw [hw])
                | (go_at_call 85; refine (isDigit_any _ _).mono ?_; rintro e w2 ⟨rfl, hw⟩; rw [hw])
              go_roundg g1
              case measure => omega
              case rel => exact ⟨n + 1, by rw [wr1], HX, rfl⟩
          | false =>
            obtain ⟨ha2, hd2⟩ : alphaI (bt s n) = false ∧ digitI (bt s n) = false := by simpa using hb
            by_cases hc : n ≠ 0 ∧ n + 2 < s.size ∧ bt s n = 58 ∧ bt s (n + 1) = 58 ∧ alphaI (bt s (n + 2)) = true
            · have nx : At s (n + 3) := hat.three hlt (by rw [hn0, Bool.true_and]; exact hb) hc
              have HX : Aside0 (At s (n + 3) ∧ 1 ≤ n + 3 ∧ (g1 - 2) + (n + 3) = s.size) := ⟨nx, by omega, by omega⟩
              have HG : Aside0 (g1 - 2 < g1 + 1) := ⟨by omega⟩
              obtain ⟨_, l2, e1, e2, a3⟩ := hc
              have c3 : decide (wrap64 ((n : Int) + 2) < (s.size : Int)) = true := decide_eq_true (by rw [wr2]; exact Int.ofNat_lt.2 l2)
              have d1 : (bt s n == 58) = true := by rw [e1]; rfl
              have d2 : (bt s (n + 1) == 58) = true := by rw [e2]; rfl
              have p2 : (0 : Int) ≤ wrap64 ((n : Int) + 1) := by rw [wr1]; omega
              have q2 : wrap64 ((n : Int) + 1) < (s.size : Int) := by rw [wr1]; omega
              have p3 : (0 : Int) ≤ wrap64 ((n : Int) + 2) := by rw [wr2]; omega
              have q3 : wrap64 ((n : Int) + 2) < (s.size : Int) := by rw [wr2]; omega
              have t1 : (wrap64 ((n : Int) + 1)).toNat = n + 1 := by rw [wr1]; exact Int.toNat_natCast _
              have t2 : (wrap64 ((n : Int) + 2)).toNat = n + 2 := by rw [wr2]; exact Int.toNat_natCast _
              have l1 : n + 1 < s.size := by omega
              have b2 := bt_at s (n + 1) l1
              have b3 := bt_at s (n + 2) l2
              clear hat hn1 hkq hM fin HI nx hn0 hb e1 e2
              go_wp2_with first
                | (go_at_call 84; refine (isAlpha_any _ _).mono ?_; rintro e w2 ⟨rfl, hw⟩; rw [hw])
                | (go_at_call 85; refine (isDigit_any _ _).mono ?_; rintro e w2 ⟨rfl, hw⟩; rw [hw])
              go_roundg (g1 - 2)
              case measure => exact HG.out
              case rel => exact ⟨n + 3, by rw [wr3], HX, rfl⟩
            · have hf := fin n (hat.stop hlt (by rw [hn0, Bool.true_and]; exact hb) hc)
              have HF := Aside0.mk hf
              have HN := Aside0.mk hn1
              clear hat hn1 hkq fin HI hn0 hb hf
              by_cases l2 : n + 2 < s.size
              · have c3 : decide (wrap64 ((n : Int) + 2) < (s.size : Int)) = true := decide_eq_true (by rw [wr2]; exact Int.ofNat_lt.2 l2)
                have p2 : (0 : Int) ≤ wrap64 ((n : Int) + 1) := by rw [wr1]; omega
                have q2 : wrap64 ((n : Int) + 1) < (s.size : Int) := by rw [wr1]; omega
                have p3 : (0 : Int) ≤ wrap64 ((n : Int) + 2) := by rw [wr2]; omega
                have q3 : wrap64 ((n : Int) + 2) < (s.size : Int) := by rw [wr2]; omega
                have t1 : (wrap64 ((n : Int) + 1)).toNat = n + 1 := by rw [wr1]; exact Int.toNat_natCast _
                have t2 : (wrap64 ((n : Int) + 2)).toNat = n + 2 := by rw [wr2]; exact Int.toNat_natCast _
                have l1 : n + 1 < s.size := by omega
                have b2 := bt_at s (n + 1) l1
                have b3 := bt_at s (n + 2) l2
                cases d1 : (bt s n == 58) with
                | false =>
                  clear hc
                  go_wp2_with first
                    | (go_at_call 84; refine (isAlpha_any _ _).mono ?_; rintro e w2 ⟨rfl, hw⟩; rw [hw])
                    | (go_at_call 85; refine (isDigit_any _ _).mono ?_; rintro e w2 ⟨rfl, hw⟩; rw [hw])
                    | (go_at_call 86; refine (shortWord_any _ _).mono ?_; rintro e w2 ⟨rfl, hw⟩; rw [hw, HF.out])
                  go_ret
                  exact ⟨rfl, rfl⟩
                | true =>
                  cases d2 : (bt s (n + 1) == 58) with
                  | false =>
                    clear hc
                    go_wp2_with first
                      | (go_at_call 84; refine (isAlpha_any _ _).mono ?_; rintro e w2 ⟨rfl, hw⟩; rw [hw])
                      | (go_at_call 85; refine (isDigit_any _ _).mono ?_; rintro e w2 ⟨rfl, hw⟩; rw [hw])
                      | (go_at_call 86; refine (shortWord_any _ _).mono ?_; rintro e w2 ⟨rfl, hw⟩; rw [hw, HF.out])
                    go_ret
                    exact ⟨rfl, rfl⟩
                  | true =>
                    have a3 : alphaI (bt s (n + 2)) = false := by
                      cases h : alphaI (bt s (n + 2)) with
                      | false => rfl
                      | true => exact absurd ⟨by have := HN.out; omega, l2, eq_of_beq d1, eq_of_beq d2, h⟩ hc
                    clear hc
                    go_wp2_with first
                      | (go_at_call 84; refine (isAlpha_any _ _).mono ?_; rintro e w2 ⟨rfl, hw⟩; rw [hw])
                      | (go_at_call 85; refine (isDigit_any _ _).mono ?_; rintro e w2 ⟨rfl, hw⟩; rw [hw])
                      | (go_at_call 86; refine (shortWord_any _ _).mono ?_; rintro e w2 ⟨rfl, hw⟩; rw [hw, HF.out])
                    go_ret
                    exact ⟨rfl, rfl⟩
              · have c3 : decide (wrap64 ((n : Int) + 2) < (s.size : Int)) = false := decide_eq_false (by rw [wr2]; omega)
                clear hc
                go_wp2_with first
                  | (go_at_call 84; refine (isAlpha_any _ _).mono ?_; rintro e w2 ⟨rfl, hw⟩; rw [hw])
                  | (go_at_call 85; refine (isDigit_any _ _).mono ?_; rintro e w2 ⟨rfl, hw⟩; rw [hw])
                  | (go_at_call 86; refine (shortWord_any _ _).mono ?_; rintro e w2 ⟨rfl, hw⟩; rw [hw, HF.out])
                go_ret
                exact ⟨rfl, rfl⟩
end Go.Proofs.YtmifmmpbmcfmpaaGreatDoor.IW
