/-
  The program's words.
-/
import Derived.Test.YtmifmmpbmcfmpaaGreatDoorJb
set_option linter.unusedVariables false
set_option linter.unusedSimpArgs false
namespace Go.Proofs.YtmifmmpbmcfmpaaGreatDoor.IW
open Go Go.RowKit
set_option maxRecDepth 100000

theorem data_ext (s : ByteArray) (i j : Nat) : (s.extract i j).data.toList = (s.data.toList.drop i).take (j - i) := by
  rw [ByteArray.data_extract, Array.toList_extract]
theorem bt_list (s : ByteArray) (i : Nat) : bt s i = ((s.data.toList[i]?).map fun b => (b.toNat : Int)).getD 0 := by
  unfold bt
  split
  · rename_i h
    have h2 : i < s.data.toList.length := by simpa using h
    rw [List.getElem?_eq_getElem h2]
    rfl
  · rename_i h
    have h2 : s.data.toList.length ≤ i := by simpa using h
    rw [List.getElem?_eq_none h2]
    rfl
theorem size_ext (s : ByteArray) (i j : Nat) (h : j ≤ s.size) : (s.extract i j).size = j - i := by
  rw [ByteArray.size_extract]; omega
theorem bt_ext (s : ByteArray) (i j k : Nat) (h : k < j - i) : bt (s.extract i j) k = bt s (i + k) := by
  rw [bt_list, bt_list, data_ext, List.getElem?_take, if_pos h, List.getElem?_drop]
theorem ext_ext (s : ByteArray) (i j k l : Nat) (h : l ≤ j - i) : (s.extract i j).extract k l = s.extract (i + k) (i + l) := by
  apply ByteArray.ext
  apply Array.ext'
  rw [data_ext, data_ext, data_ext, List.drop_take, List.take_take, List.drop_drop]
  congr 1
  omega
theorem ext_all (s : ByteArray) : s.extract 0 s.size = s := by
  apply ByteArray.ext
  apply Array.ext'
  rw [data_ext, List.drop_zero, Nat.sub_zero]
  exact List.take_of_length_le (by simp)
theorem ext_nil (s : ByteArray) (i j : Nat) (h : j ≤ i) : s.extract i j = ⟨#[]⟩ := by
  apply ByteArray.ext
  apply Array.ext'
  rw [data_ext, Nat.sub_eq_zero_of_le h, List.take_zero]
theorem u8_eq (x c : UInt8) : (x == c) = ((x.toNat : Int) == (c.toNat : Int)) := by
  by_cases h : x = c
  · subst h; simp
  · have h2 : ¬ x.toNat = c.toNat := fun e => h (UInt8.toNat_inj.1 e)
    rw [beq_eq_false_iff_ne.2 h, beq_eq_false_iff_ne.2 (by omega)]
theorem hasPrefix_one (s : ByteArray) (c : UInt8) : Lib.hasPrefix s.data.toList [c] = (decide (0 < s.size) && (bt s 0 == (c.toNat : Int))) := by
  rw [bt_list]
  have hs : s.size = s.data.toList.length := by simp
  rw [hs]
  cases h : s.data.toList with
  | nil => rfl
  | cons x l =>
    unfold Lib.hasPrefix
    simp only [List.isPrefixOf, Bool.and_true, List.length_cons, List.getElem?_cons_zero, Option.map_some, Option.getD_some]
    rw [decide_eq_true (Nat.succ_pos _), Bool.true_and, ← u8_eq]
    by_cases e : c = x
    · subst e; simp
    · rw [beq_eq_false_iff_ne.2 e, beq_eq_false_iff_ne.2 (Ne.symm e)]
theorem hasPrefix_two (s : ByteArray) (c d : UInt8) : Lib.hasPrefix s.data.toList [c, d] = (decide (1 < s.size) && (bt s 0 == (c.toNat : Int)) && (bt s 1 == (d.toNat : Int))) := by
  rw [bt_list, bt_list]
  have hs : s.size = s.data.toList.length := by simp
  rw [hs]
  have cm : ∀ a b : UInt8, (a == b) = (b == a) := fun a b => by
    by_cases e : a = b
    · subst e; rfl
    · rw [beq_eq_false_iff_ne.2 e, beq_eq_false_iff_ne.2 (Ne.symm e)]
  cases h : s.data.toList with
  | nil => rfl
  | cons x l =>
    cases l with
    | nil =>
      unfold Lib.hasPrefix
      simp [List.isPrefixOf]
    | cons y l =>
      unfold Lib.hasPrefix
      simp only [List.isPrefixOf, Bool.and_true, List.length_cons, List.getElem?_cons_zero, List.getElem?_cons_succ, Option.map_some, Option.getD_some]
      rw [decide_eq_true (by omega), Bool.true_and, ← u8_eq, ← u8_eq, cm c x, cm d y]
theorem colons (s : ByteArray) (n : Nat) (h : n ≤ s.size) : Lib.hasPrefix (s.extract n s.size).data.toList [58, 58] = (decide (n + 1 < s.size) && (bt s n == 58) && (bt s (n + 1) == 58)) := by
  rw [hasPrefix_two, size_ext _ _ _ (Nat.le_refl _)]
  by_cases h1 : n + 1 < s.size
  · rw [bt_ext _ _ _ _ (by omega), bt_ext _ _ _ _ (by omega), decide_eq_true h1, decide_eq_true (by omega)]; rfl
  · rw [decide_eq_false h1, decide_eq_false (by omega)]; rfl

set_option maxHeartbeats 1000000 in
theorem wordEnd_any (s : ByteArray) (w : World) (hm : s.size ≤ 1000000) : Calls Tryz.prog 126 #[.string s, .int .i64 0] w fun e w' => e = .returned (.int .i64 (wordLen s : Nat)) ∧ w' = w := by
  have HM := Aside0.mk hm
  clear hm
  go_enter Tryz.func126, Tryz.ntmps126
  go_wp2
  go_loopg [5] s.size (fun kq v3 w' => ∃ n : Nat, v3 = .int .i64 n ∧ Aside0 (At s n ∧ kq + n = s.size) ∧ w' = w)
  case atStart => exact ⟨0, rfl, ⟨at_zero s, by omega⟩, rfl⟩
  case round =>
    obtain ⟨n, rfl, HI, rfl⟩ := hrel
    obtain ⟨hat, hkq⟩ := HI.out
    have hM := HM.out
    cases gk with
    | zero =>
      have c1 : decide ((n : Int) < (s.size : Int)) = false := decide_eq_false (by omega)
      have c2 : decide (n < s.size) = false := decide_eq_false (by omega)
      have HF := Aside0.mk (hat.end_ (by omega))
      clear hat hkq hM HI
      go_wp2
      go_ret
      exact ⟨by rw [HF.out]; rfl, rfl⟩
    | succ g1 =>
      have hlt : n < s.size := by omega
      have c1 : decide ((n : Int) < (s.size : Int)) = true := decide_eq_true (by omega)
      have c2 : decide (n < s.size) = true := decide_eq_true hlt
      have p1 : (0 : Int) ≤ n := by omega
      have q1 : (n : Int) < (s.size : Int) := by omega
      have b1 := bt_at s n hlt
      have wr1 : wrap64 ((n : Int) + 1) = ((n + 1 : Nat) : Int) := by unfold wrap64; omega
      have wr2 : wrap64 ((n : Int) + 2) = ((n + 2 : Nat) : Int) := by unfold wrap64; omega
      have hcl := colons s n (Nat.le_of_lt hlt)
      cases hb : alphaI (bt s n) with
      | true =>
        have HX : Aside0 (At s (n + 1) ∧ g1 + (n + 1) = s.size) := ⟨hat.one hlt (by rw [hb]; rfl), by omega⟩
        clear hat hkq hM HI wr2 hcl
        go_wp2_with first
          | (go_at_call 151; refine (isLetter_any _ _).mono ?_; rintro e w2 ⟨rfl, hw⟩; rw [hw])
          | (go_at_call 152; refine (lexDigit_any _ _).mono ?_; rintro e w2 ⟨rfl, hw⟩; rw [hw])
          | (go_at_call 94; refine (SH.strings_HasPrefix _ _ _).mono ?_; rintro e w2 ⟨rfl, hw⟩; first | rw [hw, hp] | rw [hw])
        go_roundg g1
        case measure => omega
        case rel => exact ⟨n + 1, by rw [wr1], HX, rfl⟩
      | false =>
        by_cases hn : n = 0
        · have HF := Aside0.mk (hat.stop hlt (by rw [hb]; simp [hn]) (by simp [hn]))
          have c4 : decide ((n : Int) > 0) = false := decide_eq_false (by omega)
          have c5 : decide (0 < n) = false := decide_eq_false (by omega)
          clear hat hkq hM HI wr2 hcl hn
          go_wp2_with first
            | (go_at_call 151; refine (isLetter_any _ _).mono ?_; rintro e w2 ⟨rfl, hw⟩; rw [hw])
            | (go_at_call 152; refine (lexDigit_any _ _).mono ?_; rintro e w2 ⟨rfl, hw⟩; rw [hw])
            | (go_at_call 94; refine (SH.strings_HasPrefix _ _ _).mono ?_; rintro e w2 ⟨rfl, hw⟩; first | rw [hw, hp] | rw [hw])
          go_ret
          exact ⟨by rw [HF.out]; rfl, rfl⟩
        · have c4 : decide ((n : Int) > 0) = true := decide_eq_true (by omega)
          have c5 : decide (0 < n) = true := decide_eq_true (by omega)
          have hn0 : (!decide (n = 0)) = true := by simp; omega
          cases hd : digitI (bt s n) with
          | true =>
            have HX : Aside0 (At s (n + 1) ∧ g1 + (n + 1) = s.size) := ⟨hat.one hlt (by rw [hb, hn0, hd]; rfl), by omega⟩
            clear hat hkq hM HI wr2 hcl hn0
            go_wp2_with first
              | (go_at_call 151; refine (isLetter_any _ _).mono ?_; rintro e w2 ⟨rfl, hw⟩; rw [hw])
              | (go_at_call 152; refine (lexDigit_any _ _).mono ?_; rintro e w2 ⟨rfl, hw⟩; rw [hw])
              | (go_at_call 94; refine (SH.strings_HasPrefix _ _ _).mono ?_; rintro e w2 ⟨rfl, hw⟩; first | rw [hw, hp] | rw [hw])
            go_roundg g1
            case measure => omega
            case rel => exact ⟨n + 1, by rw [wr1], HX, rfl⟩
          | false =>
            have hq : (alphaI (bt s n) || (!decide (n = 0) && digitI (bt s n))) = false := by rw [hb, hd]; simp
            by_cases hc : n ≠ 0 ∧ n + 2 < s.size ∧ bt s n = 58 ∧ bt s (n + 1) = 58 ∧ alphaI (bt s (n + 2)) = true
            · have HX : Aside0 (At s (n + 2) ∧ (g1 - 1) + (n + 2) = s.size) := ⟨hat.two hlt hq hc, by omega⟩
              have HG : Aside0 (g1 - 1 < g1 + 1) := ⟨by omega⟩
              obtain ⟨_, l2, e1, e2, a3⟩ := hc
              have hp : Lib.hasPrefix (s.extract n s.size).data.toList [58, 58] = true := by rw [hcl, e1, e2, decide_eq_true (by omega)]; rfl
              have c3 : decide (wrap64 ((n : Int) + 2) < (s.size : Int)) = true := decide_eq_true (by rw [wr2]; exact Int.ofNat_lt.2 l2)
              have p3 : (0 : Int) ≤ wrap64 ((n : Int) + 2) := by rw [wr2]; omega
              have q3 : wrap64 ((n : Int) + 2) < (s.size : Int) := by rw [wr2]; omega
              have t2 : (wrap64 ((n : Int) + 2)).toNat = n + 2 := by rw [wr2]; exact Int.toNat_natCast _
              have b3 := bt_at s (n + 2) l2
              clear hat hkq hM HI hn0 hq e1 e2 hcl
              go_wp2_with first
                | (go_at_call 151; refine (isLetter_any _ _).mono ?_; rintro e w2 ⟨rfl, hw⟩; rw [hw])
                | (go_at_call 152; refine (lexDigit_any _ _).mono ?_; rintro e w2 ⟨rfl, hw⟩; rw [hw])
                | (go_at_call 94; refine (SH.strings_HasPrefix _ _ _).mono ?_; rintro e w2 ⟨rfl, hw⟩; first | rw [hw, hp] | rw [hw])
              go_roundg (g1 - 1)
              case measure => exact HG.out
              case rel => exact ⟨n + 2, by rw [wr2], HX, rfl⟩
            · have HF := Aside0.mk (hat.stop hlt hq hc)
              cases hp : Lib.hasPrefix (s.extract n s.size).data.toList [58, 58] with
              | false =>
                clear hat hkq hM HI hn0 hq hcl hc
                go_wp2_with first
                  | (go_at_call 151; refine (isLetter_any _ _).mono ?_; rintro e w2 ⟨rfl, hw⟩; rw [hw])
                  | (go_at_call 152; refine (lexDigit_any _ _).mono ?_; rintro e w2 ⟨rfl, hw⟩; rw [hw])
                  | (go_at_call 94; refine (SH.strings_HasPrefix _ _ _).mono ?_; rintro e w2 ⟨rfl, hw⟩; first | rw [hw, hp] | rw [hw])
                go_ret
                exact ⟨by rw [HF.out]; rfl, rfl⟩
              | true =>
                rw [hp] at hcl
                have hcm := hcl.symm
                clear hcl
                simp only [Bool.and_eq_true, decide_eq_true_eq, beq_iff_eq] at hcm
                by_cases l2 : n + 2 < s.size
                · have c3 : decide (wrap64 ((n : Int) + 2) < (s.size : Int)) = true := decide_eq_true (by rw [wr2]; exact Int.ofNat_lt.2 l2)
                  have p3 : (0 : Int) ≤ wrap64 ((n : Int) + 2) := by rw [wr2]; omega
                  have q3 : wrap64 ((n : Int) + 2) < (s.size : Int) := by rw [wr2]; omega
                  have t2 : (wrap64 ((n : Int) + 2)).toNat = n + 2 := by rw [wr2]; exact Int.toNat_natCast _
                  have b3 := bt_at s (n + 2) l2
                  have a3 : alphaI (bt s (n + 2)) = false := by
                    cases h : alphaI (bt s (n + 2)) with
                    | false => rfl
                    | true => exact absurd ⟨hn, l2, hcm.1.2, hcm.2, h⟩ hc
                  clear hat hkq hM HI hn0 hq hcm hc
                  go_wp2_with first
                    | (go_at_call 151; refine (isLetter_any _ _).mono ?_; rintro e w2 ⟨rfl, hw⟩; rw [hw])
                    | (go_at_call 152; refine (lexDigit_any _ _).mono ?_; rintro e w2 ⟨rfl, hw⟩; rw [hw])
                    | (go_at_call 94; refine (SH.strings_HasPrefix _ _ _).mono ?_; rintro e w2 ⟨rfl, hw⟩; first | rw [hw, hp] | rw [hw])
                  go_ret
                  exact ⟨by rw [HF.out]; rfl, rfl⟩
                · have c3 : decide (wrap64 ((n : Int) + 2) < (s.size : Int)) = false := decide_eq_false (by rw [wr2]; omega)
                  clear hat hkq hM HI hn0 hq hcm hc
                  go_wp2_with first
                    | (go_at_call 151; refine (isLetter_any _ _).mono ?_; rintro e w2 ⟨rfl, hw⟩; rw [hw])
                    | (go_at_call 152; refine (lexDigit_any _ _).mono ?_; rintro e w2 ⟨rfl, hw⟩; rw [hw])
                    | (go_at_call 94; refine (SH.strings_HasPrefix _ _ _).mono ?_; rintro e w2 ⟨rfl, hw⟩; first | rw [hw, hp] | rw [hw])
                  go_ret
                  exact ⟨by rw [HF.out]; rfl, rfl⟩
end Go.Proofs.YtmifmmpbmcfmpaaGreatDoor.IW
