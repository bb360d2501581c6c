/-
  The plain law of TreeWords: what the program's functions compute and what the reference's compute is the same.
-/
import Derived.Test.YtfacahgkhpcfmaaGreatDoorHa
set_option linter.unusedVariables false
set_option linter.unusedSimpArgs false
namespace Go.Proofs.YtfacahgkhpcfmaaGreatDoor.HW
open Go Go.RowKit Go.Proofs.YtfacahgkhpcfmaaGreatDoorW.PrintWords Go.Proofs.YtfacahgkhpcfmaaGreatDoor.PTreeWords
set_option maxRecDepth 100000

theorem toList_data (s : ByteArray) : s.toList = s.data.toList := ByteArray.toList_eq s

/-! ### Arity -/
set_option maxHeartbeats 4000000 in
theorem arity_eq (s : ByteArray) (k : Nat) : motleyref04_Arity.f (k + 6) s = some ((ar s).1, (ar s).2.1, (ar s).2.2.2) := by
  have e : ∀ l : List UInt8, s.toList = l → s.data.toList = l := fun l h => by rw [← toList_data]; exact h
  simp only [motleyref04_Arity.f, motleyref04_Arity.j0, motleyref04_Arity.j1, motleyref04_Arity.j2, motleyref04_Arity.j3, motleyref04_Arity.j4]
  unfold ar
  rw [← toList_data]
  generalize s.toList = l
  simp only [tbl, lk, beq_iff_eq]
  by_cases h0 : l = [112, 114, 105, 110, 116]
  · subst h0; rfl
  by_cases h1 : l = [112, 117, 115, 104]
  · subst h1; rfl
  by_cases h2 : l = [117, 110, 115, 104, 105, 102, 116]
  · subst h2; rfl
  by_cases h3 : l = [112, 111, 112]
  · subst h3; rfl
  by_cases h4 : l = [115, 104, 105, 102, 116]
  · subst h4; rfl
  by_cases h5 : l = [107, 101, 121, 115]
  · subst h5; rfl
  by_cases h6 : l = [118, 97, 108, 117, 101, 115]
  · subst h6; rfl
  by_cases h7 : l = [100, 101, 108, 101, 116, 101]
  · subst h7; rfl
  by_cases h8 : l = [101, 120, 105, 115, 116, 115]
  · subst h8; rfl
  by_cases h9 : l = [100, 101, 102, 105, 110, 101, 100]
  · subst h9; rfl
  by_cases h10 : l = [115, 99, 97, 108, 97, 114]
  · subst h10; rfl
  by_cases h11 : l = [119, 97, 110, 116, 97, 114, 114, 97, 121]
  · subst h11; rfl
  by_cases h12 : l = [106, 111, 105, 110]
  · subst h12; rfl
  by_cases h13 : l = [115, 112, 108, 105, 116]
  · subst h13; rfl
  by_cases h14 : l = [114, 101, 118, 101, 114, 115, 101]
  · subst h14; rfl
  by_cases h15 : l = [108, 101, 110, 103, 116, 104]
  · subst h15; rfl
  by_cases h16 : l = [115, 117, 98, 115, 116, 114]
  · subst h16; rfl
  by_cases h17 : l = [105, 110, 100, 101, 120]
  · subst h17; rfl
  by_cases h18 : l = [117, 99]
  · subst h18; rfl
  by_cases h19 : l = [108, 99]
  · subst h19; rfl
  by_cases h20 : l = [111, 114, 100]
  · subst h20; rfl
  by_cases h21 : l = [99, 104, 114]
  · subst h21; rfl
  by_cases h22 : l = [114, 101, 102]
  · subst h22; rfl
  by_cases h23 : l = [98, 108, 101, 115, 115]
  · subst h23; rfl
  by_cases h24 : l = [100, 105, 101]
  · subst h24; rfl
  by_cases h25 : l = [119, 101, 97, 107, 101, 110]
  · subst h25; rfl
  by_cases h26 : l = [116, 105, 101]
  · subst h26; rfl
  by_cases h27 : l = [117, 110, 116, 105, 101]
  · subst h27; rfl
  by_cases h28 : l = [105, 110, 112, 117, 116]
  · subst h28; rfl
  by_cases h29 : l = [103, 117, 97, 114, 100]
  · subst h29; rfl
  by_cases h30 : l = [116, 97, 105, 110, 116, 101, 100]
  · subst h30; rfl
  by_cases h31 : l = [97, 98, 115]
  · subst h31; rfl
  by_cases h32 : l = [117, 110, 100, 101, 102]
  · subst h32; rfl
  by_cases h33 : l = [101, 118, 97, 108, 117, 97, 116, 101]
  · subst h33; rfl
  simp only [h0, h1, h2, h3, h4, h5, h6, h7, h8, h9, h10, h11, h12, h13, h14, h15, h16, h17, h18, h19, h20, h21, h22, h23, h24, h25, h26, h27, h28, h29, h30, h31, h32, h33, if_false, Bool.false_eq_true, beq_iff_eq]

/-! ### Words -/
theorem wrap1 {i : Int} {n : Nat} (h0 : 0 ≤ i) (h : i < (n : Int)) (hn : n ≤ 6000) (c : Int) (hc : c = 1 ∨ c = 2 ∨ c = 3) : wrap64 (i + c) = i + c := by
  unfold wrap64; omega

def letter (c : Int) : Bool := (decide (97 ≤ c) && decide (c ≤ 122)) || (decide (65 ≤ c) && decide (c ≤ 90)) || decide (c = 95)
def digit (c : Int) : Bool := decide (48 ≤ c) && decide (c ≤ 57)
theorem isLetter_eq (c : Int) : lex_isLetter.f c = some (letter c) := by
  unfold lex_isLetter.f letter
  repeat' split
  all_goals (rw [Option.some.injEq, Bool.eq_iff_iff]; simp only [Bool.or_eq_true, Bool.and_eq_true, decide_eq_true_eq, beq_iff_eq, true_iff, Bool.false_eq_true, false_iff]; omega)
theorem isAlpha_eq (c : Int) : motleyref03_isAlpha.f c = some (letter c) := by
  unfold motleyref03_isAlpha.f letter
  repeat' split
  all_goals (rw [Option.some.injEq, Bool.eq_iff_iff]; simp only [Bool.or_eq_true, Bool.and_eq_true, decide_eq_true_eq, beq_iff_eq, true_iff, Bool.false_eq_true, false_iff]; omega)
theorem isDigit_eq (c : Int) : lex_isDigit.f c = some (digit c) := by
  unfold lex_isDigit.f digit
  repeat' split
  all_goals (rw [Option.some.injEq, Bool.eq_iff_iff]; simp only [Bool.or_eq_true, Bool.and_eq_true, decide_eq_true_eq, beq_iff_eq, true_iff, Bool.false_eq_true, false_iff]; omega)
theorem isDigit_eq' (c : Int) : motleyref03_isDigit.f c = some (digit c) := by
  unfold motleyref03_isDigit.f digit
  repeat' split
  all_goals (rw [Option.some.injEq, Bool.eq_iff_iff]; simp only [Bool.or_eq_true, Bool.and_eq_true, decide_eq_true_eq, beq_iff_eq, true_iff, Bool.false_eq_true, false_iff]; omega)

/-- Two bytes behind a place. -/
theorem prefix_eq (s : ByteArray) (n : Nat) (h : n ≤ s.size) : strings_HasPrefix.f (s.extract n s.size) ⟨#[58, 58]⟩ = some (decide (n + 2 ≤ s.size) && (decide (bt s n = 58) && decide (bt s (n + 1 : Nat) = 58))) := by
  unfold strings_HasPrefix.f stringslite_HasPrefix.f
  have e1 : (s.extract n s.size).size = s.size - n := by simp [ByteArray.size_extract]
  have e2 : (⟨#[58, 58]⟩ : ByteArray).size = 2 := rfl
  rw [e1, e2]
  by_cases h2 : n + 2 ≤ s.size
  · rw [if_pos (by omega), if_pos (by omega), if_pos (by omega)]
    have b1 : n < s.data.size := by show n < s.size; omega
    have b2 : n + 1 < s.data.size := by show n + 1 < s.size; omega
    have hx : ((s.extract n s.size).extract 0 (((2 : Nat) : Int) : Int).toNat).toList = [s.data[n], s.data[n + 1]] := by
      rw [toList_data]
      have hs : s.size = s.data.size := rfl
      apply List.ext_getElem?
      intro i
      simp only [ByteArray.data_extract, Array.toList_extract, hs]
      match i with
      | 0 => simp [List.getElem?_take, List.getElem?_drop, b1]; omega
      | 1 => simp [List.getElem?_take, List.getElem?_drop, b2]; omega
      | i + 2 => simp [List.getElem?_take, List.getElem?_drop]; omega
    have hy : (⟨#[58, 58]⟩ : ByteArray).toList = [58, 58] := by rw [toList_data]
    have c1 : bt s n = (s.data[n].toNat : Int) := by
      unfold bt
      rw [dif_pos (show (n : Int).toNat < s.size from b1)]; rfl
    have c2 : bt s (n + 1 : Nat) = (s.data[n + 1].toNat : Int) := by
      unfold bt
      rw [dif_pos (show ((n + 1 : Nat) : Int).toNat < s.size from b2)]; rfl
    have u58 : ∀ x : UInt8, (x = 58) ↔ ((x.toNat : Int) = 58) := fun x => by
      constructor
      · rintro rfl; rfl
      · intro h; exact UInt8.toNat_inj.1 (by simpa using (by omega : x.toNat = 58))
    rw [hx, hy, c1, c2, Option.bind_some, Option.some.injEq, Bool.eq_iff_iff]
    simp only [List.cons_beq_cons, Bool.and_true, Bool.and_eq_true, beq_iff_eq, decide_eq_true_eq, u58, h2, true_and, beq_self_eq_true]
  · rw [if_neg (by omega)]
    simp [h2]
/-- From a place in a word on both loops come to the same end. -/
theorem word_loop (s : ByteArray) (hs : s.size ≤ 6000) (d : Nat) : ∀ (n : Nat), 1 ≤ n → n ≤ s.size → s.size - n ≤ d →
    ∃ r : Int, ∀ k, lex_wordEnd.l0 (k + 4 * d + 5) s 0 n = some r ∧ motleyref03_word.l0 (k + 4 * d + 5) s n = some r := by
  induction d with
  | zero =>
    intro n h1 h2 hd
    have hlt : ¬ (n : Int) < (s.size : Int) := by omega
    refine ⟨n, fun k => ?_⟩
    obtain ⟨K, hK⟩ : ∃ K, K = k + 4 * 0 + 4 := ⟨_, rfl⟩
    have e1 : k + 4 * 0 + 5 = K + 1 := by omega
    rw [e1]
    simp only [lex_wordEnd.l0, motleyref03_word.l0, if_neg hlt, and_self]
  | succ d ih =>
    intro n h1 h2 hd
    by_cases hlt : (n : Int) < (s.size : Int)
    · have w1 : wrap64 ((n : Int) + 1) = ((n + 1 : Nat) : Int) := by unfold wrap64; omega
      have w2 : wrap64 ((n : Int) + 2) = ((n + 2 : Nat) : Int) := by unfold wrap64; omega
      have w3 : wrap64 ((n : Int) + 3) = ((n + 3 : Nat) : Int) := by unfold wrap64; omega
      have w4 : wrap64 (((n + 2 : Nat) : Int) + 1) = ((n + 3 : Nat) : Int) := by unfold wrap64; omega
      have n0 : 0 ≤ (n : Int) := by omega
      have n1 : (n : Int) > 0 := by omega
      by_cases hL : letter (bt s n) = true ∨ digit (bt s n) = true
      · obtain ⟨r, hr⟩ := ih (n + 1) (by omega) (by omega) (by omega)
        refine ⟨r, fun k => ?_⟩
        obtain ⟨a, b⟩ := hr (k + 2)
        obtain ⟨K, hK⟩ : ∃ K, K = k + 2 + 4 * d + 5 := ⟨_, rfl⟩
        rw [← hK] at a b
        have e1 : k + 4 * (d + 1) + 5 = K + 1 + 1 := by omega
        rw [e1]
        clear e1 hK hr
        constructor
        · simp only [lex_wordEnd.l0, if_pos hlt, if_pos n0, isLetter_eq, isDigit_eq, Option.bind_some, if_pos n1]
          by_cases hl : letter (bt s n) = true
          · simp only [hl, if_true, lex_wordEnd.j1, w1, a]
          · have hdg : digit (bt s n) = true := hL.resolve_left hl
            simp only [hl, if_false, Bool.false_eq_true, lex_wordEnd.j1, hdg, if_true, w1, a]
        · simp only [motleyref03_word.l0, if_pos hlt, if_pos n0, isAlpha_eq, isDigit_eq', Option.bind_some]
          by_cases hl : letter (bt s n) = true
          · simp only [hl, if_true, motleyref03_word.j2, w1, b]
          · have hdg : digit (bt s n) = true := hL.resolve_left hl
            simp only [hl, if_false, Bool.false_eq_true, motleyref03_word.j2, hdg, if_true, w1, b]
      · have hl : letter (bt s n) = false := by cases h : letter (bt s n) <;> simp_all
        have hg : digit (bt s n) = false := by cases h : digit (bt s n) <;> simp_all
        have hp := prefix_eq s n h2
        have q4 : (n : Int) ≤ (s.size : Int) := by omega
        by_cases hP : n + 2 < s.size ∧ bt s n = 58 ∧ bt s (n + 1 : Nat) = 58 ∧ letter (bt s (n + 2 : Nat)) = true
        · obtain ⟨p1, p2, p3, p4⟩ := hP
          obtain ⟨r, hr⟩ := ih (n + 3) (by omega) (by omega) (by omega)
          refine ⟨r, fun k => ?_⟩
          obtain ⟨K, hK⟩ : ∃ K, K = k + 4 * d + 5 := ⟨_, rfl⟩
          have a := (hr k).1
          have b := (hr (k + 2)).2
          have e1 : k + 4 * (d + 1) + 5 = K + 1 + 1 + 1 + 1 := by omega
          have e2 : k + 2 + 4 * d + 5 = K + 1 + 1 := by omega
          rw [← hK] at a
          rw [e2] at b
          rw [e1]
          clear e1 e2 hK hr
          have q2 : ((n + 2 : Nat) : Int) < (s.size : Int) := by omega
          have q3 : 0 ≤ ((n + 2 : Nat) : Int) := by omega
          have q5 : ((n + 2 : Nat) : Int) > 0 := by omega
          have q6 : ((n + 1 : Nat) : Int) < (s.size : Int) := by omega
          have q7 : 0 ≤ ((n + 1 : Nat) : Int) := by omega
          have q8 : n + 2 ≤ s.size := by omega
          have hp' : strings_HasPrefix.f (s.extract (n : Int).toNat s.size) ⟨#[58, 58]⟩ = some true := by
            rw [Int.toNat_natCast, hp]
            simp only [p2, p3, q8, decide_true, Bool.and_self]
          constructor
          · rw [lex_wordEnd.l0, if_pos hlt, if_pos n0, isLetter_eq, Option.bind_some, hl]
            rw [if_neg Bool.false_ne_true, if_pos n1, isDigit_eq, Option.bind_some, hg]
            rw [lex_wordEnd.j1, if_neg Bool.false_ne_true, if_pos n1, if_pos n0, if_pos q4, hp', Option.bind_some, if_pos rfl]
            rw [w2, if_pos q2, if_pos q3, isLetter_eq, Option.bind_some, if_pos p4]
            rw [lex_wordEnd.l0, if_pos q2, if_pos q3, isLetter_eq, Option.bind_some, if_pos p4]
            rw [p4, lex_wordEnd.j1, if_pos rfl, w4]
            exact a
          · generalize K + 1 + 1 = K2 at b ⊢
            rw [motleyref03_word.l0, if_pos hlt, if_pos n0, isAlpha_eq, Option.bind_some, hl]
            rw [if_neg Bool.false_ne_true, isDigit_eq', Option.bind_some, hg]
            rw [motleyref03_word.j2, if_neg Bool.false_ne_true, w2, if_pos q2, if_pos n0, if_pos hlt, if_pos p2, w1, if_pos q7, if_pos q6, if_pos p3, if_pos q3, isAlpha_eq, Option.bind_some, if_pos p4, w3]
            exact b
        · refine ⟨n, fun k => ?_⟩
          obtain ⟨K, hK⟩ : ∃ K, K = k + 4 * d + 7 := ⟨_, rfl⟩
          have e1 : k + 4 * (d + 1) + 5 = K + 1 + 1 := by omega
          rw [e1]
          clear e1 hK
          have q3 : 0 ≤ ((n + 2 : Nat) : Int) := by omega
          have q7 : 0 ≤ ((n + 1 : Nat) : Int) := by omega
          constructor
          · simp only [lex_wordEnd.l0, if_pos hlt, if_pos n0, isLetter_eq, isDigit_eq, Option.bind_some, if_pos n1, hl, hg, if_false, Bool.false_eq_true, lex_wordEnd.j1, if_pos q4, Int.toNat_natCast, hp, w2, if_pos q3]
            split
            · rename_i h5
              split
              · rename_i h6
                split
                · rename_i h7
                  exfalso
                  apply hP
                  simp only [Bool.and_eq_true, decide_eq_true_eq] at h5
                  exact ⟨by omega, h5.2.1, h5.2.2, h7⟩
                · rfl
              · rfl
            · rfl
          · simp only [motleyref03_word.l0, if_pos hlt, if_pos n0, isAlpha_eq, isDigit_eq', Option.bind_some, hl, hg, if_false, Bool.false_eq_true, motleyref03_word.j2, w2, if_pos q3, w1, if_pos q7, w3]
            split
            · rename_i h5
              have q6 : ((n + 1 : Nat) : Int) < (s.size : Int) := by omega
              rw [if_pos q6]
              split
              · rename_i h6
                split
                · rename_i h7
                  split
                  · rename_i h8
                    exfalso
                    exact hP ⟨by omega, h6, h7, h8⟩
                  · rfl
                · rfl
              · rfl
            · rfl
    · refine ⟨n, fun k => ?_⟩
      obtain ⟨K, hK⟩ : ∃ K, K = k + 4 * d + 8 := ⟨_, rfl⟩
      have e1 : k + 4 * (d + 1) + 5 = K + 1 := by omega
      rw [e1]
      simp only [lex_wordEnd.l0, motleyref03_word.l0, if_neg hlt, and_self]

theorem isWord_eq (s : ByteArray) (hs : s.size ≤ 6000) : ∃ b : Bool, ∀ k, lex_IsWord.f (k + 24100) s = some b ∧ motleyref03_IsWord.f (k + 24100) s = some b := by
  by_cases h0 : s.toList = ([] : List UInt8)
  · exact ⟨false, fun k => ⟨by unfold lex_IsWord.f; rw [if_pos h0], by unfold motleyref03_IsWord.f; rw [if_pos h0]⟩⟩
  have hpos : 0 < s.size := by
    rcases Nat.eq_zero_or_pos s.size with h | h
    · exfalso; apply h0
      rw [toList_data]
      exact List.eq_nil_of_length_eq_zero (by rw [Array.length_toList]; exact h)
    · exact h
  have hlt : (0 : Int) < (s.size : Int) := by omega
  have key : ∃ r : Int, ∀ k, lex_wordEnd.f (k + 24100) s 0 = some r ∧ motleyref03_word.f (k + 24100) s = some r := by
    by_cases hl : letter (bt s 0) = true
    · obtain ⟨r, hr⟩ := word_loop s hs s.size 1 (by omega) (by omega) (by omega)
      refine ⟨r, fun k => ?_⟩
      obtain ⟨j, hj⟩ : ∃ j, k + 24100 = j + 1 + 4 * s.size + 5 + 1 := ⟨k + 24100 - 4 * s.size - 7, by omega⟩
      obtain ⟨K, hK⟩ : ∃ K, K + 1 = j + 1 + 4 * s.size + 5 := ⟨j + 4 * s.size + 5, by omega⟩
      have a := (hr j).1
      have b := (hr (j + 1)).2
      rw [show j + 4 * s.size + 5 = K by omega] at a
      rw [← hK] at b hj
      rw [hj]
      have w1 : wrap64 ((0 : Int) + 1) = ((1 : Nat) : Int) := by unfold wrap64; omega
      constructor
      · rw [lex_wordEnd.f, lex_wordEnd.l0, if_pos hlt, if_pos (Int.le_refl 0), isLetter_eq, Option.bind_some, if_pos hl, hl, lex_wordEnd.j1, if_pos rfl, w1]
        exact a
      · rw [motleyref03_word.f, if_neg h0, if_pos hlt, isAlpha_eq, Option.bind_some, hl, Bool.not_true, motleyref03_word.j0, if_neg Bool.false_ne_true]
        exact b
    · have hl' : letter (bt s 0) = false := by cases h : letter (bt s 0) <;> simp_all
      refine ⟨0, fun k => ?_⟩
      obtain ⟨K, hK⟩ : ∃ K, k + 24100 = K + 1 + 1 := ⟨k + 24098, by omega⟩
      rw [hK]
      have h00 : ¬ (0 : Int) > 0 := by omega
      constructor
      · rw [lex_wordEnd.f, lex_wordEnd.l0, if_pos hlt, if_pos (Int.le_refl 0), isLetter_eq, Option.bind_some, hl', if_neg Bool.false_ne_true, if_neg h00, lex_wordEnd.j1, if_neg Bool.false_ne_true, if_neg h00]
      · rw [motleyref03_word.f, if_neg h0, if_pos hlt, isAlpha_eq, Option.bind_some, hl', Bool.not_false, motleyref03_word.j0, if_pos rfl]
  obtain ⟨r, hr⟩ := key
  refine ⟨decide ((s.size : Int) ≤ 12) && (r == (s.size : Int)), fun k => ?_⟩
  obtain ⟨a, b⟩ := hr k
  constructor
  · unfold lex_IsWord.f
    rw [if_neg h0, a]
    by_cases hk : (s.size : Int) ≤ 12
    · rw [if_pos hk, Option.bind_some, decide_eq_true hk, Bool.true_and]
    · rw [if_neg hk, decide_eq_false hk, Bool.false_and]
  · unfold motleyref03_IsWord.f
    rw [if_neg h0, b, Option.bind_some]
    by_cases hk : r = (s.size : Int)
    · rw [if_pos hk, beq_iff_eq.2 hk, Bool.and_true]
    · rw [if_neg hk, beq_eq_false_iff_ne.2 hk, Bool.and_false]

/-! ### Lists of texts -/
theorem search (l : List ByteArray) (hl : l.length ≤ 6000) (s : ByteArray) (d : Nat) : ∀ i : Nat, i ≤ l.length → l.length - i ≤ d →
    ∃ (r : Int) (b : Bool), (∀ k, slices_Index_string_string.l0 (k + d + 1) l s l.length i = some r ∧ motleyref04_in.l0 (k + d + 1) s l i = some b) ∧ decide (r ≥ 0) = b := by
  induction d with
  | zero =>
    intro i h1 h2
    have hlt : ¬ (i : Int) < (l.length : Int) := by omega
    refine ⟨-1, false, fun k => ⟨?_, ?_⟩, by decide⟩
    · rw [slices_Index_string_string.l0, if_neg hlt]
    · rw [motleyref04_in.l0, if_neg hlt]
  | succ d ih =>
    intro i h1 h2
    by_cases hlt : (i : Int) < (l.length : Int)
    · have i0 : 0 ≤ (i : Int) := by omega
      have w1 : wrap64 ((i : Int) + 1) = ((i + 1 : Nat) : Int) := by unfold wrap64; omega
      by_cases he : s.toList = (rdOf ByteArray.empty l i).toList
      · refine ⟨i, true, fun k => ⟨?_, ?_⟩, by simp⟩
        · rw [slices_Index_string_string.l0, if_pos hlt, if_pos i0, if_pos hlt, if_pos he]
        · rw [motleyref04_in.l0, if_pos hlt, if_pos i0, if_pos he.symm]
      · obtain ⟨r, b, hr, hb⟩ := ih (i + 1) (by omega) (by omega)
        refine ⟨r, b, fun k => ⟨?_, ?_⟩, hb⟩
        · rw [show k + (d + 1) + 1 = (k + d + 1) + 1 by omega, slices_Index_string_string.l0, if_pos hlt, if_pos i0, if_pos hlt, if_neg he, w1]
          exact (hr k).1
        · rw [show k + (d + 1) + 1 = (k + d + 1) + 1 by omega, motleyref04_in.l0, if_pos hlt, if_pos i0, if_neg (fun h => he h.symm), w1]
          exact (hr k).2
    · refine ⟨-1, false, fun k => ⟨?_, ?_⟩, by decide⟩
      · rw [show k + (d + 1) + 1 = (k + d + 1) + 1 by omega, slices_Index_string_string.l0, if_neg hlt]
      · rw [show k + (d + 1) + 1 = (k + d + 1) + 1 by omega, motleyref04_in.l0, if_neg hlt]

theorem contains_eq (s : ByteArray) : ∃ b : Bool, ∀ k, slices_Contains_string_string.f (k + 24100) wl s = some b ∧ motleyref04_in.f (k + 24100) s wl = some b := by
  obtain ⟨r, b, hr, hb⟩ := search wl (by decide) s 39 0 (by omega) (by decide)
  refine ⟨b, fun k => ?_⟩
  obtain ⟨a, c⟩ := hr (k + 24060)
  constructor
  · unfold slices_Contains_string_string.f slices_Index_string_string.f
    rw [show k + 24100 = k + 24060 + 39 + 1 by omega, show (0 : Int) = ((0 : Nat) : Int) from rfl, a, Option.bind_some]
    rw [show ((0 : Nat) : Int) = 0 from rfl, hb]
  · unfold motleyref04_in.f
    rw [show k + 24100 = k + 24060 + 39 + 1 by omega, show (0 : Int) = ((0 : Nat) : Int) from rfl, c]

theorem grammar_eq : motleyref04_grammar.f = some wl := rfl

/-- The reference's names are the program's. -/
theorem isName_eq (s : ByteArray) (hs : s.size ≤ 6000) : ∃ b c : Bool, lex_IsWord.f 24100 s = some b ∧ slices_Contains_string_string.f 24100 wl s = some c ∧
    motleyref04_IsName.f 24100 s = some (b && !(ar s).2.2.2 && !c) := by
  obtain ⟨b, hb⟩ := isWord_eq s hs
  obtain ⟨c, hc⟩ := contains_eq s
  refine ⟨b, c, (hb 0).1, (hc 0).1, ?_⟩
  unfold motleyref04_IsName.f motleyref04_isFunction.f
  rw [(hb 0).2, Option.bind_some, grammar_eq, Option.bind_some, (hc 0).2, Option.bind_some, arity_eq s 24094, Option.bind_some, Option.bind_some]
  cases b <;> cases c <;> cases h : (ar s).2.2.2 <;> simp
end Go.Proofs.YtfacahgkhpcfmaaGreatDoor.HW
