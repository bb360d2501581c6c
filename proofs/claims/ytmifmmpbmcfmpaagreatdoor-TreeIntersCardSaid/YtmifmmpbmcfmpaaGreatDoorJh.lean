/-
  Digits.
-/
import Derived.Test.YtmifmmpbmcfmpaaGreatDoorJg
set_option linter.unusedVariables false
set_option linter.unusedSimpArgs false
namespace Go.Proofs.YtmifmmpbmcfmpaaGreatDoor.IW
open Go Go.RowKit
set_option maxRecDepth 100000

def digRun (s : ByteArray) : Nat → Nat → Nat
  | 0, n => n
  | f + 1, n => if n < s.size ∧ digitI (bt s n) = true then digRun s f (n + 1) else n
def digLen (s : ByteArray) : Nat := digRun s s.size 0
/-- So many digits stand behind a place, and no more. -/
def DL (s : ByteArray) (k d : Nat) : Prop := (∀ i, i < d → digitI (bt s (k + i)) = true) ∧ k + d ≤ s.size ∧ ¬ (k + d < s.size ∧ digitI (bt s (k + d)) = true)
theorem DL.uniq {s : ByteArray} {k a b : Nat} (h : DL s k a) (g : DL s k b) : a = b := by
  obtain ⟨h1, h2, h3⟩ := h
  obtain ⟨g1, g2, g3⟩ := g
  rcases Nat.lt_trichotomy a b with e | e | e
  · exact absurd ⟨by omega, g1 a e⟩ h3
  · exact e
  · exact absurd ⟨by omega, h1 b e⟩ g3
theorem digRun_spec (s : ByteArray) : ∀ (f n : Nat), n ≤ s.size → s.size ≤ n + f → (∀ i, i < n → digitI (bt s i) = true) → DL s 0 (digRun s f n)
  | 0, n, h1, h2, h3 => ⟨fun i hi => by rw [Nat.zero_add]; exact h3 i hi, by simpa [digRun] using h1, fun h => by have := h.1; simp only [digRun] at this; omega⟩
  | f + 1, n, h1, h2, h3 => by
    rw [digRun]
    split
    · rename_i h
      refine digRun_spec s f (n + 1) (by omega) (by omega) fun i hi => ?_
      by_cases e : i = n
      · rw [e]; exact h.2
      · exact h3 i (by omega)
    · rename_i h
      exact ⟨fun i hi => by rw [Nat.zero_add]; exact h3 i hi, by omega, by rw [Nat.zero_add]; exact h⟩
theorem digLen_spec (s : ByteArray) : DL s 0 (digLen s) := digRun_spec s _ _ (by omega) (by omega) (fun i hi => by omega)
theorem digLen_le (s : ByteArray) : digLen s ≤ s.size := by have := (digLen_spec s).2.1; omega

def okD (s : ByteArray) (d : Nat) : Bool := decide (1 ≤ d) && decide (d ≤ 15) && (decide (d = 1) || !(bt s 0 == 48))
def numN (s : ByteArray) : Nat := if okD s (digLen s) = true then digLen s else 0

theorem digit_mem {p : ByteArray} (h : ∀ i, i < p.size → digitI (bt p i) = true) : ∀ x ∈ p.data.toList, (⟨#[48, 49, 50, 51, 52, 53, 54, 55, 56, 57]⟩ : ByteArray).data.toList.contains x = true := by
  intro x hx
  obtain ⟨i, hi⟩ := List.getElem?_of_mem hx
  have hil : i < p.size := by have := (List.getElem?_eq_some_iff.1 hi).1; simpa using this
  have h2 := h i hil
  rw [bt_list, hi] at h2
  have h3 : ((x.toNat : Int) ≥ 48 ∧ (x.toNat : Int) ≤ 57) := by simpa [digitI] using h2
  have h4 : x.toNat = 48 ∨ x.toNat = 49 ∨ x.toNat = 50 ∨ x.toNat = 51 ∨ x.toNat = 52 ∨ x.toNat = 53 ∨ x.toNat = 54 ∨ x.toNat = 55 ∨ x.toNat = 56 ∨ x.toNat = 57 := by omega
  have e : ∀ c : UInt8, x.toNat = c.toNat → x = c := fun c h => UInt8.toNat_inj.1 h
  rcases h4 with h | h | h | h | h | h | h | h | h | h
  · rw [e 48 h]; decide
  · rw [e 49 h]; decide
  · rw [e 50 h]; decide
  · rw [e 51 h]; decide
  · rw [e 52 h]; decide
  · rw [e 53 h]; decide
  · rw [e 54 h]; decide
  · rw [e 55 h]; decide
  · rw [e 56 h]; decide
  · rw [e 57 h]; decide

theorem ascii_all {l : List UInt8} (h : l.all (fun b => decide (b.toNat < 128)) = true) : ∀ (j : Nat) b, l[j]? = some b → b.toNat < 128 :=
  fun _ b hb => of_decide_eq_true (List.all_eq_true.1 h b (List.mem_of_getElem? hb))
theorem eq48 (p : ByteArray) : (p.toList == [48]) = (decide (p.size = 1) && (bt p 0 == 48)) := by
  rw [Lib.toList_data, bt_list]
  have hs : p.size = p.data.toList.length := by simp
  rw [hs]
  cases p.data.toList with
  | nil => rfl
  | cons x l =>
    cases l with
    | nil =>
      have := u8_eq x 48
      simp only [List.cons_beq_cons, List.length_cons, List.length_nil, List.getElem?_cons_zero, Option.map_some, Option.getD_some]
      rw [this]; simp
    | cons y l => simp

set_option maxHeartbeats 1000000 in
theorem isDigits_any (p : ByteArray) (w : World) (hm : p.size ≤ 1000000) (h : ∀ i, i < p.size → digitI (bt p i) = true) : Calls Tryz.prog 127 #[.string p] w fun e w' => e = .returned (.bool (okD p p.size)) ∧ Below w.heap.size w w' := by
  have HM := Aside0.mk hm
  have HA := Aside0.mk h
  by_cases h1 : 1 ≤ p.size
  · have c1 : decide ((p.size : Int) ≥ 1) = true := decide_eq_true (by omega)
    have c2 : decide (1 ≤ p.size) = true := decide_eq_true h1
    have P1 := Aside0.mk h1
    by_cases h15 : p.size ≤ 15
    · have c3 : decide ((p.size : Int) ≤ 15) = true := decide_eq_true (by omega)
      have c4 : decide (p.size ≤ 15) = true := decide_eq_true h15
      have p0 : 0 < p.size := by omega
      have q0 : (0 : Int) < (p.size : Int) := by omega
      have b0 := bt_at p 0 p0
      have T := trim_any p ⟨#[48, 49, 50, 51, 52, 53, 54, 55, 56, 57]⟩ w (by decide) p0 hm (by decide) (ascii_all (by decide)) (digit_mem h)
      have HT := Aside0.mk T
      have z1 := eq48 p
      cases hb : (bt p 0 == 48) with
      | false =>
        have z2 : (bt p 0 != 48) = true := by unfold bne; rw [hb]; rfl
        rw [hb, Bool.and_false] at z1
        have HV : Aside0 (okD p p.size = true) := ⟨by unfold okD; rw [hb, c2, c4]; simp⟩
        clear hm h h1 h15 T
        go_enter Tryz.func127, Tryz.ntmps127
        go_wp2_with (go_at_call 92; refine HT.out.mono ?_; rintro e w' ⟨rfl, hw⟩)
        go_ret
        exact ⟨by rw [HV.out]; rfl, hw⟩
      | true =>
        have z2 : (bt p 0 != 48) = false := by unfold bne; rw [hb]; rfl
        by_cases hs1 : p.size = 1
        · rw [hb, Bool.and_true, decide_eq_true hs1] at z1
          have HV : Aside0 (okD p p.size = true) := ⟨by unfold okD; rw [hb, c2, c4, decide_eq_true hs1]; rfl⟩
          clear hm h h1 h15 T hs1
          go_enter Tryz.func127, Tryz.ntmps127
          go_wp2_with (go_at_call 92; refine HT.out.mono ?_; rintro e w' ⟨rfl, hw⟩)
          go_ret
          exact ⟨by rw [HV.out]; rfl, hw⟩
        · rw [hb, Bool.and_true, decide_eq_false hs1] at z1
          have HV : Aside0 (okD p p.size = false) := ⟨by unfold okD; rw [hb, c2, c4, decide_eq_false hs1]; rfl⟩
          clear hm h h1 h15 T hs1
          go_enter Tryz.func127, Tryz.ntmps127
          go_wp2_with (go_at_call 92; refine HT.out.mono ?_; rintro e w' ⟨rfl, hw⟩)
          go_ret
          exact ⟨by rw [HV.out]; rfl, Below.refl _ _⟩
    · have c3 : decide ((p.size : Int) ≤ 15) = false := decide_eq_false (by omega)
      have c4 : decide (p.size ≤ 15) = false := decide_eq_false h15
      have HV : Aside0 (okD p p.size = false) := ⟨by unfold okD; rw [c4]; simp⟩
      clear hm h h1 h15
      go_enter Tryz.func127, Tryz.ntmps127
      go_wp2
      go_ret
      exact ⟨by rw [HV.out]; rfl, Below.refl _ _⟩
  · have c1 : decide ((p.size : Int) ≥ 1) = false := decide_eq_false (by omega)
    have c2 : decide (1 ≤ p.size) = false := decide_eq_false h1
    have HV : Aside0 (okD p p.size = false) := ⟨by unfold okD; rw [c2]; rfl⟩
    clear hm h h1
    go_enter Tryz.func127, Tryz.ntmps127
    go_wp2
    go_ret
    exact ⟨by rw [HV.out]; rfl, Below.refl _ _⟩

/-! ### The program's number -/
theorem numN_le (s : ByteArray) : numN s ≤ s.size := by
  have := digLen_le s
  unfold numN
  split <;> omega
theorem okD_ext (s : ByteArray) (d : Nat) (h : d ≤ s.size) : okD (s.extract 0 d) d = okD s d := by
  unfold okD
  by_cases h1 : 1 ≤ d
  · rw [bt_ext _ _ _ _ (by omega)]
  · rw [decide_eq_false h1]; rfl

set_option maxHeartbeats 1000000 in
theorem number_any (s : ByteArray) (w : World) (hm : s.size ≤ 1000000) : Calls Tryz.prog 97 #[.string s] w fun e w' => e = .returned (.string (s.extract 0 (numN s))) ∧ Below w.heap.size w w' := by
  have HM := Aside0.mk hm
  clear hm
  go_enter Tryz.func97, Tryz.ntmps97
  go_wp2
  go_loopg [3] s.size (fun kq v3 w' => ∃ n : Nat, v3 = .int .i64 n ∧ Aside0 ((∀ i, i < n → digitI (bt s i) = true) ∧ kq + n = s.size) ∧ w' = w)
  case atStart => exact ⟨0, rfl, ⟨fun i hi => by omega, by omega⟩, rfl⟩
  case round =>
    obtain ⟨n, rfl, HI, rfl⟩ := hrel
    obtain ⟨hat, hkq⟩ := HI.out
    have hM := HM.out
    have p1 : (0 : Int) ≤ n := by omega
    have q0 : (n : Int) ≤ (s.size : Int) := by omega
    have hnl : n ≤ s.size := by omega
    have fin : ¬ (n < s.size ∧ digitI (bt s n) = true) → digLen s = n := fun h => (digLen_spec s).uniq ⟨fun i hi => by rw [Nat.zero_add]; exact hat i hi, by omega, by rw [Nat.zero_add]; exact h⟩
    have hsz : (s.extract 0 n).size = n := by rw [size_ext _ _ _ hnl]; omega
    have D := isDigits_any (s.extract 0 n) wr (by omega) (fun i hi => by rw [bt_ext _ _ _ _ (by omega), Nat.zero_add]; exact hat i (by omega))
    rw [hsz, okD_ext _ _ hnl] at D
    by_cases hd : n < s.size ∧ digitI (bt s n) = true
    · obtain ⟨hlt, hb⟩ := hd
      have c1 : decide ((n : Int) < (s.size : Int)) = true := decide_eq_true (by omega)
      have c2 : decide (n < s.size) = true := decide_eq_true hlt
      have q1 : (n : Int) < (s.size : Int) := by omega
      have b1 := bt_at s n hlt
      have wr1 : wrap64 ((n : Int) + 1) = ((n + 1 : Nat) : Int) := by unfold wrap64; omega
      have hb2 : bt s n ≥ 48 ∧ bt s n ≤ 57 := by simpa [digitI] using hb
      have d1 : decide (bt s n ≥ 48) = true := decide_eq_true hb2.1
      have d2 : decide (bt s n ≤ 57) = true := decide_eq_true hb2.2
      have HX : Aside0 ((∀ i, i < n + 1 → digitI (bt s i) = true) ∧ (gk - 1) + (n + 1) = s.size) := ⟨fun i hi => by
        by_cases e : i = n
        · rw [e]; exact hb
        · exact hat i (by omega), by omega⟩
      have HG : Aside0 (gk - 1 < gk) := ⟨by omega⟩
      clear hat hkq hM HI fin D hb hb2 hsz hnl
      go_wp2
      go_roundg (gk - 1)
      case measure => exact HG.out
      case rel => exact ⟨n + 1, by rw [wr1], HX, rfl⟩
    · have hf := fin hd
      by_cases hlt : n < s.size
      · have c1 : decide ((n : Int) < (s.size : Int)) = true := decide_eq_true (by omega)
        have c2 : decide (n < s.size) = true := decide_eq_true hlt
        have q1 : (n : Int) < (s.size : Int) := by omega
        have b1 := bt_at s n hlt
        by_cases hb : bt s n ≥ 48
        · have d1 : decide (bt s n ≥ 48) = true := decide_eq_true hb
          have d2 : decide (bt s n ≤ 57) = false := decide_eq_false fun h => hd ⟨hlt, by unfold digitI; rw [d1, decide_eq_true h]; rfl⟩
          cases hok : okD s n with
          | true =>
            have HV : Aside0 (numN s = n) := ⟨by unfold numN; rw [hf, if_pos hok]⟩
            rw [hok] at D
            have HD := Aside0.mk D
            clear hat hkq hM HI fin D hsz hnl hf hd
            go_wp2_with (go_at_call 127; refine HD.out.mono ?_; rintro e w' ⟨rfl, hw⟩)
            go_ret
            exact ⟨by rw [HV.out]; rfl, hw⟩
          | false =>
            have HV : Aside0 (numN s = 0) := ⟨by unfold numN; rw [hf, if_neg (by rw [hok]; decide)]⟩
            rw [hok] at D
            have HD := Aside0.mk D
            clear hat hkq hM HI fin D hsz hnl hf hd
            go_wp2_with (go_at_call 127; refine HD.out.mono ?_; rintro e w' ⟨rfl, hw⟩)
            go_ret
            exact ⟨by rw [HV.out, ext_nil _ _ _ (Nat.le_refl _)]; rfl, hw⟩
        · have d1 : decide (bt s n ≥ 48) = false := decide_eq_false hb
          cases hok : okD s n with
          | true =>
            have HV : Aside0 (numN s = n) := ⟨by unfold numN; rw [hf, if_pos hok]⟩
            rw [hok] at D
            have HD := Aside0.mk D
            clear hat hkq hM HI fin D hsz hnl hf hd
            go_wp2_with (go_at_call 127; refine HD.out.mono ?_; rintro e w' ⟨rfl, hw⟩)
            go_ret
            exact ⟨by rw [HV.out]; rfl, hw⟩
          | false =>
            have HV : Aside0 (numN s = 0) := ⟨by unfold numN; rw [hf, if_neg (by rw [hok]; decide)]⟩
            rw [hok] at D
            have HD := Aside0.mk D
            clear hat hkq hM HI fin D hsz hnl hf hd
            go_wp2_with (go_at_call 127; refine HD.out.mono ?_; rintro e w' ⟨rfl, hw⟩)
            go_ret
            exact ⟨by rw [HV.out, ext_nil _ _ _ (Nat.le_refl _)]; rfl, hw⟩
      · have c1 : decide ((n : Int) < (s.size : Int)) = false := decide_eq_false (by omega)
        have c2 : decide (n < s.size) = false := decide_eq_false hlt
        cases hok : okD s n with
        | true =>
          have HV : Aside0 (numN s = n) := ⟨by unfold numN; rw [hf, if_pos hok]⟩
          rw [hok] at D
          have HD := Aside0.mk D
          clear hat hkq hM HI fin D hsz hnl hf hd
          go_wp2_with (go_at_call 127; refine HD.out.mono ?_; rintro e w' ⟨rfl, hw⟩)
          go_ret
          exact ⟨by rw [HV.out]; rfl, hw⟩
        | false =>
          have HV : Aside0 (numN s = 0) := ⟨by unfold numN; rw [hf, if_neg (by rw [hok]; decide)]⟩
          rw [hok] at D
          have HD := Aside0.mk D
          clear hat hkq hM HI fin D hsz hnl hf hd
          go_wp2_with (go_at_call 127; refine HD.out.mono ?_; rintro e w' ⟨rfl, hw⟩)
          go_ret
          exact ⟨by rw [HV.out, ext_nil _ _ _ (Nat.le_refl _)]; rfl, hw⟩
end Go.Proofs.YtmifmmpbmcfmpaaGreatDoor.IW
