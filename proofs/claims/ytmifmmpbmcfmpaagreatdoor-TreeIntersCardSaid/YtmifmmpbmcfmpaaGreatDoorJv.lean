/-
  A character told in hexadecimal digits: the program's function.
-/
import Derived.Test.YtmifmmpbmcfmpaaGreatDoorJu
set_option linter.unusedVariables false
set_option linter.unusedSimpArgs false
namespace Go.Proofs.YtmifmmpbmcfmpaaGreatDoor.IW
open Go Go.RowKit
set_option maxRecDepth 100000

/-! ### The plain laws -/
theorem pow16_le {a b : Nat} (h : a ≤ b) : (16 : Int) ^ a ≤ 16 ^ b := by
  have h1 : (16 : Nat) ^ a ≤ 16 ^ b := Nat.pow_le_pow_right (by decide) h
  have h2 : ((16 ^ a : Nat) : Int) ≤ ((16 ^ b : Nat) : Int) := Int.ofNat_le.2 h1
  simpa using h2
theorem pu_fwd (s : ByteArray) (o : Nat) (ho : 2 + o ≤ s.size) (h6 : o ≤ 6) (hall : ∀ j, j < o → 0 ≤ hexI (bt s (2 + j))) : ∀ (f i : Nat), i + f = o → pu (s.extract 2 (2 + o)) f i (hexV s i) = (hexV s o, .nilIface)
  | 0, i, h => by rw [show i = o by omega]; rfl
  | f + 1, i, h => by
    have hsz : (s.extract 2 (2 + o)).size = o := by rw [size_ext _ _ _ ho]; omega
    have hb : bt (s.extract 2 (2 + o)) i = bt s (2 + i) := bt_ext _ _ _ _ (by omega)
    have h0 := hall i (by omega)
    have hv := hexV_lt s (i + 1) (fun j hj => hall j (by omega))
    have hp : (16 : Int) ^ (i + 1) ≤ 16777216 := pow16 (by omega)
    unfold pu
    rw [hsz, if_pos (by omega), hb, if_neg (by omega)]
    have he : hexV s i * 16 + hexI (bt s (2 + i)) = hexV s (i + 1) := rfl
    rw [he, if_neg (by omega)]
    exact pu_fwd s o ho h6 hall f (i + 1) (by omega)
theorem pu_bwd (s : ByteArray) (o : Nat) (ho : 2 + o ≤ s.size) : ∀ (f i : Nat), i + f = o → (pu (s.extract 2 (2 + o)) f i (hexV s i)).2 = .nilIface →
    (∀ j, i ≤ j → j < o → 0 ≤ hexI (bt s (2 + j))) ∧ (pu (s.extract 2 (2 + o)) f i (hexV s i)).1 = hexV s o
  | 0, i, h, _ => ⟨fun j h1 h2 => by omega, by rw [show i = o by omega]; rfl⟩
  | f + 1, i, h, hn => by
    have hsz : (s.extract 2 (2 + o)).size = o := by rw [size_ext _ _ _ ho]; omega
    have hb : bt (s.extract 2 (2 + o)) i = bt s (2 + i) := bt_ext _ _ _ _ (by omega)
    have he : hexV s i * 16 + hexI (bt s (2 + i)) = hexV s (i + 1) := rfl
    unfold pu at hn ⊢
    rw [hsz, if_pos (by omega), hb] at hn ⊢
    by_cases h0 : hexI (bt s (2 + i)) < 0
    · rw [if_pos h0] at hn; cases hn
    · rw [if_neg h0] at hn ⊢
      rw [he] at hn ⊢
      by_cases h1 : 4294967295 < hexV s (i + 1)
      · rw [if_pos h1] at hn; cases hn
      · rw [if_neg h1] at hn ⊢
        obtain ⟨k1, k2⟩ := pu_bwd s o ho f (i + 1) (by omega) hn
        refine ⟨fun j h3 h4 => ?_, k2⟩
        by_cases e : j = i
        · rw [e]; omega
        · exact k1 j (by omega) h4
/-- What the program's function asks, told of the bytes. -/
theorem hex_no_head {s : ByteArray} (h : Lib.hasPrefix s.data.toList [120, 123] = false) : ¬ HexOk s := by
  intro hk
  rw [hasPrefix_two, hk.1, hk.2.1, decide_eq_true (bt_pos hk.2.1 (by decide))] at h
  exact absurd h (by decide)
/-- If it is a character, the first brace stands behind the digits. -/
theorem hex_brace {s : ByteArray} (hk : HexOk s) {o : Nat} (h : Lib.indexByte (s.extract 2 s.size).data.toList 125 = (o : Int)) : hexLen s = o ∧ 2 + o < s.size ∧ ∀ j, j < o → 0 ≤ hexI (bt s (2 + j)) := by
  obtain ⟨h1, h2, h3⟩ := idx_some h
  have hs := hexLen_spec s
  have hb := hk.2.2.2.1
  have hlt := bt_pos hb (by decide)
  have hsz : (s.extract 2 s.size).size = s.size - 2 := size_ext _ _ _ (Nat.le_refl _)
  rw [hsz] at h1
  rw [bt_ext _ _ _ _ (by omega)] at h2
  have ho : hexLen s = o := by
    rcases Nat.lt_trichotomy (hexLen s) o with hl | hl | hl
    · have := h3 _ hl
      rw [bt_ext _ _ _ _ (by omega)] at this
      exact absurd hb this
    · exact hl
    · have := (hs.all o hl).2
      rw [h2] at this
      exact absurd this (by decide)
  exact ⟨ho, by omega, fun j hj => (hs.all j (by omega)).2⟩
theorem hex_no_brace {s : ByteArray} (h : Lib.indexByte (s.extract 2 s.size).data.toList 125 = -1) : ¬ HexOk s := by
  intro hk
  have hb := hk.2.2.2.1
  have hlt := bt_pos hb (by decide)
  have := idx_none h (hexLen s)
  rw [bt_ext _ _ _ _ (by omega)] at this
  exact this hb
theorem hex_digits {s : ByteArray} (hk : HexOk s) {o : Nat} (h : Lib.indexByte (s.extract 2 s.size).data.toList 125 = (o : Int)) : puOf (s.extract 2 (2 + o)) = (hexV s o, .nilIface) ∧ o ≤ 6 ∧ isCh (hexV s o) = true := by
  obtain ⟨h1, h2, h3⟩ := hex_brace hk h
  have h6 := (hexLen_spec s).le
  have h1p := hk.2.2.1
  rw [h1] at h6 h1p
  have hsz : (s.extract 2 (2 + o)).size = o := by rw [size_ext _ _ _ (by omega)]; omega
  refine ⟨?_, h6, by have := hk.2.2.2.2; rw [h1] at this; exact this⟩
  unfold puOf
  rw [hsz, if_neg (by omega)]
  exact pu_fwd s o (by omega) h6 h3 o 0 (by omega)
theorem hex_yes {s : ByteArray} (hp : Lib.hasPrefix s.data.toList [120, 123] = true) {o : Nat} (h : Lib.indexByte (s.extract 2 s.size).data.toList 125 = (o : Int)) (hn : (puOf (s.extract 2 (2 + o))).2 = .nilIface) (h6 : o ≤ 6) :
    hexLen s = o ∧ 1 ≤ o ∧ bt s (2 + o) = 125 ∧ (puOf (s.extract 2 (2 + o))).1 = hexV s o ∧ (∀ j, j < o → 0 ≤ hexI (bt s (2 + j))) ∧ bt s 0 = 120 ∧ bt s 1 = 123 := by
  obtain ⟨h1, h2, h3⟩ := idx_some h
  have hsz0 : (s.extract 2 s.size).size = s.size - 2 := size_ext _ _ _ (Nat.le_refl _)
  rw [hsz0] at h1
  rw [bt_ext _ _ _ _ (by omega)] at h2
  have hsz : (s.extract 2 (2 + o)).size = o := by rw [size_ext _ _ _ (by omega)]; omega
  unfold puOf at hn
  rw [hsz] at hn
  have ho : o ≠ 0 := by intro e; rw [if_pos e] at hn; cases hn
  rw [if_neg ho] at hn
  obtain ⟨k1, k2⟩ := pu_bwd s o (by omega) o 0 (by omega) hn
  have hlen : hexLen s = o := (hexLen_spec s).uniq ⟨fun i hi => ⟨by omega, k1 i (by omega) hi⟩, .inr (fun h => by rw [h2] at h; exact absurd h.2 (by decide)), h6⟩
  rw [hasPrefix_two] at hp
  simp only [Bool.and_eq_true, decide_eq_true_eq, beq_iff_eq] at hp
  refine ⟨hlen, by omega, h2, ?_, fun j hj => k1 j (by omega) hj, hp.1.2, hp.2⟩
  unfold puOf
  rw [hsz, if_neg ho]
  exact k2
theorem trim_two (s : ByteArray) (h : Lib.hasPrefix s.data.toList [120, 123] = true) : (⟨(Lib.trimPrefix s.data.toList [120, 123]).toArray⟩ : ByteArray) = s.extract 2 s.size := by
  unfold Lib.trimPrefix
  rw [h, if_pos rfl]
  apply ByteArray.ext
  apply Array.ext'
  rw [data_ext]
  simp only [List.length_cons, List.length_nil]
  exact (List.take_of_length_le (by rw [List.length_drop]; simp)).symm
theorem trim_not (s : ByteArray) (h : Lib.hasPrefix s.data.toList [120, 123] = false) : (⟨(Lib.trimPrefix s.data.toList [120, 123]).toArray⟩ : ByteArray) = s := by
  unfold Lib.trimPrefix
  rw [h, if_neg (by decide)]
def hexSet : ByteArray := ⟨#[48, 49, 50, 51, 52, 53, 54, 55, 56, 57, 97, 98, 99, 100, 101, 102, 65, 66, 67, 68, 69, 70]⟩
theorem hex_bytes : (List.range 256).all (fun n => !(decide (0 ≤ hexI (n : Int))) || hexSet.data.toList.contains n.toUInt8) = true := by decide +kernel
theorem hex_mem {p : ByteArray} (h : ∀ i, i < p.size → 0 ≤ hexI (bt p i)) : ∀ x ∈ p.data.toList, hexSet.data.toList.contains x = true := by
  intro x hx
  obtain ⟨i, hi⟩ := List.getElem?_of_mem hx
  have hil : i < p.size := by have := (List.getElem?_eq_some_iff.1 hi).1; simpa using this
  have h2 := h i hil
  rw [bt_list, hi] at h2
  simp only [Option.map_some, Option.getD_some] at h2
  have h3 := List.all_eq_true.1 hex_bytes x.toNat (List.mem_range.2 x.toNat_lt)
  rw [decide_eq_true h2] at h3
  simpa using h3

theorem hex_below {w w3 w4 : World} {m : Nat} (h : w3 = w.drewN m) (hB : Below w3.heap.size w3 w4) : Below w.heap.size w w4 := by
  subst h
  exact (⟨rfl, rfl, rfl, Nat.le_refl _, fun _ _ => rfl⟩ : Below w.heap.size w (w.drewN m)).trans hB
set_option maxHeartbeats 1000000 in
theorem hex_any (s : ByteArray) (w : World) (hm : s.size ≤ 1000000) (hv : EV w) : Calls Tryz.prog 55 #[.string s] w fun e w' => e = .returned (.tuple #[.int .i32 (hexC s), .int .i64 (hexK s : Nat)]) ∧ Below w.heap.size w w' := by
  have HM := Aside0.mk hm
  have HV := Aside0.mk hv
  clear hv
  cases hp : Lib.hasPrefix s.data.toList [120, 123] with
  | false =>
    have HP := Aside0.mk hp
    have HT := Aside0.mk (trim_not s hp)
    have HX := Aside0.mk (hexNo (hex_no_head hp))
    clear hm hp
    go_enter Tryz.func55, Tryz.ntmps55
    go_wp2_with first | (go_at_call 89; refine (SH.strings_CutPrefix _ _ _).mono ?_; rintro e w2 ⟨rfl, hw⟩; rw [hw]; rw [show (⟨(Lib.trimPrefix s.data.toList (⟨#[120, 123]⟩ : ByteArray).data.toList).toArray⟩ : ByteArray) = _ from HT.out, show Lib.hasPrefix s.data.toList (⟨#[120, 123]⟩ : ByteArray).data.toList = _ from HP.out]) | (go_at_call 90; refine (cut_some _ _ HM.out).mono ?_; rintro e w3 ⟨d, a, f, rfl, hd, m, hw3⟩; have HD := Aside0.mk hd; have HV3 := Aside0.mk (HV.out.drewN m); rw [← hw3] at HV3; have HW3 := Aside0.mk hw3; clear hd hw3) | (go_at_call 91; refine (pu_some _ _ HD.out HV3.out).mono ?_; rintro e w4 ⟨z, er, rfl, hB4⟩; have HB4 := Aside0.mk hB4; clear hB4)
    go_ret2
    exact ⟨by rw [HX.out.1, HX.out.2]; rfl, hex_below HW3.out HB4.out⟩
  | true =>
    have HP := Aside0.mk hp
    have HT := Aside0.mk (trim_two s hp)
    have hrz : (s.extract 2 s.size).size = s.size - 2 := size_ext _ _ _ (Nat.le_refl _)
    have HR : Aside0 ((s.extract 2 s.size).size ≤ 1000000) := ⟨by omega⟩
    obtain ⟨r, hr⟩ : ∃ r, r = s.extract 2 s.size := ⟨_, rfl⟩
    rw [← hr] at HT HR hrz
    rcases idx_cases r with hi | ⟨o, hi⟩
    · have HI := Aside0.mk hi
      have HX := Aside0.mk (hexNo (s := s) (hex_no_brace (by rw [← hr]; exact hi)))
      clear hm hp hi hrz hr
      go_enter Tryz.func55, Tryz.ntmps55
      go_wp2_with first | (go_at_call 89; refine (SH.strings_CutPrefix _ _ _).mono ?_; rintro e w2 ⟨rfl, hw⟩; rw [hw]; rw [show (⟨(Lib.trimPrefix s.data.toList (⟨#[120, 123]⟩ : ByteArray).data.toList).toArray⟩ : ByteArray) = _ from HT.out, show Lib.hasPrefix s.data.toList (⟨#[120, 123]⟩ : ByteArray).data.toList = _ from HP.out]) | (go_at_call 90; refine (cut_no _ _ HI.out).mono ?_; rintro e w3 ⟨rfl, m, hw3⟩; have HV3 := Aside0.mk (HV.out.drewN m); rw [← hw3] at HV3; have HW3 := Aside0.mk hw3; clear hw3) | (go_at_call 91; refine (pu_some _ _ HR.out HV3.out).mono ?_; rintro e w4 ⟨z, er, rfl, hB4⟩; have HB4 := Aside0.mk hB4; clear hB4)
      go_ret2
      exact ⟨by rw [HX.out.1, HX.out.2]; rfl, hex_below HW3.out HB4.out⟩
    · have HI := Aside0.mk hi
      have hir : Lib.indexByte (s.extract 2 s.size).data.toList 125 = (o : Int) := by rw [← hr]; exact hi
      have hol := (idx_some hi).1
      rw [hrz] at hol
      obtain ⟨d, hd⟩ : ∃ d, d = s.extract 2 (2 + o) := ⟨_, rfl⟩
      have hrd : r.extract 0 o = d := by rw [hr, ext_ext _ _ _ _ _ (by omega), hd]
      have hdz : d.size = o := by rw [hd, size_ext _ _ _ (by omega)]; omega
      have HD : Aside0 (d.size ≤ 1000000) := ⟨by omega⟩
      have HRD := Aside0.mk hrd
      by_cases hn : (puOf d).2 = .nilIface
      · by_cases h6 : o ≤ 6
        · have HN := Aside0.mk hn
          obtain ⟨l1, l2, l3, l4, l5, l6, l7⟩ := hex_yes hp hir (by rw [← hd]; exact hn) h6
          rw [← hd] at l4
          have hall : ∀ i, i < d.size → 0 ≤ hexI (bt d i) := fun i hi2 => by
            rw [hdz] at hi2
            rw [hd, bt_ext _ _ _ _ (by omega)]; exact l5 i hi2
          have HTR := Aside0.mk (fun w2 => trim_any d hexSet w2 (by decide) (by omega) (by omega) (by decide) (ascii_all (by decide)) (hex_mem hall))
          have hvl := hexV_lt s o l5
          have h16 : (16 : Int) ^ o ≤ 16777216 := pow16 h6
          obtain ⟨v, hvv⟩ : ∃ v, hexV s o = v := ⟨_, rfl⟩
          rw [hvv] at hvl l4
          have v0 := hvl.1
          have v24 : v ≤ 16777216 := by omega
          have HZ := Aside0.mk l4
          have e6 : decide ((o : Int) > 6) = false := decide_eq_false (by omega)
          have e6b : decide (6 < o) = false := decide_eq_false (by omega)
          have b3 : o + 3 ≤ 2000000 := by omega
          cases hch : isCh v with
          | true =>
            have hok : HexOk s := ⟨l6, l7, by omega, by rw [l1]; exact l3, by rw [l1, hvv]; exact hch⟩
            have HX : Aside0 (hexC s = v ∧ hexK s = o + 3) := ⟨by unfold hexC; rw [if_pos hok, l1, hvv], by unfold hexK; rw [if_pos hok, l1]⟩
            have hc2 : 0 ≤ v ∧ v ≤ 1114111 ∧ ¬ (55296 ≤ v ∧ v ≤ 57343) := of_decide_eq_true hch
            have f1 : decide (v > 1114111) = false := decide_eq_false (by omega)
            have f1b : v ≤ 1114111 := hc2.2.1
            have wd3 := wrA (K := 3) o 3 rfl b3
            by_cases hs : v ≥ 55296
            · have f2 : decide (v ≥ 55296) = true := decide_eq_true hs
              have f3 : decide (v ≤ 57343) = false := decide_eq_false (fun h => hc2.2.2 ⟨hs, h⟩)
              clear hm hp hi hir hol hrz hr hd hrd hn h6 l1 l2 l3 l4 l5 l6 l7 hall hvl h16 hvv hch hok hc2 hs b3
              go_enter Tryz.func55, Tryz.ntmps55
              go_wp2_with first | (go_at_call 89; refine (SH.strings_CutPrefix _ _ _).mono ?_; rintro e w2 ⟨rfl, hw⟩; rw [hw]; rw [show (⟨(Lib.trimPrefix s.data.toList (⟨#[120, 123]⟩ : ByteArray).data.toList).toArray⟩ : ByteArray) = _ from HT.out, show Lib.hasPrefix s.data.toList (⟨#[120, 123]⟩ : ByteArray).data.toList = _ from HP.out]) | (go_at_call 90; refine (cut_yes _ _ o HR.out HI.out).mono ?_; rintro e w3 ⟨rfl, m, hw3⟩; rw [HRD.out]; have HV3 := Aside0.mk (HV.out.drewN m); rw [← hw3] at HV3; have HW3 := Aside0.mk hw3; clear hw3) | (go_at_call 91; refine (pu_ok _ _ HD.out HN.out).mono ?_; rintro e w4 ⟨rfl, hB4⟩; rw [HZ.out]; have HB4 := Aside0.mk hB4; clear hB4) | (go_at_call 92; refine (HTR.out _).mono ?_; rintro e w5 ⟨rfl, hB5⟩; have HB5 := Aside0.mk hB5; clear hB5)
              go_ret2
              exact ⟨by rw [HX.out.1, HX.out.2]; first | rfl | (rw [← wd3]; rfl), (hex_below HW3.out HB4.out).trans (HB5.out.mono (hex_below HW3.out HB4.out).size)⟩
            · have f2 : decide (v ≥ 55296) = false := decide_eq_false hs
              clear hm hp hi hir hol hrz hr hd hrd hn h6 l1 l2 l3 l4 l5 l6 l7 hall hvl h16 hvv hch hok hc2 hs b3
              go_enter Tryz.func55, Tryz.ntmps55
              go_wp2_with first | (go_at_call 89; refine (SH.strings_CutPrefix _ _ _).mono ?_; rintro e w2 ⟨rfl, hw⟩; rw [hw]; rw [show (⟨(Lib.trimPrefix s.data.toList (⟨#[120, 123]⟩ : ByteArray).data.toList).toArray⟩ : ByteArray) = _ from HT.out, show Lib.hasPrefix s.data.toList (⟨#[120, 123]⟩ : ByteArray).data.toList = _ from HP.out]) | (go_at_call 90; refine (cut_yes _ _ o HR.out HI.out).mono ?_; rintro e w3 ⟨rfl, m, hw3⟩; rw [HRD.out]; have HV3 := Aside0.mk (HV.out.drewN m); rw [← hw3] at HV3; have HW3 := Aside0.mk hw3; clear hw3) | (go_at_call 91; refine (pu_ok _ _ HD.out HN.out).mono ?_; rintro e w4 ⟨rfl, hB4⟩; rw [HZ.out]; have HB4 := Aside0.mk hB4; clear hB4) | (go_at_call 92; refine (HTR.out _).mono ?_; rintro e w5 ⟨rfl, hB5⟩; have HB5 := Aside0.mk hB5; clear hB5)
              go_ret2
              exact ⟨by rw [HX.out.1, HX.out.2]; first | rfl | (rw [← wd3]; rfl), (hex_below HW3.out HB4.out).trans (HB5.out.mono (hex_below HW3.out HB4.out).size)⟩
          | false =>
            have HX := Aside0.mk (hexNo (s := s) (fun h => by have := h.2.2.2.2; rw [l1, hvv, hch] at this; cases this))
            have hc2 : ¬ (0 ≤ v ∧ v ≤ 1114111 ∧ ¬ (55296 ≤ v ∧ v ≤ 57343)) := of_decide_eq_false hch
            by_cases hg : v > 1114111
            · have f1 : decide (v > 1114111) = true := decide_eq_true hg
              clear hm hp hi hir hol hrz hr hd hrd hn h6 l1 l2 l3 l4 l5 l6 l7 hall hvl h16 hvv hch hc2 hg b3
              go_enter Tryz.func55, Tryz.ntmps55
              go_wp2_with first | (go_at_call 89; refine (SH.strings_CutPrefix _ _ _).mono ?_; rintro e w2 ⟨rfl, hw⟩; rw [hw]; rw [show (⟨(Lib.trimPrefix s.data.toList (⟨#[120, 123]⟩ : ByteArray).data.toList).toArray⟩ : ByteArray) = _ from HT.out, show Lib.hasPrefix s.data.toList (⟨#[120, 123]⟩ : ByteArray).data.toList = _ from HP.out]) | (go_at_call 90; refine (cut_yes _ _ o HR.out HI.out).mono ?_; rintro e w3 ⟨rfl, m, hw3⟩; rw [HRD.out]; have HV3 := Aside0.mk (HV.out.drewN m); rw [← hw3] at HV3; have HW3 := Aside0.mk hw3; clear hw3) | (go_at_call 91; refine (pu_ok _ _ HD.out HN.out).mono ?_; rintro e w4 ⟨rfl, hB4⟩; rw [HZ.out]; have HB4 := Aside0.mk hB4; clear hB4) | (go_at_call 92; refine (HTR.out _).mono ?_; rintro e w5 ⟨rfl, hB5⟩; have HB5 := Aside0.mk hB5; clear hB5)
              go_ret2
              exact ⟨by rw [HX.out.1, HX.out.2]; rfl, (hex_below HW3.out HB4.out).trans (HB5.out.mono (hex_below HW3.out HB4.out).size)⟩
            · have f1 : decide (v > 1114111) = false := decide_eq_false hg
              have f2 : decide (v ≥ 55296) = true := decide_eq_true (by omega)
              have f3 : decide (v ≤ 57343) = true := decide_eq_true (by omega)
              clear hm hp hi hir hol hrz hr hd hrd hn h6 l1 l2 l3 l4 l5 l6 l7 hall hvl h16 hvv hch hc2 hg b3
              go_enter Tryz.func55, Tryz.ntmps55
              go_wp2_with first | (go_at_call 89; refine (SH.strings_CutPrefix _ _ _).mono ?_; rintro e w2 ⟨rfl, hw⟩; rw [hw]; rw [show (⟨(Lib.trimPrefix s.data.toList (⟨#[120, 123]⟩ : ByteArray).data.toList).toArray⟩ : ByteArray) = _ from HT.out, show Lib.hasPrefix s.data.toList (⟨#[120, 123]⟩ : ByteArray).data.toList = _ from HP.out]) | (go_at_call 90; refine (cut_yes _ _ o HR.out HI.out).mono ?_; rintro e w3 ⟨rfl, m, hw3⟩; rw [HRD.out]; have HV3 := Aside0.mk (HV.out.drewN m); rw [← hw3] at HV3; have HW3 := Aside0.mk hw3; clear hw3) | (go_at_call 91; refine (pu_ok _ _ HD.out HN.out).mono ?_; rintro e w4 ⟨rfl, hB4⟩; rw [HZ.out]; have HB4 := Aside0.mk hB4; clear hB4) | (go_at_call 92; refine (HTR.out _).mono ?_; rintro e w5 ⟨rfl, hB5⟩; have HB5 := Aside0.mk hB5; clear hB5)
              go_ret2
              exact ⟨by rw [HX.out.1, HX.out.2]; rfl, (hex_below HW3.out HB4.out).trans (HB5.out.mono (hex_below HW3.out HB4.out).size)⟩
        · have HN := Aside0.mk hn
          have HX := Aside0.mk (hexNo (s := s) (fun h => h6 (hex_digits h hir).2.1))
          obtain ⟨v, hvv⟩ : ∃ v, (puOf d).1 = v := ⟨_, rfl⟩
          have HZ := Aside0.mk hvv
          have e6 : decide ((o : Int) > 6) = true := decide_eq_true (by omega)
          have e6b : decide (6 < o) = true := decide_eq_true (by omega)
          clear hm hp hi hir hol hrz hr hd hrd hn h6 hvv
          go_enter Tryz.func55, Tryz.ntmps55
          go_wp2_with first | (go_at_call 89; refine (SH.strings_CutPrefix _ _ _).mono ?_; rintro e w2 ⟨rfl, hw⟩; rw [hw]; rw [show (⟨(Lib.trimPrefix s.data.toList (⟨#[120, 123]⟩ : ByteArray).data.toList).toArray⟩ : ByteArray) = _ from HT.out, show Lib.hasPrefix s.data.toList (⟨#[120, 123]⟩ : ByteArray).data.toList = _ from HP.out]) | (go_at_call 90; refine (cut_yes _ _ o HR.out HI.out).mono ?_; rintro e w3 ⟨rfl, m, hw3⟩; rw [HRD.out]; have HV3 := Aside0.mk (HV.out.drewN m); rw [← hw3] at HV3; have HW3 := Aside0.mk hw3; clear hw3) | (go_at_call 91; refine (pu_ok _ _ HD.out HN.out).mono ?_; rintro e w4 ⟨rfl, hB4⟩; rw [HZ.out]; have HB4 := Aside0.mk hB4; clear hB4)
          go_ret2
          exact ⟨by rw [HX.out.1, HX.out.2]; rfl, hex_below HW3.out HB4.out⟩
      · have HN : Aside0 ((puOf d).2 = synt ∨ (puOf d).2 = rngE) := ⟨(puOf_snd d).resolve_left hn⟩
        have HX := Aside0.mk (hexNo (s := s) (fun h => hn (by rw [hd, (hex_digits h hir).1])))
        clear hm hp hi hir hol hrz hr hd hrd hn
        go_enter Tryz.func55, Tryz.ntmps55
        go_wp2_with first | (go_at_call 89; refine (SH.strings_CutPrefix _ _ _).mono ?_; rintro e w2 ⟨rfl, hw⟩; rw [hw]; rw [show (⟨(Lib.trimPrefix s.data.toList (⟨#[120, 123]⟩ : ByteArray).data.toList).toArray⟩ : ByteArray) = _ from HT.out, show Lib.hasPrefix s.data.toList (⟨#[120, 123]⟩ : ByteArray).data.toList = _ from HP.out]) | (go_at_call 90; refine (cut_yes _ _ o HR.out HI.out).mono ?_; rintro e w3 ⟨rfl, m, hw3⟩; rw [HRD.out]; have HV3 := Aside0.mk (HV.out.drewN m); rw [← hw3] at HV3; have HW3 := Aside0.mk hw3; clear hw3) | (go_at_call 91; refine (pu_err _ _ HD.out HV3.out HN.out).mono ?_; rintro e w4 ⟨z, N, rfl, hB4⟩; have HB4 := Aside0.mk hB4; clear hB4)
        go_ret2
        exact ⟨by rw [HX.out.1, HX.out.2]; rfl, hex_below HW3.out HB4.out⟩
end Go.Proofs.YtmifmmpbmcfmpaaGreatDoor.IW
