/-
  The library's number of hexadecimal digits, of 32 bits.
-/
import Derived.Test.YtmifmmpbmcfmpaaGreatDoorJs
import Derived.Lib.ParseIntBMem
import Derived.Lib.Hide
import Derived.Laws.Strings3
import Derived.Laws.Closers25
import Derived.Laws.Closers25b
import Derived.BigCall
import Derived.BigGuard
set_option linter.unusedVariables false
set_option linter.unusedSimpArgs false
namespace Go.Proofs.YtmifmmpbmcfmpaaGreatDoor.IW
open Go Go.RowKit
set_option maxRecDepth 100000

def synt : Value := .iface 165 (.int .i64 2)
def rngE : Value := .iface 165 (.int .i64 1)
/-- What the library's loop makes of the bytes from place i on. -/
def pu (p : ByteArray) : Nat → Nat → Int → Int × Value
  | 0, _, a => (a, .nilIface)
  | f + 1, i, a => if i < p.size then
      if hexI (bt p i) < 0 then (0, synt)
      else if 4294967295 < a * 16 + hexI (bt p i) then (4294967295, rngE)
      else pu p f (i + 1) (a * 16 + hexI (bt p i))
    else (a, .nilIface)
def puOf (p : ByteArray) : Int × Value := if p.size = 0 then (0, synt) else pu p p.size 0 0

def lowB (n : Nat) : Bool :=
  (!(decide (97 ≤ n) && decide (n ≤ 102)) || decide (bits .or .u8 (n : Int) 32 = (n : Int))) &&
  (!(decide (65 ≤ n) && decide (n ≤ 70)) || decide (bits .or .u8 (n : Int) 32 = (n : Int) + 32)) &&
  ((decide (48 ≤ n) && decide (n ≤ 57)) || (decide (97 ≤ n) && decide (n ≤ 102)) || (decide (65 ≤ n) && decide (n ≤ 70)) || decide (bits .or .u8 (n : Int) 32 < 97) || decide (122 < bits .or .u8 (n : Int) 32) || decide (103 ≤ bits .or .u8 (n : Int) 32))
theorem low_all : (List.range 256).all lowB = true := by decide +kernel
theorem low_hex (c : Int) (h0 : 0 ≤ c) (h255 : c ≤ 255) : (97 ≤ c ∧ c ≤ 102 → bits .or .u8 c 32 = c) ∧ (65 ≤ c ∧ c ≤ 70 → bits .or .u8 c 32 = c + 32) ∧
    (¬ (48 ≤ c ∧ c ≤ 57) → ¬ (97 ≤ c ∧ c ≤ 102) → ¬ (65 ≤ c ∧ c ≤ 70) → 97 ≤ bits .or .u8 c 32 → bits .or .u8 c 32 ≤ 122 → 103 ≤ bits .or .u8 c 32) := by
  obtain ⟨n, rfl⟩ : ∃ n : Nat, c = (n : Int) := ⟨c.toNat, by omega⟩
  have h := List.all_eq_true.1 low_all n (List.mem_range.2 (by omega))
  unfold lowB at h
  generalize bits .or .u8 (n : Int) 32 = l at h ⊢
  simp only [Bool.and_eq_true, Bool.or_eq_true, Bool.not_eq_true', Bool.and_eq_false_iff, decide_eq_true_eq, decide_eq_false_iff_not] at h
  omega

set_option maxHeartbeats 4000000 in
theorem parse16_any (p : ByteArray) (w : World) (hne : p.size ≠ 0) (hm : p.size ≤ 1000000) : Calls Tryz.prog 115 #[.string p, .int .i64 16, .int .i64 32] w fun e w' => e = .returned (.tuple #[.int .u64 (puOf p).1, (puOf p).2]) ∧ Below w.heap.size w w' := by
  have hemp : p.toList.isEmpty = false := isEmpty_no hne
  have hcv := Lib.run_convert_string_bytes (P := Tryz.prog) w 9 46 5 p (u := .string) Tryz.underlying9 Tryz.underlying46 Tryz.underlying5
  have hB : ∀ j, j < p.size → (Lib.bytesWorld w 5 p).cell? ⟨w.heap.size, j, none⟩ = some (.int .u8 (bt p j)) := fun j hj => by
    rw [Lib.bytesWorld_cell w 5 p j hj, bt_list]
    congr 2
    rw [List.getD_eq_getElem?_getD]
    have hl : j < p.data.toList.length := by simpa using hj
    rw [List.getElem?_eq_getElem hl]; rfl
  have HBL := Aside0.mk (Lib.bytesWorld_below w 5 p)
  obtain ⟨W1, hW1⟩ : ∃ W1, W1 = Lib.bytesWorld w 5 p := ⟨_, rfl⟩
  rw [← hW1] at hcv hB HBL
  clear hW1
  have HP : Aside0 (puOf p = pu p p.size 0 0) := ⟨by unfold puOf; rw [if_neg hne]⟩
  have hmv : IntKind.u64.wrap (IntKind.u64.wrap 4294967296 - 1) = 4294967295 := by
    rw [IntKind.wrap_u64, IntKind.wrap_u64]
    decide
  go_enter Tryz.func115, Tryz.ntmps115
  go_wp2
  go_loopg [12, 13, 101] p.size (fun kq v12 v13 v101 w' => ∃ (k : Nat) (a : Int), v12 = .bool false ∧ v13 = .int .u64 a ∧ v101 = .int .i64 k ∧ Aside0 (kq + k = p.size ∧ 0 ≤ a ∧ a ≤ 4294967295 ∧ puOf p = pu p kq k a) ∧ w' = W1)
  case atStart => exact ⟨0, 0, rfl, rfl, rfl, ⟨by omega, by omega, by omega, HP.out⟩, rfl⟩
  case round =>
    obtain ⟨k, a, rfl, rfl, rfl, HI, rfl⟩ := hrel
    obtain ⟨hkq, a0, a1, hpu⟩ := HI.out
    cases gk with
    | zero =>
      have c1 : decide ((k : Int) < (p.size : Int)) = false := decide_eq_false (by omega)
      have c2 : decide (k < p.size) = false := decide_eq_false (by omega)
      have HV : Aside0 (puOf p = (a, .nilIface)) := ⟨hpu⟩
      clear hkq hpu hB HI
      go_wp2
      go_ret2
      exact ⟨by rw [HV.out]; rfl, HBL.out⟩
    | succ g1 =>
      have hlt : k < p.size := by omega
      have c1 : decide ((k : Int) < (p.size : Int)) = true := decide_eq_true (by omega)
      have c2 : decide (k < p.size) = true := decide_eq_true hlt
      have p1 : (0 : Int) ≤ (k : Int) := by omega
      have q1 : (k : Int) < (p.size : Int) := by omega
      have hc := hB k hlt
      have hr := bt_range p k
      have HX : Aside0 (g1 + (k + 1) = p.size) := ⟨by omega⟩
      have HB2 := Aside0.mk hB
      have b9 : k + 1 ≤ 2000000 := by omega
      unfold pu at hpu
      rw [if_pos hlt] at hpu
      obtain ⟨c, hcc⟩ : ∃ c, bt p k = c := ⟨_, rfl⟩
      rw [hcc] at hc hr hpu
      have hl := low_hex c hr.1 hr.2
      have hx := hexI_lt c
      clear hkq hB hlt HI hcc
      have wr1 := wrA (K := 1) k 1 rfl b9
      clear b9
      by_cases h1 : 48 ≤ c ∧ c ≤ 57
      · have hd : hexI c = c - 48 := by unfold hexI; rw [if_pos h1]
        have hnn : ¬ (hexI c < 0) := by rw [hd]; omega
        rw [if_neg hnn, hd] at hpu
        by_cases hov : 4294967295 < a * 16 + (c - 48)
        · rw [if_pos hov] at hpu
          have HV := Aside0.mk hpu
          clear hpu hl hx hnn hd
          go_wp2
          go_ret2
          exact ⟨by rw [HV.out]; rfl, HBL.out⟩
        · rw [if_neg hov] at hpu
          have iov : a * 16 + (c - 48) ≤ 4294967295 := by omega
          have HN : Aside0 (0 ≤ a * 16 + (c - 48) ∧ a * 16 + (c - 48) ≤ 4294967295 ∧ puOf p = pu p g1 (k + 1) (a * 16 + (c - 48))) := ⟨by omega, iov, hpu⟩
          clear hpu hl hx hnn hov hd
          go_wp2
          go_roundg g1
          case measure => omega
          case rel => exact ⟨k + 1, a * 16 + (c - 48), rfl, by first | rfl | (congr 1; omega), by first | rfl | rw [wr1], ⟨HX.out, HN.out⟩, rfl⟩
      · by_cases h2 : 97 ≤ c ∧ c ≤ 102
        · have hd : hexI c = c - 97 + 10 := by unfold hexI; rw [if_neg h1, if_pos h2]; omega
          have HLW := Aside0.mk (hl.1 h2)
          have hnn : ¬ (hexI c < 0) := by rw [hd]; omega
          rw [if_neg hnn, hd] at hpu
          by_cases hov : 4294967295 < a * 16 + (c - 97 + 10)
          · rw [if_pos hov] at hpu
            have HV := Aside0.mk hpu
            clear hpu hl hx hnn hd
            go_wp2_with (go_at_call 141; refine (SH.internal_strconv_lower _ _).mono ?_; rintro e w2 ⟨rfl, hw⟩; rw [hw, HLW.out])
            go_ret2
            exact ⟨by rw [HV.out]; rfl, HBL.out⟩
          · rw [if_neg hov] at hpu
            have iov : a * 16 + (c - 97 + 10) ≤ 4294967295 := by omega
            have HN : Aside0 (0 ≤ a * 16 + (c - 97 + 10) ∧ a * 16 + (c - 97 + 10) ≤ 4294967295 ∧ puOf p = pu p g1 (k + 1) (a * 16 + (c - 97 + 10))) := ⟨by omega, iov, hpu⟩
            clear hpu hl hx hnn hov hd
            go_wp2_with (go_at_call 141; refine (SH.internal_strconv_lower _ _).mono ?_; rintro e w2 ⟨rfl, hw⟩; rw [hw, HLW.out])
            go_roundg g1
            case measure => omega
            case rel => exact ⟨k + 1, a * 16 + (c - 97 + 10), rfl, by first | rfl | (congr 1; omega), by first | rfl | rw [wr1], ⟨HX.out, HN.out⟩, rfl⟩
        · by_cases h3 : 65 ≤ c ∧ c ≤ 70
          · obtain ⟨l, hll⟩ : ∃ l, l = c + 32 := ⟨_, rfl⟩
            have hl2 : 97 ≤ l ∧ l ≤ 102 := by omega
            have hd : hexI c = l - 97 + 10 := by unfold hexI; rw [if_neg h1, if_neg h2, if_pos h3]; omega
            have HLW : Aside0 (bits .or .u8 c 32 = l) := ⟨by rw [hll]; exact hl.2.1 h3⟩
            have hnn : ¬ (hexI c < 0) := by rw [hd]; omega
            rw [if_neg hnn, hd] at hpu
            by_cases hov : 4294967295 < a * 16 + (l - 97 + 10)
            · rw [if_pos hov] at hpu
              have HV := Aside0.mk hpu
              clear hpu hl hx hnn hd
              go_wp2_with (go_at_call 141; refine (SH.internal_strconv_lower _ _).mono ?_; rintro e w2 ⟨rfl, hw⟩; rw [hw, HLW.out])
              go_ret2
              exact ⟨by rw [HV.out]; rfl, HBL.out⟩
            · rw [if_neg hov] at hpu
              have iov : a * 16 + (l - 97 + 10) ≤ 4294967295 := by omega
              have HN : Aside0 (0 ≤ a * 16 + (l - 97 + 10) ∧ a * 16 + (l - 97 + 10) ≤ 4294967295 ∧ puOf p = pu p g1 (k + 1) (a * 16 + (l - 97 + 10))) := ⟨by omega, iov, hpu⟩
              clear hpu hl hx hnn hov hd
              go_wp2_with (go_at_call 141; refine (SH.internal_strconv_lower _ _).mono ?_; rintro e w2 ⟨rfl, hw⟩; rw [hw, HLW.out])
              go_roundg g1
              case measure => omega
              case rel => exact ⟨k + 1, a * 16 + (l - 97 + 10), rfl, by first | rfl | (congr 1; omega), by first | rfl | rw [wr1], ⟨HX.out, HN.out⟩, rfl⟩
          · have hd : hexI c = -1 := by unfold hexI; rw [if_neg h1, if_neg h2, if_neg h3]
            rw [if_pos (by rw [hd]; decide)] at hpu
            have HV := Aside0.mk hpu
            obtain ⟨l, hll⟩ : ∃ l, bits .or .u8 c 32 = l := ⟨_, rfl⟩
            have hl3 := hl.2.2 h1 h2 h3
            have hv0 := bits_lo_u8 .or c 32
            have hv1 := bits_hi_u8 .or c 32
            rw [hll] at hl3 hv0 hv1
            have HLW := Aside0.mk hll
            clear hpu hl hx hd hll
            cases h95 : (c == 95) with
            | true =>
              obtain rfl : c = 95 := by simpa using h95
              have hlw : bits .or .u8 95 32 = l := HLW.out
              have hl127 : l = 127 := by rw [← hlw]; decide +kernel
              subst hl127
              clear hlw h95 hl3 hv0 hv1 h1 h2 h3 hr
              go_wp2_with (go_at_call 141; refine (SH.internal_strconv_lower _ _).mono ?_; rintro e w2 ⟨rfl, hw⟩; rw [hw, HLW.out])
              go_ret2
              exact ⟨by rw [HV.out]; rfl, HBL.out⟩
            | false =>
              have h95' : c ≠ 95 := by simpa using h95
              by_cases k1 : 97 ≤ l
              · by_cases k2 : l ≤ 122
                · have k3 := hl3 k1 k2
                  clear hl3
                  go_wp2_with (go_at_call 141; refine (SH.internal_strconv_lower _ _).mono ?_; rintro e w2 ⟨rfl, hw⟩; rw [hw, HLW.out])
                  all_goals go_ret2
                  all_goals exact ⟨by rw [HV.out]; rfl, HBL.out⟩
                · clear hl3
                  go_wp2_with (go_at_call 141; refine (SH.internal_strconv_lower _ _).mono ?_; rintro e w2 ⟨rfl, hw⟩; rw [hw, HLW.out])
                  all_goals go_ret2
                  all_goals exact ⟨by rw [HV.out]; rfl, HBL.out⟩
              · clear hl3
                go_wp2_with (go_at_call 141; refine (SH.internal_strconv_lower _ _).mono ?_; rintro e w2 ⟨rfl, hw⟩; rw [hw, HLW.out])
                all_goals go_ret2
                all_goals exact ⟨by rw [HV.out]; rfl, HBL.out⟩
end Go.Proofs.YtmifmmpbmcfmpaaGreatDoor.IW
