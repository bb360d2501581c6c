/-
  What stands behind a backslash: the program's method.
-/
import Derived.Test.YtmifmmpbmcfmpaaGreatDoorJx
set_option linter.unusedVariables false
set_option linter.unusedSimpArgs false
namespace Go.Proofs.YtmifmmpbmcfmpaaGreatDoor.IW
open Go Go.RowKit
set_option maxRecDepth 100000

theorem Rs.drew {w0 w : World} {base b : Nat} {e : TypeId} {s : ByteArray} {v1 tv : Value} {bs : List UInt8} {lv : Value} {nds : List Nd} {vs : List Value} (h : Rs w0 w base b e s v1 tv bs lv nds vs) : Rs w0 w.drew base b e s v1 tv bs lv nds vs :=
  ⟨h.R.congr fun _ _ => rfl, h.F.trans ⟨rfl, rfl, rfl, Nat.le_refl _, fun _ _ _ _ _ => rfl, fun _ h => .inl h, fun _ h => .inl h⟩⟩
theorem esc_hex {u : ByteArray} (h : hexK u ≠ 0) : escOf u = (hexK u, Lib.encodeRune (hexC u)) ∧ isCh (hexC u) = true := by
  have hok : HexOk u := by
    unfold hexK at h; split at h
    · assumption
    · exact absurd rfl h
  have h0 := bt_pos hok.1 (by decide)
  refine ⟨?_, ?_⟩
  · unfold escOf
    rw [if_neg (by omega), hok.1, if_neg (by decide), if_neg (by decide), if_pos h]
  · unfold hexC; rw [if_pos hok]; exact hok.2.2.2.2
theorem esc_nil {u : ByteArray} (h : u.size = 0) : escOf u = (0, [92]) := by unfold escOf; rw [if_pos h]
theorem esc_n {u : ByteArray} (h0 : u.size ≠ 0) (h : bt u 0 = 110) : escOf u = (1, [10]) := by unfold escOf; rw [if_neg h0, if_pos h]
theorem esc_t {u : ByteArray} (h0 : u.size ≠ 0) (h : bt u 0 = 116) : escOf u = (1, [9]) := by unfold escOf; rw [if_neg h0, if_neg (by rw [h]; decide), if_pos h]
theorem esc_else {u : ByteArray} (h0 : u.size ≠ 0) (h : bt u 0 ≠ 110) (h2 : bt u 0 ≠ 116) (hk : hexK u = 0) : escOf u = (1, [u8 (bt u 0)]) := by
  unfold escOf; rw [if_neg h0, if_neg h, if_neg h2, if_neg (by rw [hk]; simp)]
theorem hexK_le9 (u : ByteArray) : hexK u ≤ 9 := by
  unfold hexK
  have := (hexLen_spec u).le
  split <;> omega
theorem u8_back (s : ByteArray) (i : Nat) : ((u8 (bt s i)).toNat : Int) = bt s i := by
  have := bt_range s i
  unfold u8
  simp
  omega

set_option maxHeartbeats 1000000 in
theorem tescape_any (w : World) (base b : Nat) (s : ByteArray) (v1 tv lv : Value) (bs : List UInt8) (nds : List Nd) (vs : List Value) (R0 : RI w base b 54 s v1 tv bs lv nds vs) (ha : okA b v1) (hlb : bs.length ≤ 100000) (u : ByteArray) (hs : u.size ≤ 1000000) (hv : EV w) :
    Calls Tryz.prog 22 #[.pointer (some ⟨b, 0, none⟩), .string u] w fun e w' => e = .returned (.int .i64 ((escOf u).1 : Nat)) ∧ ∃ u1 tv', okA b u1 ∧ RI w' base b 54 s u1 tv' (bs ++ (escOf u).2) lv nds vs ∧ Fr w w' b tv lv tv' lv := by
  have HS := Aside0.mk (Rs.refl R0)
  have HA := Aside0.mk ha
  have HL := Aside0.mk hlb
  have HU := Aside0.mk hs
  have HV := Aside0.mk hv
  obtain ⟨k, hk⟩ : ∃ k, hexK u = k := ⟨_, rfl⟩
  obtain ⟨c, hc⟩ : ∃ c, hexC u = c := ⟨_, rfl⟩
  have HK : Aside0 ((Value.tuple #[.int .i32 (hexC u), .int .i64 (hexK u : Nat)]) = .tuple #[.int .i32 c, .int .i64 k]) := ⟨by rw [hk, hc]⟩
  by_cases hk0 : k = 0
  · have e1 : decide ((k : Int) > 0) = false := decide_eq_false (by omega)
    have e2 : decide (0 < k) = false := decide_eq_false (by omega)
    by_cases hz : u.size = 0
    · have hue : u.toList.isEmpty = true := by rw [toList_nil.2 hz]; rfl
      have HE := Aside0.mk (esc_nil hz)
      clear R0 ha hlb hs hv hk hc hk0 hz
      go_enter Tryz.func22, Tryz.ntmps22
      go_wp2_with first
        | (go_at_call 55; refine (hex_any _ _ HU.out HV.out).mono ?_; rintro e w2 ⟨rfl, hB⟩; rw [HK.out]; have HS2 := Aside0.mk (HS.out.below hB); clear hB)
        | (go_at_call 25; refine (writeByte_any _ base b s v1 tv bs lv nds vs 92 HS2.out.R HA.out HL.out).mono ?_; rintro e w3 ⟨rfl, tv', hR, hF⟩; have HR := Aside0.mk hR; have HF := Aside0.mk hF; clear hR hF)
      go_ret
      exact ⟨by rw [HE.out]; rfl, _, tv', .inr rfl, by rw [HE.out]; exact HR.out, HS2.out.F.trans HF.out⟩
    · have hue : u.toList.isEmpty = false := isEmpty_no hz
      have p0 : 0 < u.size := by omega
      have q0 : (0 : Int) < (u.size : Int) := by omega
      have b0 := bt_at u 0 p0
      cases h110 : (bt u 0 == 110) with
      | true =>
        have HE := Aside0.mk (esc_n hz (by simpa using h110))
        clear R0 ha hlb hs hv hk hc hk0 hz
        go_enter Tryz.func22, Tryz.ntmps22
        go_wp2_with first
          | (go_at_call 55; refine (hex_any _ _ HU.out HV.out).mono ?_; rintro e w2 ⟨rfl, hB⟩; rw [HK.out]; have HS2 := Aside0.mk (HS.out.below hB); clear hB)
          | (go_at_call 25; refine (writeByte_any _ base b s v1 tv bs lv nds vs 10 HS2.out.R HA.out HL.out).mono ?_; rintro e w3 ⟨rfl, tv', hR, hF⟩; have HR := Aside0.mk hR; have HF := Aside0.mk hF; clear hR hF)
        go_ret
        exact ⟨by rw [HE.out]; rfl, _, tv', .inr rfl, by rw [HE.out]; exact HR.out, HS2.out.F.trans HF.out⟩
      | false =>
        cases h116 : (bt u 0 == 116) with
        | true =>
          have HE := Aside0.mk (esc_t hz (by simpa using h116))
          clear R0 ha hlb hs hv hk hc hk0 hz
          go_enter Tryz.func22, Tryz.ntmps22
          go_wp2_with first
            | (go_at_call 55; refine (hex_any _ _ HU.out HV.out).mono ?_; rintro e w2 ⟨rfl, hB⟩; rw [HK.out]; have HS2 := Aside0.mk (HS.out.below hB); clear hB)
            | (go_at_call 25; refine (writeByte_any _ base b s v1 tv bs lv nds vs 9 HS2.out.R HA.out HL.out).mono ?_; rintro e w3 ⟨rfl, tv', hR, hF⟩; have HR := Aside0.mk hR; have HF := Aside0.mk hF; clear hR hF)
          go_ret
          exact ⟨by rw [HE.out]; rfl, _, tv', .inr rfl, by rw [HE.out]; exact HR.out, HS2.out.F.trans HF.out⟩
        | false =>
          have HE := Aside0.mk (esc_else hz (by simpa using h110) (by simpa using h116) (by rw [hk]; exact hk0))
          have HB8 := Aside0.mk (u8_back u 0)
          clear R0 ha hlb hs hv hk hc hk0 hz
          go_enter Tryz.func22, Tryz.ntmps22
          go_wp2_with first
            | (go_at_call 55; refine (hex_any _ _ HU.out HV.out).mono ?_; rintro e w2 ⟨rfl, hB⟩; rw [HK.out]; have HS2 := Aside0.mk (HS.out.below hB); clear hB)
          go_still_tail 5, (by kernel_rfl)
          change wpList _ _ _ _ _ w2.drew
          have HSd := Aside0.mk (HS2.out.drew)
          have hW := writeByte_any w2.drew base b s v1 tv bs lv nds vs (u8 (bt u 0)) HSd.out.R HA.out HL.out
          rw [HB8.out] at hW
          have HWB := Aside0.mk hW
          clear hW
          generalize w2.drew = wd at HSd HWB ⊢
          go_wp2_with (go_at_call 25; refine HWB.out.mono ?_; rintro e w3 ⟨rfl, tv', hR, hF⟩; have HR := Aside0.mk hR; have HF := Aside0.mk hF; clear hR hF)
          go_ret
          exact ⟨by rw [HE.out]; rfl, _, tv', .inr rfl, by rw [HE.out]; exact HR.out, HSd.out.F.trans HF.out⟩
  · have e1 : decide ((k : Int) > 0) = true := decide_eq_true (by omega)
    have e2 : decide (0 < k) = true := decide_eq_true (by omega)
    obtain ⟨he, hch⟩ := esc_hex (u := u) (by rw [hk]; exact hk0)
    rw [hk, hc] at he
    rw [hc] at hch
    have HE := Aside0.mk he
    have HC := Aside0.mk hch
    clear R0 ha hlb hs hv hk hc hk0 he hch
    go_enter Tryz.func22, Tryz.ntmps22
    go_wp2_with first
      | (go_at_call 55; refine (hex_any _ _ HU.out HV.out).mono ?_; rintro e w2 ⟨rfl, hB⟩; rw [HK.out]; have HS2 := Aside0.mk (HS.out.below hB); clear hB)
      | (go_at_call 56; refine (writeRune_any _ base b s v1 tv bs lv nds vs c HC.out HS2.out.R HA.out HL.out).mono ?_; rintro e w3 ⟨⟨r, rfl⟩, tv', hR, hF⟩; have HR := Aside0.mk hR; have HF := Aside0.mk hF; clear hR hF)
    go_ret
    exact ⟨by rw [HE.out]; rfl, _, tv', .inr rfl, by rw [HE.out]; exact HR.out, HS2.out.F.trans HF.out⟩
end Go.Proofs.YtmifmmpbmcfmpaaGreatDoor.IW
