/-
  The program's reader: what it gives back.
-/
import Derived.Test.YtmifmmpbmcfmpaaGreatDoorKc
set_option linter.unusedVariables false
set_option linter.unusedSimpArgs false
namespace Go.Proofs.YtmifmmpbmcfmpaaGreatDoor.IW
open Go Go.RowKit Go.Proofs.YtmifmmpbmcfmpaaGreatDoor.MkW
set_option maxRecDepth 100000

theorem wrQ (q : Nat) (h : q ≤ 2000000) : wrap64 (q : Int) = (q : Int) := by unfold wrap64; omega
theorem text_any (w : World) (base b : Nat) (s : ByteArray) (v1 tv lv : Value) (bs : List UInt8) (nds : List Nd) (vs : List Value) (R : RI w base b 54 s v1 tv bs lv nds vs) (hm : bs.length ≤ 100000) :
    Calls Tryz.prog 26 #[.pointer (some ⟨b, 1, none⟩)] w fun e w' => e = .returned (.string ⟨bs.toArray⟩) ∧ Below base w w' := by
  obtain ⟨x0, x1, x2, x3, xf⟩ := R.cell
  by_cases h : bs = []
  · subst h
    obtain rfl := R.tnil rfl
    exact (string_none w b x2).mono fun e w' ⟨h1, h2⟩ => ⟨h1, by rw [h2]; exact (Below.refl _ _).drew⟩
  · have hn : 0 < bs.length := by cases bs with | nil => exact absurd rfl h | cons x l => simp
    obtain ⟨g, cap, hv, hb, hg⟩ := R.txt.form hn
    subst hv
    exact (string_RI hn hm R).mono fun e w' ⟨h1, h2⟩ => ⟨h1, by rw [h2]; exact Lib.below_freeze (Below.refl _ _).drew hb _⟩
set_option maxHeartbeats 2000000 in
theorem tparts_any (raw : ByteArray) (w : World) (hm : raw.size ≤ 4096) (hv : EV w) : Calls Tryz.prog 11 #[.string raw] w fun e w' => ∃ v, e = .returned (.agg #[.int .i64 (topOp raw), .string (topS raw), .string ⟨#[]⟩, .int .i64 0, v]) ∧ Below w.heap.size w w' ∧ Lst w' w.heap.size v (topL raw) := by
  have HM := Aside0.mk hm
  have HV := Aside0.mk hv
  obtain ⟨WA, hWA⟩ : ∃ WA, WA = w.alloc (.cells #[.int .i64 0, .string ⟨#[]⟩, .string ⟨#[]⟩, .int .i64 0, .slice none 0 0] 25) := ⟨_, rfl⟩
  obtain ⟨W1, hW1⟩ : ∃ W1, W1 = WA.alloc (.cells #[.string raw, .pointer none, .slice none 0 0, .slice none 0 0] 54) := ⟨_, rfl⟩
  have hsA : WA.heap.size = w.heap.size + 1 := by rw [hWA]; show (w.heap.push _).size = _; simp
  have HR1 : Aside0 (RI W1 (w.heap.size + 1) (w.heap.size + 1) 54 raw (.pointer none) (.slice none 0 0) [] (.slice none 0 0) [] []) := ⟨by rw [hW1, ← hsA]; exact start_RI WA 54 raw _⟩
  have HB1 : Aside0 (Below w.heap.size w W1) := ⟨by rw [hW1, hWA]; exact (below_alloc _ _).trans ((below_alloc _ _).mono (below_alloc w (.cells #[.int .i64 0, .string ⟨#[]⟩, .string ⟨#[]⟩, .int .i64 0, .slice none 0 0] 25)).size)⟩
  have HG1 : Aside0 (W1.heap[w.heap.size]? = some (.cells #[.int .i64 0, .string ⟨#[]⟩, .string ⟨#[]⟩, .int .i64 0, .slice none 0 0] 25 (0, 0))) := ⟨by rw [hW1, (below_alloc WA _).block _ (by omega), hWA]; exact heap_alloc_new w _⟩
  clear hm hsA hv
  go_enter Tryz.func11, Tryz.ntmps11
  go_wp2_with first | rw [← hWA] | rw [← hW1]
  clear hWA hW1
  go_loopg [4] raw.size (fun kq v4 w' => ∃ (p : Nat) (bs : List UInt8) (nds : List Nd) (v1 tv lv : Value) (vs : List Value), v4 = .int .i64 p ∧ Aside0 (kq + p = raw.size ∧ Reach raw p (bs, nds) ∧ RI w' (w.heap.size + 1) (w.heap.size + 1) 54 raw v1 tv bs lv nds vs ∧ okA (w.heap.size + 1) v1 ∧ Below (w.heap.size + 1) W1 w'))
  case atStart => exact ⟨0, [], [], _, _, _, _, rfl, ⟨by omega, Reach.zero raw, HR1.out, .inl rfl, Below.refl _ _⟩⟩
  case round =>
    obtain ⟨p, bs, nds, v1, tv, lv, vs, rfl, HI⟩ := hrel
    obtain ⟨hkq, hre, hR, ha, hBW⟩ := HI.out
    have hM := HM.out
    have htx : bs.length ≤ 4 * p := hre.text
    have hnd : nds.length ≤ 2 * p := hre.nodes
    have hle := hre.le
    have HLB : Aside0 (bs.length ≤ 100000) := ⟨by omega⟩
    have HLN : Aside0 (nds.length ≤ 90000) := ⟨by omega⟩
    have HR := Aside0.mk hR
    have HBW := Aside0.mk hBW
    have HRE := Aside0.mk hre
    have HA := Aside0.mk ha
    have HVW : Aside0 (EV wr) := ⟨HV.out.of (((HB1.out.trans (hBW.mono (Nat.le_succ _))).block 2 (by have := HV.out.lt; omega))) (((HB1.out.trans (hBW.mono (Nat.le_succ _))).block 3 HV.out.lt)) (HB1.out.trans (hBW.mono (Nat.le_succ _))).size⟩
    obtain ⟨x0, x1, x2, x3, xf⟩ := hR.cell
    have p1 : (0 : Int) ≤ (p : Int) := by omega
    by_cases hlt : p < raw.size
    · have c1 : decide ((p : Int) < (raw.size : Int)) = true := decide_eq_true (by omega)
      have c2 : decide (p < raw.size) = true := decide_eq_true hlt
      have q1 : (p : Int) < (raw.size : Int) := by omega
      have q2 : (0 : Int) ≤ (p : Int) + 1 := by omega
      have q3 : (p : Int) + 1 ≤ (raw.size : Int) := by omega
      have b1 := bt_at raw p hlt
      have HKQ := Aside0.mk hkq
      have hstep := hre.step hlt
      obtain ⟨u, hu⟩ : ∃ u, raw.extract (p + 1) raw.size = u := ⟨_, rfl⟩
      have hul : u.size = raw.size - (p + 1) := by rw [← hu]; exact size_ext _ _ _ (Nat.le_refl _)
      have HUL : Aside0 (u.size ≤ 1000000) := ⟨by omega⟩
      have he1 := (escOf_le u).1
      have hs1 := scalarOf_le u
      have ha1 := arrayOf_le u
      have b9 : p + 1 ≤ 2000000 := by omega
      cases h92 : (bt raw p == 92) with
      | true =>
        have hE : bt raw p = 92 := by simpa using h92
        rw [step_esc hE hu] at hstep
        obtain ⟨k, hk⟩ : ∃ k, (escOf u).1 = k := ⟨_, rfl⟩
        have HK := Aside0.mk hk
        rw [hk] at hstep he1
        have HST : Aside0 (Reach raw (p + 1 + k) (bs ++ (escOf u).2, nds)) := ⟨hstep⟩
        have HLE : Aside0 (p + 1 + k ≤ raw.size) := ⟨by omega⟩
        obtain ⟨q, hq⟩ : ∃ q, q = p + 1 := ⟨_, rfl⟩
        obtain ⟨q5, hq5⟩ : ∃ q5, q5 = q + k := ⟨_, rfl⟩
        have HQ : Aside0 (q5 = p + 1 + k) := ⟨by omega⟩
        have hux : raw.extract q raw.size = u := by rw [hq]; exact hu
        have t1 : (0 : Int) ≤ (q : Int) := by omega
        have t2 : (q : Int) ≤ (raw.size : Int) := by omega
        have b8 : q5 ≤ 2000000 := by omega
        have wr1 : wrap64 ((p : Int) + 1) = (q : Int) := by rw [hq]; exact wrA (K := 1) p 1 rfl b9
        have wr2 := wr_p q k q5 hq5 b8
        clear b9 hq hu b8 hq5
        clear hkq hre hR ha hBW hM htx hnd hle hstep hul he1 hs1 ha1 HI hE hk
        go_wp2_with (go_at_call 22; refine (tescape_any _ (w.heap.size + 1) (w.heap.size + 1) raw v1 tv lv bs nds vs HR.out HA.out HLB.out u HUL.out HVW.out).mono ?_; rintro e w2 ⟨rfl, u1, tv', hu1, hR2, hF2⟩; rw [HK.out]; have HR2 := Aside0.mk hR2; have HF2 := Aside0.mk (Fr.below HR.out hF2); have HU1 := Aside0.mk hu1; clear hR2 hF2 hu1)
        go_roundg (raw.size - (p + 1 + k))
        case measure => have := HKQ.out; have := HLE.out; omega
        case rel => exact ⟨p + 1 + k, bs ++ (escOf u).2, nds, u1, tv', lv, vs, by first | (rw [← HQ.out]; rfl) | (rw [← HQ.out, ← wr2]; rfl) | (rw [← HQ.out, ← wr2]), ⟨by have := HLE.out; omega, HST.out, HR2.out, HU1.out, HBW.out.trans HF2.out⟩⟩
      | false =>
        cases h36 : (bt raw p == 36) with
        | true =>
          have hE : bt raw p = 36 := by simpa using h36
          have h64 : (bt raw p == 64) = false := by rw [hE]; rfl
          by_cases hj : (scalarOf u).1 = 0
          · have HX := Aside0.mk hj
            rw [step_byte (by simpa using h92) hu (fun h => h.2 hj) (fun h => by rw [hE] at h; exact absurd h.1 (by decide))] at hstep
            have HST : Aside0 (Reach raw (p + 1) (bs ++ [IW.u8 (bt raw p)], nds)) := ⟨hstep⟩
            have HLE : Aside0 (p + 1 ≤ raw.size) := ⟨by omega⟩
            clear hkq hre hR ha hBW hM htx hnd hle hstep hul he1 hs1 ha1 HI hE hj
            have hW := writeByte_any wr (w.heap.size + 1) (w.heap.size + 1) raw v1 tv bs lv nds vs (IW.u8 (bt raw p)) HR.out HA.out HLB.out
            rw [u8_back raw p] at hW
            have HWB := Aside0.mk hW
            clear hW
            obtain ⟨q, hq⟩ : ∃ q, q = p + 1 := ⟨_, rfl⟩
            have HQ := Aside0.mk hq
            have hux : raw.extract q raw.size = u := by rw [hq]; exact hu
            have t1 : (0 : Int) ≤ (q : Int) := by omega
            have t2 : (q : Int) ≤ (raw.size : Int) := by omega
            have wr1 : wrap64 ((p : Int) + 1) = (q : Int) := by rw [hq]; exact wrA (K := 1) p 1 rfl b9
            have WQ : Aside0 (wrap64 (q : Int) = (q : Int)) := ⟨wrQ q (by rw [hq]; exact b9)⟩
            clear b9 hq hu
            go_wp2_with first | (go_at_call 23; refine (tscalar_none _ (w.heap.size + 1) (w.heap.size + 1) raw v1 tv lv bs nds vs HR.out HA.out HLB.out HLN.out u HUL.out HX.out).mono ?_; rintro e w2 ⟨rfl, hw2⟩; rw [hw2]) | (go_at_call 25; refine HWB.out.mono ?_; rintro e w3 ⟨rfl, tv', hR2, hF2⟩; have HR2 := Aside0.mk hR2; have HF2 := Aside0.mk (Fr.below HR.out hF2); clear hR2 hF2)
            go_roundg (raw.size - (p + 1))
            case measure => have := HKQ.out; have := HLE.out; omega
            case rel => exact ⟨p + 1, bs ++ [IW.u8 (bt raw p)], nds, _, tv', lv, vs, by rw [WQ.out, HQ.out], ⟨by have := HLE.out; omega, HST.out, HR2.out, .inr rfl, HBW.out.trans HF2.out⟩⟩
          · rw [step_scalar hE hu hj] at hstep
            obtain ⟨j, hjj⟩ : ∃ j, (scalarOf u).1 = j := ⟨_, rfl⟩
            obtain ⟨x, hxx⟩ : ∃ x, (scalarOf u).2 = x := ⟨_, rfl⟩
            have HX : Aside0 (scalarOf u = (j, x)) := ⟨by rw [← hjj, ← hxx]⟩
            rw [hjj, hxx] at hstep
            rw [hjj] at hj hs1
            have HJ := Aside0.mk hj
            have HST : Aside0 (Reach raw (p + 1 + j) ([], fl bs nds ++ [x])) := ⟨hstep⟩
            have HLE : Aside0 (p + 1 + j ≤ raw.size) := ⟨by omega⟩
            have l0 : ((j : Int) == 0) = false := by rw [beq_eq_false_iff_ne]; omega
            have l1 : decide ((j : Int) = 0) = false := decide_eq_false (by omega)
            have l2 : decide (j = 0) = false := decide_eq_false hj
            obtain ⟨q, hq⟩ : ∃ q, q = p + 1 := ⟨_, rfl⟩
            obtain ⟨q5, hq5⟩ : ∃ q5, q5 = q + j := ⟨_, rfl⟩
            have HQ : Aside0 (q5 = p + 1 + j) := ⟨by omega⟩
            have hux : raw.extract q raw.size = u := by rw [hq]; exact hu
            have t1 : (0 : Int) ≤ (q : Int) := by omega
            have t2 : (q : Int) ≤ (raw.size : Int) := by omega
            have b8 : q5 ≤ 2000000 := by omega
            have wr1 : wrap64 ((p : Int) + 1) = (q : Int) := by rw [hq]; exact wrA (K := 1) p 1 rfl b9
            have wr2 := wr_p q j q5 hq5 b8
            clear b9 hq hu b8 hq5
            clear hkq hre hR ha hBW hM htx hnd hle hstep hul he1 hs1 ha1 HI hE hj hjj hxx
            go_wp2_with (go_at_call 23; refine (tscalar_yes _ (w.heap.size + 1) (w.heap.size + 1) raw v1 tv lv bs nds vs HR.out HA.out HLB.out HLN.out u HUL.out j x HX.out HJ.out).mono ?_; rintro e w2 ⟨rfl, u1, lv', vs', hu1, hR2, hF2⟩; have HR2 := Aside0.mk hR2; have HF2 := Aside0.mk (Fr.below HR.out hF2); have HU1 := Aside0.mk hu1; clear hR2 hF2 hu1)
            go_roundg (raw.size - (p + 1 + j))
            case measure => have := HKQ.out; have := HLE.out; omega
            case rel => exact ⟨p + 1 + j, [], fl bs nds ++ [x], u1, _, lv', vs', by first | (rw [← HQ.out]; rfl) | (rw [← HQ.out, ← wr2]; rfl) | (rw [← HQ.out, ← wr2]), ⟨by have := HLE.out; omega, HST.out, HR2.out, HU1.out, HBW.out.trans HF2.out⟩⟩
        | false =>
          cases h64 : (bt raw p == 64) with
          | true =>
            have hE : bt raw p = 64 := by simpa using h64
            by_cases hj : (arrayOf u).1 = 0
            · have HX := Aside0.mk hj
              rw [step_byte (by simpa using h92) hu (fun h => by rw [hE] at h; exact absurd h.1 (by decide)) (fun h => h.2 hj)] at hstep
              have HST : Aside0 (Reach raw (p + 1) (bs ++ [IW.u8 (bt raw p)], nds)) := ⟨hstep⟩
              have HLE : Aside0 (p + 1 ≤ raw.size) := ⟨by omega⟩
              clear hkq hre hR ha hBW hM htx hnd hle hstep hul he1 hs1 ha1 HI hE hj
              have hW := writeByte_any wr (w.heap.size + 1) (w.heap.size + 1) raw v1 tv bs lv nds vs (IW.u8 (bt raw p)) HR.out HA.out HLB.out
              rw [u8_back raw p] at hW
              have HWB := Aside0.mk hW
              clear hW
              obtain ⟨q, hq⟩ : ∃ q, q = p + 1 := ⟨_, rfl⟩
              have HQ := Aside0.mk hq
              have hux : raw.extract q raw.size = u := by rw [hq]; exact hu
              have t1 : (0 : Int) ≤ (q : Int) := by omega
              have t2 : (q : Int) ≤ (raw.size : Int) := by omega
              have wr1 : wrap64 ((p : Int) + 1) = (q : Int) := by rw [hq]; exact wrA (K := 1) p 1 rfl b9
              have WQ : Aside0 (wrap64 (q : Int) = (q : Int)) := ⟨wrQ q (by rw [hq]; exact b9)⟩
              clear b9 hq hu
              go_wp2_with first | (go_at_call 24; refine (tarray_none _ (w.heap.size + 1) (w.heap.size + 1) raw v1 tv lv bs nds vs HR.out HA.out HLB.out HLN.out u HUL.out HX.out).mono ?_; rintro e w2 ⟨rfl, hw2⟩; rw [hw2]) | (go_at_call 25; refine HWB.out.mono ?_; rintro e w3 ⟨rfl, tv', hR2, hF2⟩; have HR2 := Aside0.mk hR2; have HF2 := Aside0.mk (Fr.below HR.out hF2); clear hR2 hF2)
              go_roundg (raw.size - (p + 1))
              case measure => have := HKQ.out; have := HLE.out; omega
              case rel => exact ⟨p + 1, bs ++ [IW.u8 (bt raw p)], nds, _, tv', lv, vs, by rw [WQ.out, HQ.out], ⟨by have := HLE.out; omega, HST.out, HR2.out, .inr rfl, HBW.out.trans HF2.out⟩⟩
            · rw [step_array hE hu hj] at hstep
              obtain ⟨j, hjj⟩ : ∃ j, (arrayOf u).1 = j := ⟨_, rfl⟩
              obtain ⟨x, hxx⟩ : ∃ x, (arrayOf u).2 = x := ⟨_, rfl⟩
              have HX : Aside0 (arrayOf u = (j, x)) := ⟨by rw [← hjj, ← hxx]⟩
              rw [hjj, hxx] at hstep
              rw [hjj] at hj ha1
              have HJ := Aside0.mk hj
              have HST : Aside0 (Reach raw (p + 1 + j) ([], fl bs nds ++ [x])) := ⟨hstep⟩
              have HLE : Aside0 (p + 1 + j ≤ raw.size) := ⟨by omega⟩
              have l0 : ((j : Int) == 0) = false := by rw [beq_eq_false_iff_ne]; omega
              have l1 : decide ((j : Int) = 0) = false := decide_eq_false (by omega)
              have l2 : decide (j = 0) = false := decide_eq_false hj
              obtain ⟨q, hq⟩ : ∃ q, q = p + 1 := ⟨_, rfl⟩
              obtain ⟨q5, hq5⟩ : ∃ q5, q5 = q + j := ⟨_, rfl⟩
              have HQ : Aside0 (q5 = p + 1 + j) := ⟨by omega⟩
              have hux : raw.extract q raw.size = u := by rw [hq]; exact hu
              have t1 : (0 : Int) ≤ (q : Int) := by omega
              have t2 : (q : Int) ≤ (raw.size : Int) := by omega
              have b8 : q5 ≤ 2000000 := by omega
              have wr1 : wrap64 ((p : Int) + 1) = (q : Int) := by rw [hq]; exact wrA (K := 1) p 1 rfl b9
              have wr2 := wr_p q j q5 hq5 b8
              clear b9 hq hu b8 hq5
              clear hkq hre hR ha hBW hM htx hnd hle hstep hul he1 hs1 ha1 HI hE hj hjj hxx
              go_wp2_with (go_at_call 24; refine (tarray_yes _ (w.heap.size + 1) (w.heap.size + 1) raw v1 tv lv bs nds vs HR.out HA.out HLB.out HLN.out u HUL.out j x HX.out HJ.out).mono ?_; rintro e w2 ⟨rfl, u1, lv', vs', hu1, hR2, hF2⟩; have HR2 := Aside0.mk hR2; have HF2 := Aside0.mk (Fr.below HR.out hF2); have HU1 := Aside0.mk hu1; clear hR2 hF2 hu1)
              go_roundg (raw.size - (p + 1 + j))
              case measure => have := HKQ.out; have := HLE.out; omega
              case rel => exact ⟨p + 1 + j, [], fl bs nds ++ [x], u1, _, lv', vs', by first | (rw [← HQ.out]; rfl) | (rw [← HQ.out, ← wr2]; rfl) | (rw [← HQ.out, ← wr2]), ⟨by have := HLE.out; omega, HST.out, HR2.out, HU1.out, HBW.out.trans HF2.out⟩⟩
          | false =>
            rw [step_byte (by simpa using h92) hu (fun h => by rw [beq_eq_false_iff_ne] at h36; exact h36 h.1) (fun h => by rw [beq_eq_false_iff_ne] at h64; exact h64 h.1)] at hstep
            have HST : Aside0 (Reach raw (p + 1) (bs ++ [IW.u8 (bt raw p)], nds)) := ⟨hstep⟩
            have HLE : Aside0 (p + 1 ≤ raw.size) := ⟨by omega⟩
            clear hkq hre hR ha hBW hM htx hnd hle hstep hul he1 hs1 ha1 HI
            have hW := writeByte_any wr (w.heap.size + 1) (w.heap.size + 1) raw v1 tv bs lv nds vs (IW.u8 (bt raw p)) HR.out HA.out HLB.out
            rw [u8_back raw p] at hW
            have HWB := Aside0.mk hW
            clear hW
            obtain ⟨q, hq⟩ : ∃ q, q = p + 1 := ⟨_, rfl⟩
            have HQ := Aside0.mk hq
            have hux : raw.extract q raw.size = u := by rw [hq]; exact hu
            have t1 : (0 : Int) ≤ (q : Int) := by omega
            have t2 : (q : Int) ≤ (raw.size : Int) := by omega
            have wr1 : wrap64 ((p : Int) + 1) = (q : Int) := by rw [hq]; exact wrA (K := 1) p 1 rfl b9
            have WQ : Aside0 (wrap64 (q : Int) = (q : Int)) := ⟨wrQ q (by rw [hq]; exact b9)⟩
            clear b9 hq hu
            go_wp2_with first | (go_at_call 25; refine HWB.out.mono ?_; rintro e w3 ⟨rfl, tv', hR2, hF2⟩; have HR2 := Aside0.mk hR2; have HF2 := Aside0.mk (Fr.below HR.out hF2); clear hR2 hF2)
            go_roundg (raw.size - (p + 1))
            case measure => have := HKQ.out; have := HLE.out; omega
            case rel => exact ⟨p + 1, bs ++ [IW.u8 (bt raw p)], nds, _, tv', lv, vs, by rw [WQ.out, HQ.out], ⟨by have := HLE.out; omega, HST.out, HR2.out, .inr rfl, HBW.out.trans HF2.out⟩⟩
    · have c1 : decide ((p : Int) < (raw.size : Int)) = false := decide_eq_false (by omega)
      have c2 : decide (p < raw.size) = false := decide_eq_false hlt
      have hst := hre.stop (by omega)
      clear hkq hre hBW hM htx hnd hle hlt HI ha
      obtain ⟨A2, c5, htl⟩ := own_slice hR.out
      subst htl
      by_cases hn0 : nds = []
      · have htop := top_nil (raw := raw) (by rw [← hst]; exact hn0)
        rw [← hst] at htop
        have HTOP := Aside0.mk htop
        have l0 : nds.length = 0 := by rw [hn0]; rfl
        rw [l0] at x3
        clear hst hn0 htop hR
        go_wp2_with (go_at_call 26; refine (text_any _ (w.heap.size + 1) (w.heap.size + 1) raw v1 tv _ bs nds vs HR.out HLB.out).mono ?_; rintro e w2 ⟨rfl, hB2⟩; have HB2 := Aside0.mk (HBW.out.trans hB2); have hg0 := (HB2.out.block w.heap.size (by omega)).trans HG1.out; obtain ⟨k0, k1, k2, k3, k4, kf⟩ := nd_block hg0; have HG0 := Aside0.mk hg0; clear hB2 hg0)
        generalize hwf : storeNd w2 w.heap.size 0 0 2 ⟨bs.toArray⟩ 0 (.slice none 0 0) = wf
        have hf2 := storeNd_zero HG0.out 0 2 ⟨bs.toArray⟩ 0 (.slice none 0 0)
        rw [hwf] at hf2
        have h2 := hwf
        unfold storeNd at h2
        simp only [Nat.zero_add] at h2
        rw [h2]
        refine bodyPost_ret (results_nd rfl rfl hf2) rfl ?_
        have hBf : Below w.heap.size w w2 := HB1.out.trans (HB2.out.mono (Nat.le_succ _))
        refine ⟨(.slice none 0 0), by rw [HTOP.out.1, HTOP.out.2.1], by rw [← hwf]; exact storeNd_below hBf (Nat.le_refl _) _ _ _ _ _ _, ?_⟩
        rw [HTOP.out.2.2, ← hwf]
        exact Lst.nil _ _
      · have htop := top_some (raw := raw) (by rw [← hst]; exact hn0)
        rw [← hst] at htop
        have HTOP := Aside0.mk htop
        have hLp : 1 ≤ nds.length := by cases nds with | nil => exact absurd rfl hn0 | cons x l => simp
        have l0 : ((nds.length : Int) == 0) = false := by rw [beq_eq_false_iff_ne]; omega
        have l1 : decide ((nds.length : Int) = 0) = false := decide_eq_false (by omega)
        have l2 : decide (nds.length = 0) = false := decide_eq_false (by omega)
        clear hst hn0 htop hR hLp
        go_wp2_with (go_at_call 27; refine (tflush_any _ (w.heap.size + 1) (w.heap.size + 1) raw v1 tv _ bs nds vs HR.out HA.out HLB.out (by have := HLN.out; omega)).mono ?_; rintro e w2 ⟨rfl, u1, lv', vs', hu1, hR2, hF2⟩; have hB2 := Fr.below HR.out hF2; obtain ⟨A3, c3, hl3⟩ := own_slice hR2.out; subst hl3; clear x0 x1 x2 x3 xf; obtain ⟨x0, x1, x2, x3, xf⟩ := hR2.cell; have HR2 := Aside0.mk hR2; have HB2 := Aside0.mk (HBW.out.trans hB2); have hg0 := (HB2.out.block w.heap.size (by omega)).trans HG1.out; obtain ⟨k0, k1, k2, k3, k4, kf⟩ := nd_block hg0; have HG0 := Aside0.mk hg0; clear hB2 hg0; clear hR2 hF2 hu1)
        generalize hwf : storeNd w2 w.heap.size 0 0 3 ⟨#[]⟩ 0 (.slice A3 (fl bs nds).length c3) = wf
        have hf2 := storeNd_zero HG0.out 0 3 ⟨#[]⟩ 0 (.slice A3 (fl bs nds).length c3)
        rw [hwf] at hf2
        have h2 := hwf
        unfold storeNd at h2
        simp only [Nat.zero_add] at h2
        rw [h2]
        refine bodyPost_ret (results_nd rfl rfl hf2) rfl ?_
        have hBf : Below w.heap.size w w2 := HB1.out.trans (HB2.out.mono (Nat.le_succ _))
        refine ⟨(.slice A3 (fl bs nds).length c3), by rw [HTOP.out.1, HTOP.out.2.1], by rw [← hwf]; exact storeNd_below hBf (Nat.le_refl _) _ _ _ _ _ _, ?_⟩
        rw [HTOP.out.2.2, ← hwf]
        exact HR2.out.lst.ge (Nat.le_succ _) (fun k hk => storeNd_other (by omega))
end Go.Proofs.YtmifmmpbmcfmpaaGreatDoor.IW
