/-
  The reference's reader: what it gives back.
-/
import Derived.Test.YtmifmmpbmcfmpaaGreatDoorKb
set_option linter.unusedVariables false
set_option linter.unusedSimpArgs false
namespace Go.Proofs.YtmifmmpbmcfmpaaGreatDoor.IW
open Go Go.RowKit Go.Proofs.YtmifmmpbmcfmpaaGreatDoor.MkW
set_option maxRecDepth 100000

theorem fl_one {bs : List UInt8} {nds : List Nd} (hn : nds ≠ []) (h : (fl bs nds).length = 1) : ∃ x, nds = [x] ∧ fl bs nds = [x] := by
  unfold fl at h ⊢
  split
  · rename_i hb
    rw [if_pos hb] at h
    cases nds with
    | nil => exact absurd rfl hn
    | cons x l =>
      have : l = [] := List.eq_nil_of_length_eq_zero (by simpa using h)
      subst this
      exact ⟨x, rfl, rfl⟩
  · rename_i hb
    rw [if_neg hb] at h
    cases nds with
    | nil => exact absurd rfl hn
    | cons x l => simp at h
theorem fl_pos {bs : List UInt8} {nds : List Nd} (hn : nds ≠ []) : 1 ≤ (fl bs nds).length := by
  unfold fl
  cases nds with
  | nil => exact absurd rfl hn
  | cons x l => split <;> simp
/-- The cells of the only node of a list. -/
theorem one_cells {w : World} {base : Nat} {v : Value} {x : Nd} {vs : List Value} (ho : w.ownsRow base 25 5 v 1 (ndCells [x] vs)) (hl : vs.length = 1) : ∃ g cap u, v = .slice (some ⟨g, 0, none⟩) 1 cap ∧ vs = [u] ∧ base ≤ g ∧ g < w.heap.size ∧
    w.cell? ⟨g, 0, none⟩ = some (.int .i64 x.op) ∧ w.cell? ⟨g, 1, none⟩ = some (.string x.s) ∧ w.cell? ⟨g, 2, none⟩ = some (.string ⟨#[]⟩) ∧ w.cell? ⟨g, 3, none⟩ = some (.int .i64 x.n) ∧ w.cell? ⟨g, 4, none⟩ = some u := by
  obtain ⟨g, cap, rfl, hb, hg⟩ := ho.form (by decide)
  cases vs with
  | nil => simp at hl
  | cons u t =>
    have : t = [] := List.eq_nil_of_length_eq_zero (by simpa using hl)
    subst this
    have hc : ∀ j, j < 5 → w.cell? ⟨g, j, none⟩ = (ndCells [x] [u])[j]? := fun j hj => ho.cellAt j (by omega)
    exact ⟨g, cap, u, rfl, rfl, hb, hg, hc 0 (by decide), hc 1 (by decide), hc 2 (by decide), hc 3 (by decide), hc 4 (by decide)⟩

set_option maxHeartbeats 2000000 in
theorem rinterp_any (raw : ByteArray) (w : World) (hm : raw.size ≤ 4096) : Calls Tryz.prog 10 #[.string raw] w fun e w' => ∃ v, e = .returned (.agg #[.int .i64 (topOp raw), .string (topS raw), .string ⟨#[]⟩, .int .i64 0, v]) ∧ Below w.heap.size w w' ∧ Lst w' w.heap.size v (topL raw) := by
  have HM := Aside0.mk hm
  obtain ⟨WA, hWA⟩ : ∃ WA, WA = w.alloc (.cells #[.int .i64 0, .string ⟨#[]⟩, .string ⟨#[]⟩, .int .i64 0, .slice none 0 0] 25) := ⟨_, rfl⟩
  obtain ⟨W1, hW1⟩ : ∃ W1, W1 = WA.alloc (.cells #[.string raw, .int .i64 0, .slice none 0 0, .slice none 0 0] 48) := ⟨_, rfl⟩
  have hsA : WA.heap.size = w.heap.size + 1 := by rw [hWA]; show (w.heap.push _).size = _; simp
  have HR1 : Aside0 (RI W1 (w.heap.size + 1) (w.heap.size + 1) 48 raw (.int .i64 0) (.slice none 0 0) [] (.slice none 0 0) [] []) := ⟨by rw [hW1, ← hsA]; exact start_RI WA 48 raw _⟩
  have HB1 : Aside0 (Below w.heap.size w W1) := ⟨by rw [hW1, hWA]; exact (below_alloc _ _).trans ((below_alloc _ _).mono (below_alloc w (.cells #[.int .i64 0, .string ⟨#[]⟩, .string ⟨#[]⟩, .int .i64 0, .slice none 0 0] 25)).size)⟩
  have HG1 : Aside0 (W1.heap[w.heap.size]? = some (.cells #[.int .i64 0, .string ⟨#[]⟩, .string ⟨#[]⟩, .int .i64 0, .slice none 0 0] 25 (0, 0))) := ⟨by rw [hW1, (below_alloc WA _).block _ (by omega), hWA]; exact heap_alloc_new w _⟩
  clear hm hsA
  go_enter Tryz.func10, Tryz.ntmps10
  go_wp2_with first | rw [← hWA] | rw [← hW1]
  clear hWA hW1
  go_loopg [36] raw.size (fun kq v36 w' => ∃ (p : Nat) (bs : List UInt8) (nds : List Nd) (tv lv : Value) (vs : List Value), Aside0 (kq + p = raw.size ∧ Reach raw p (bs, nds) ∧ RI w' (w.heap.size + 1) (w.heap.size + 1) 48 raw (.int .i64 p) tv bs lv nds vs ∧ Below (w.heap.size + 1) W1 w'))
  case atStart => exact ⟨0, [], [], _, _, _, ⟨by omega, Reach.zero raw, HR1.out, Below.refl _ _⟩⟩
  case round =>
    obtain ⟨p, bs, nds, tv, lv, vs, HI⟩ := hrel
    obtain ⟨hkq, hre, hR, hBW⟩ := HI.out
    have hM := HM.out
    have htx : bs.length ≤ 4 * p := hre.text
    have hnd : nds.length ≤ 2 * p := hre.nodes
    have hle := hre.le
    have HLB : Aside0 (bs.length ≤ 100000) := ⟨by omega⟩
    have HLN : Aside0 (nds.length ≤ 90000) := ⟨by omega⟩
    have HR := Aside0.mk hR
    have HBW := Aside0.mk hBW
    have HRE := Aside0.mk hre
    have HML : Aside0 (raw.size ≤ 1000000) := ⟨by omega⟩
    obtain ⟨x0, x1, x2, x3, xf⟩ := hR.cell
    have p1 : (0 : Int) ≤ (p : Int) := by omega
    by_cases hlt : p < raw.size
    · have c1 : decide ((p : Int) < (raw.size : Int)) = true := decide_eq_true (by omega)
      have c2 : decide (p < raw.size) = true := decide_eq_true hlt
      have q1 : (p : Int) < (raw.size : Int) := by omega
      have b1 := bt_at raw p hlt
      have HLT := Aside0.mk hlt
      have HN : Aside0 (p + 1 ≤ raw.size) := ⟨by omega⟩
      have HKQ := Aside0.mk hkq
      have hstep := hre.step hlt
      obtain ⟨u, hu⟩ : ∃ u, raw.extract (p + 1) raw.size = u := ⟨_, rfl⟩
      have HUX := Aside0.mk hu
      have hul : u.size = raw.size - (p + 1) := by rw [← hu]; exact size_ext _ _ _ (Nat.le_refl _)
      have he1 := (escOf_le u).1
      have hs1 := scalarOf_le u
      have ha1 := arrayOf_le u
      cases h92 : (bt raw p == 92) with
      | true =>
        have hE : bt raw p = 92 := by simpa using h92
        rw [step_esc hE hu] at hstep
        have HST : Aside0 (Reach raw (p + 1 + (escOf u).1) (bs ++ (escOf u).2, nds)) := ⟨hstep⟩
        have HLE : Aside0 (p + 1 + (escOf u).1 ≤ raw.size) := ⟨by omega⟩
        clear hkq hre hR hBW hM htx hnd hle hstep hul he1 hs1 ha1 hu HI hE
        go_wp2_with (go_at_call 18; refine (rescape_any _ (w.heap.size + 1) (w.heap.size + 1) raw p tv lv bs nds vs HR.out HN.out HML.out HLB.out u HUX.out).mono ?_; rintro e w2 ⟨rfl, tv', hR2, hF2⟩; have HR2 := Aside0.mk hR2; have HF2 := Aside0.mk (Fr.below HR.out hF2); clear hR2 hF2)
        go_roundg (raw.size - (p + 1 + (escOf u).1))
        case measure => have := HKQ.out; have := HLE.out; omega
        case rel => exact ⟨p + 1 + (escOf u).1, bs ++ (escOf u).2, nds, tv', lv, vs, ⟨by have := HLE.out; omega, HST.out, HR2.out, HBW.out.trans HF2.out⟩⟩
      | false =>
        cases h36 : (bt raw p == 36) with
        | true =>
          have hE : bt raw p = 36 := by simpa using h36
          have h64 : (bt raw p == 64) = false := by rw [hE]; rfl
          by_cases hj : (scalarOf u).1 = 0
          · have HX := Aside0.mk hj
            rw [step_byte (by simpa using h92) hu (fun h => h.2 hj) (fun h => by rw [hE] at h; exact absurd h.1 (by decide))] at hstep
            have HST : Aside0 (Reach raw (p + 1) (bs ++ [IW.u8 (bt raw p)], nds)) := ⟨hstep⟩
            have HLE : Aside0 (p + 1 ≤ raw.size) := ⟨by omega⟩
            clear hkq hre hR hBW hM htx hnd hle hstep hul he1 hs1 ha1 hu HI hE hj
            have HX8 := Aside0.mk (u8_back raw p)
            have HM1 : Aside0 (bs.length + 1 ≤ maxLen) := ⟨by have := HLB.out; simp only [maxLen]; omega⟩
            have HM2 : Aside0 ((bs.length + 1) * 1 ≤ 140737488355328) := ⟨by have := HLB.out; omega⟩
            obtain ⟨i5, z5, hi, hz, hsz, hby, hzs⟩ := info5
            have b9 : p + 1 ≤ 2000000 := by have := HN.out; have := HML.out; omega
            have wr1 := wrA (K := 1) p 1 rfl b9
            clear b9
            go_wp2_with (go_at_call 19; refine (rscalar_none _ (w.heap.size + 1) (w.heap.size + 1) raw p tv lv bs nds vs HR.out HN.out HML.out HLN.out u HUX.out HX.out).mono ?_; rintro e w2 ⟨rfl, m, hw2⟩; have HR0 := Aside0.mk (Rs.drewN (Rs.refl HR.out) m); rw [← hw2] at HR0; have HFD := Aside0.mk (Fr.below HR.out HR0.out.F); obtain ⟨x0, x1, x2, x3, xf⟩ := HR0.out.R.cell; clear hw2)
            obtain ⟨A, c0, htv⟩ := own_slice HR0.out.R.txt
            subst htv
            have HB2 : Aside0 ((w.heap.size + 1) ≤ w2.heap.size) := ⟨by have := (Array.getElem?_eq_some_iff.1 HR0.out.R.blk).1; have := HR0.out.R.hb; omega⟩
            have HZ := Aside0.mk ((HR0.out.alloc (.cells #[.int .u8 (bt raw p)] 5)).drew)
            obtain ⟨y0, y1, y2, y3, yf⟩ := HZ.out.R.cell
            obtain ⟨j0, j1, j2, j3, jf⟩ := (HR0.out.drew).R.cell
            go_region_law (refine step_append_lies _ rfl (.tmp 18) (.tmp 25) 46 rfl (w.heap.size + 1) 5 i5 z5 1 1 Tryz.underlying46 hi hz hsz hby hzs (by decide) (.slice A bs.length c0) bs.length (byteCells bs) (by simp [Act.eval, Act.put]) HZ.out.R.txt ⟨w2.heap.size, 0, none⟩ 1 1 [.int .u8 (bt raw p)] (by simp [Act.eval, Act.put]) rfl (World.news_of_block (heap_alloc_new w2 _)) (by intro u2 hu2; simp at hu2; subst hu2; rfl) (by decide) HM1.out HM2.out (by have := HB2.out; show _ ≤ (w2.heap.push _).size; simp; omega) _ rfl ?_; intro g cap w1 hown hgrow hat hlt; obtain ⟨z2, zf⟩ := blk_after HZ.out.R hgrow)
            all_goals
              have hgrow2 : (w2.alloc (.cells #[.int .u8 (bt raw p)] 5)).grownBy w1 (Value.slice A bs.length c0).ownBlock := ⟨hgrow.os, hgrow.tape, hgrow.output, hgrow.size, hgrow.block⟩
              have hcells : byteCells [IW.u8 (bt raw p)] = [.int .u8 (bt raw p)] := by unfold byteCells; rw [List.map_singleton, HX8.out]
              rw [← hcells] at hown
              have hT := byte_Rt (more := [IW.u8 (bt raw p)]) (.cells #[.int .u8 (bt raw p)] 5) HR0.out hown hgrow2 hat (by simp)
              obtain ⟨W3, hW3⟩ : ∃ W3, W3 = w1.setCell ⟨w.heap.size + 1, 2, none⟩ (.slice (some ⟨g, 0, none⟩) (bs.length + 1) cap) := ⟨_, rfl⟩
              rw [show ([IW.u8 (bt raw p)] : List UInt8).length = 1 from rfl, ← hW3] at hT
              have HT := Aside0.mk hT
              clear hown hgrow hgrow2 hat hlt hT hcells x0 x1 x2 x3 xf y0 y1 y2 y3 yf j0 j1 j2 j3 jf z2 zf
              rw [← hW3]
              clear hW3
              obtain ⟨y0, y1, y2, y3, yf⟩ := HT.out.R.cell
              go_wp2
              go_roundg (raw.size - (p + 1))
              case measure => have := HKQ.out; have := HLE.out; omega
              case rel =>
                have hF := HT.out.set (.int .i64 (p + 1 : Nat))
                exact ⟨p + 1, bs ++ [IW.u8 (bt raw p)], nds, _, lv, vs, ⟨by have := HLE.out; omega, HST.out, hF.R, HBW.out.trans (Fr.below HR.out hF.F)⟩⟩
          · rw [step_scalar hE hu hj] at hstep
            obtain ⟨j, hjj⟩ : ∃ j, (scalarOf u).1 = j := ⟨_, rfl⟩
            obtain ⟨x, hxx⟩ : ∃ x, (scalarOf u).2 = x := ⟨_, rfl⟩
            have HX : Aside0 (scalarOf u = (j, x)) := ⟨by rw [← hjj, ← hxx]⟩
            rw [hjj, hxx] at hstep
            rw [hjj] at hj hs1
            have HJ := Aside0.mk hj
            have HST : Aside0 (Reach raw (p + 1 + j) ([], fl bs nds ++ [x])) := ⟨hstep⟩
            have HLE : Aside0 (p + 1 + j ≤ raw.size) := ⟨by omega⟩
            clear hkq hre hR hBW hM htx hnd hle hstep hul he1 hs1 ha1 hu HI hE hj hjj hxx
            go_wp2_with (go_at_call 19; refine (rscalar_yes _ (w.heap.size + 1) (w.heap.size + 1) raw p tv lv bs nds vs HR.out HN.out HML.out HLN.out u HUX.out j x HX.out HJ.out).mono ?_; rintro e w2 ⟨rfl, lv', vs', hR2, hF2⟩; have HR2 := Aside0.mk hR2; have HF2 := Aside0.mk (Fr.below HR.out hF2); clear hR2 hF2)
            go_roundg (raw.size - (p + 1 + j))
            case measure => have := HKQ.out; have := HLE.out; omega
            case rel => exact ⟨p + 1 + j, [], fl bs nds ++ [x], _, lv', vs', ⟨by have := HLE.out; omega, HST.out, HR2.out, HBW.out.trans HF2.out⟩⟩
        | false =>
          cases h64 : (bt raw p == 64) with
          | true =>
            have hE : bt raw p = 64 := by simpa using h64
            by_cases hj : (arrayOf u).1 = 0
            · have HX := Aside0.mk hj
              rw [step_byte (by simpa using h92) hu (fun h => by rw [hE] at h; exact absurd h.1 (by decide)) (fun h => h.2 hj)] at hstep
              have HST : Aside0 (Reach raw (p + 1) (bs ++ [IW.u8 (bt raw p)], nds)) := ⟨hstep⟩
              have HLE : Aside0 (p + 1 ≤ raw.size) := ⟨by omega⟩
              clear hkq hre hR hBW hM htx hnd hle hstep hul he1 hs1 ha1 hu HI hE hj
              have HX8 := Aside0.mk (u8_back raw p)
              have HM1 : Aside0 (bs.length + 1 ≤ maxLen) := ⟨by have := HLB.out; simp only [maxLen]; omega⟩
              have HM2 : Aside0 ((bs.length + 1) * 1 ≤ 140737488355328) := ⟨by have := HLB.out; omega⟩
              obtain ⟨i5, z5, hi, hz, hsz, hby, hzs⟩ := info5
              have b9 : p + 1 ≤ 2000000 := by have := HN.out; have := HML.out; omega
              have wr1 := wrA (K := 1) p 1 rfl b9
              clear b9
              go_wp2_with (go_at_call 20; refine (rarray_none _ (w.heap.size + 1) (w.heap.size + 1) raw p tv lv bs nds vs HR.out HN.out HML.out HLN.out u HUX.out HX.out).mono ?_; rintro e w2 ⟨rfl, m, hw2⟩; have HR0 := Aside0.mk (Rs.drewN (Rs.refl HR.out) m); rw [← hw2] at HR0; have HFD := Aside0.mk (Fr.below HR.out HR0.out.F); obtain ⟨x0, x1, x2, x3, xf⟩ := HR0.out.R.cell; clear hw2)
              obtain ⟨A, c0, htv⟩ := own_slice HR0.out.R.txt
              subst htv
              have HB2 : Aside0 ((w.heap.size + 1) ≤ w2.heap.size) := ⟨by have := (Array.getElem?_eq_some_iff.1 HR0.out.R.blk).1; have := HR0.out.R.hb; omega⟩
              have HZ := Aside0.mk ((HR0.out.alloc (.cells #[.int .u8 (bt raw p)] 5)).drew)
              obtain ⟨y0, y1, y2, y3, yf⟩ := HZ.out.R.cell
              obtain ⟨j0, j1, j2, j3, jf⟩ := (HR0.out.drew).R.cell
              go_region_law (refine step_append_lies _ rfl (.tmp 18) (.tmp 25) 46 rfl (w.heap.size + 1) 5 i5 z5 1 1 Tryz.underlying46 hi hz hsz hby hzs (by decide) (.slice A bs.length c0) bs.length (byteCells bs) (by simp [Act.eval, Act.put]) HZ.out.R.txt ⟨w2.heap.size, 0, none⟩ 1 1 [.int .u8 (bt raw p)] (by simp [Act.eval, Act.put]) rfl (World.news_of_block (heap_alloc_new w2 _)) (by intro u2 hu2; simp at hu2; subst hu2; rfl) (by decide) HM1.out HM2.out (by have := HB2.out; show _ ≤ (w2.heap.push _).size; simp; omega) _ rfl ?_; intro g cap w1 hown hgrow hat hlt; obtain ⟨z2, zf⟩ := blk_after HZ.out.R hgrow)
              all_goals
                have hgrow2 : (w2.alloc (.cells #[.int .u8 (bt raw p)] 5)).grownBy w1 (Value.slice A bs.length c0).ownBlock := ⟨hgrow.os, hgrow.tape, hgrow.output, hgrow.size, hgrow.block⟩
                have hcells : byteCells [IW.u8 (bt raw p)] = [.int .u8 (bt raw p)] := by unfold byteCells; rw [List.map_singleton, HX8.out]
                rw [← hcells] at hown
                have hT := byte_Rt (more := [IW.u8 (bt raw p)]) (.cells #[.int .u8 (bt raw p)] 5) HR0.out hown hgrow2 hat (by simp)
                obtain ⟨W3, hW3⟩ : ∃ W3, W3 = w1.setCell ⟨w.heap.size + 1, 2, none⟩ (.slice (some ⟨g, 0, none⟩) (bs.length + 1) cap) := ⟨_, rfl⟩
                rw [show ([IW.u8 (bt raw p)] : List UInt8).length = 1 from rfl, ← hW3] at hT
                have HT := Aside0.mk hT
                clear hown hgrow hgrow2 hat hlt hT hcells x0 x1 x2 x3 xf y0 y1 y2 y3 yf j0 j1 j2 j3 jf z2 zf
                rw [← hW3]
                clear hW3
                obtain ⟨y0, y1, y2, y3, yf⟩ := HT.out.R.cell
                go_wp2
                go_roundg (raw.size - (p + 1))
                case measure => have := HKQ.out; have := HLE.out; omega
                case rel =>
                  have hF := HT.out.set (.int .i64 (p + 1 : Nat))
                  exact ⟨p + 1, bs ++ [IW.u8 (bt raw p)], nds, _, lv, vs, ⟨by have := HLE.out; omega, HST.out, hF.R, HBW.out.trans (Fr.below HR.out hF.F)⟩⟩
            · rw [step_array hE hu hj] at hstep
              obtain ⟨j, hjj⟩ : ∃ j, (arrayOf u).1 = j := ⟨_, rfl⟩
              obtain ⟨x, hxx⟩ : ∃ x, (arrayOf u).2 = x := ⟨_, rfl⟩
              have HX : Aside0 (arrayOf u = (j, x)) := ⟨by rw [← hjj, ← hxx]⟩
              rw [hjj, hxx] at hstep
              rw [hjj] at hj ha1
              have HJ := Aside0.mk hj
              have HST : Aside0 (Reach raw (p + 1 + j) ([], fl bs nds ++ [x])) := ⟨hstep⟩
              have HLE : Aside0 (p + 1 + j ≤ raw.size) := ⟨by omega⟩
              clear hkq hre hR hBW hM htx hnd hle hstep hul he1 hs1 ha1 hu HI hE hj hjj hxx
              go_wp2_with (go_at_call 20; refine (rarray_yes _ (w.heap.size + 1) (w.heap.size + 1) raw p tv lv bs nds vs HR.out HN.out HML.out HLN.out u HUX.out j x HX.out HJ.out).mono ?_; rintro e w2 ⟨rfl, lv', vs', hR2, hF2⟩; have HR2 := Aside0.mk hR2; have HF2 := Aside0.mk (Fr.below HR.out hF2); clear hR2 hF2)
              go_roundg (raw.size - (p + 1 + j))
              case measure => have := HKQ.out; have := HLE.out; omega
              case rel => exact ⟨p + 1 + j, [], fl bs nds ++ [x], _, lv', vs', ⟨by have := HLE.out; omega, HST.out, HR2.out, HBW.out.trans HF2.out⟩⟩
          | false =>
            rw [step_byte (by simpa using h92) hu (fun h => by rw [beq_eq_false_iff_ne] at h36; exact h36 h.1) (fun h => by rw [beq_eq_false_iff_ne] at h64; exact h64 h.1)] at hstep
            have HST : Aside0 (Reach raw (p + 1) (bs ++ [IW.u8 (bt raw p)], nds)) := ⟨hstep⟩
            have HLE : Aside0 (p + 1 ≤ raw.size) := ⟨by omega⟩
            clear hkq hre hR hBW hM htx hnd hle hstep hul he1 hs1 ha1 hu HI
            have HX8 := Aside0.mk (u8_back raw p)
            have HM1 : Aside0 (bs.length + 1 ≤ maxLen) := ⟨by have := HLB.out; simp only [maxLen]; omega⟩
            have HM2 : Aside0 ((bs.length + 1) * 1 ≤ 140737488355328) := ⟨by have := HLB.out; omega⟩
            obtain ⟨i5, z5, hi, hz, hsz, hby, hzs⟩ := info5
            have b9 : p + 1 ≤ 2000000 := by have := HN.out; have := HML.out; omega
            have wr1 := wrA (K := 1) p 1 rfl b9
            clear b9
            go_wp2
            have HR0 := Aside0.mk (Rs.refl HR.out)
            have HFD : Aside0 (Below (w.heap.size + 1) wr wr) := ⟨Below.refl _ _⟩
            obtain ⟨A, c0, htv⟩ := own_slice HR0.out.R.txt
            subst htv
            have HB2 : Aside0 ((w.heap.size + 1) ≤ wr.heap.size) := ⟨by have := (Array.getElem?_eq_some_iff.1 HR0.out.R.blk).1; have := HR0.out.R.hb; omega⟩
            have HZ := Aside0.mk ((HR0.out.alloc (.cells #[.int .u8 (bt raw p)] 5)).drew)
            obtain ⟨y0, y1, y2, y3, yf⟩ := HZ.out.R.cell
            obtain ⟨j0, j1, j2, j3, jf⟩ := (HR0.out.drew).R.cell
            go_region_law (refine step_append_lies _ rfl (.tmp 18) (.tmp 25) 46 rfl (w.heap.size + 1) 5 i5 z5 1 1 Tryz.underlying46 hi hz hsz hby hzs (by decide) (.slice A bs.length c0) bs.length (byteCells bs) (by simp [Act.eval, Act.put]) HZ.out.R.txt ⟨wr.heap.size, 0, none⟩ 1 1 [.int .u8 (bt raw p)] (by simp [Act.eval, Act.put]) rfl (World.news_of_block (heap_alloc_new wr _)) (by intro u2 hu2; simp at hu2; subst hu2; rfl) (by decide) HM1.out HM2.out (by have := HB2.out; show _ ≤ (wr.heap.push _).size; simp; omega) _ rfl ?_; intro g cap w1 hown hgrow hat hlt; obtain ⟨z2, zf⟩ := blk_after HZ.out.R hgrow)
            all_goals
              have hgrow2 : (wr.alloc (.cells #[.int .u8 (bt raw p)] 5)).grownBy w1 (Value.slice A bs.length c0).ownBlock := ⟨hgrow.os, hgrow.tape, hgrow.output, hgrow.size, hgrow.block⟩
              have hcells : byteCells [IW.u8 (bt raw p)] = [.int .u8 (bt raw p)] := by unfold byteCells; rw [List.map_singleton, HX8.out]
              rw [← hcells] at hown
              have hT := byte_Rt (more := [IW.u8 (bt raw p)]) (.cells #[.int .u8 (bt raw p)] 5) HR0.out hown hgrow2 hat (by simp)
              obtain ⟨W3, hW3⟩ : ∃ W3, W3 = w1.setCell ⟨w.heap.size + 1, 2, none⟩ (.slice (some ⟨g, 0, none⟩) (bs.length + 1) cap) := ⟨_, rfl⟩
              rw [show ([IW.u8 (bt raw p)] : List UInt8).length = 1 from rfl, ← hW3] at hT
              have HT := Aside0.mk hT
              clear hown hgrow hgrow2 hat hlt hT hcells x0 x1 x2 x3 xf y0 y1 y2 y3 yf j0 j1 j2 j3 jf z2 zf
              rw [← hW3]
              clear hW3
              obtain ⟨y0, y1, y2, y3, yf⟩ := HT.out.R.cell
              go_wp2
              go_roundg (raw.size - (p + 1))
              case measure => have := HKQ.out; have := HLE.out; omega
              case rel =>
                have hF := HT.out.set (.int .i64 (p + 1 : Nat))
                exact ⟨p + 1, bs ++ [IW.u8 (bt raw p)], nds, _, lv, vs, ⟨by have := HLE.out; omega, HST.out, hF.R, HBW.out.trans (Fr.below HR.out hF.F)⟩⟩
    · have c1 : decide ((p : Int) < (raw.size : Int)) = false := decide_eq_false (by omega)
      have c2 : decide (p < raw.size) = false := decide_eq_false hlt
      have hst := hre.stop (by omega)
      have hop := hre.op
      clear hkq hre hR hBW hM htx hnd hle hlt HI
      have HST := Aside0.mk hst
      have hfl : Calls Tryz.prog 21 #[.pointer (some ⟨w.heap.size + 1, 0, none⟩)] wr fun e w' => e = .returned (.tuple #[]) ∧ ∃ lv' vs', RI w' (w.heap.size + 1) (w.heap.size + 1) 48 raw (.int .i64 p) (.slice none 0 0) [] lv' (fl bs nds) vs' ∧ Below (w.heap.size + 1) wr w' := (flush_any wr (w.heap.size + 1) (w.heap.size + 1) raw (.int .i64 p) tv lv bs nds vs HR.out (by have := HLN.out; omega)).mono (by rintro e w2 ⟨h1, lv', vs', h2, h3⟩; exact ⟨h1, lv', vs', h2, Fr.below HR.out h3⟩)
      have HFL := Aside0.mk hfl
      clear hfl
      obtain ⟨L, hL⟩ : ∃ L, fl bs nds = L := ⟨_, rfl⟩
      rw [hL] at HFL
      by_cases hn0 : nds = []
      · have htop := top_nil (raw := raw) (by rw [← hst]; exact hn0)
        rw [← hst] at htop
        have HTOP := Aside0.mk htop
        by_cases hb0 : bs = []
        · have hL0 : L.length = 0 := by rw [← hL, hn0, hb0]; rfl
          have HSO : Aside0 ((⟨bs.toArray⟩ : ByteArray) = ⟨#[]⟩) := ⟨by rw [hb0]⟩
          have HL0 := Aside0.mk hL0
          clear hst hop hL hn0 hb0 htop hL0
          go_wp2_with (go_at_call 21; refine HFL.out.mono ?_; rintro e w2 ⟨rfl, lv', vs', hR2, hB2⟩; obtain ⟨A2, c2', rfl⟩ := own_slice hR2.out; rw [HL0.out] at hR2; obtain ⟨x0, x1, x2, x3, xf⟩ := hR2.cell; have HR2 := Aside0.mk hR2; have HB2 := Aside0.mk (HBW.out.trans hB2); have hg0 := (HB2.out.block w.heap.size (by omega)).trans HG1.out; obtain ⟨k0, k1, k2, k3, k4, kf⟩ := nd_block hg0; have HG0 := Aside0.mk hg0; clear hR2 hB2 hg0)
          generalize hwf : storeNd w2 w.heap.size 0 0 2 ⟨#[]⟩ 0 (.slice none 0 0) = wf
          have hf2 := storeNd_zero HG0.out 0 2 ⟨#[]⟩ 0 (.slice none 0 0)
          rw [hwf] at hf2
          have h2 := hwf
          unfold storeNd at h2
          simp only [Nat.zero_add] at h2
          rw [h2]
          refine bodyPost_ret (results_nd rfl rfl hf2) rfl ?_
          have hBf : Below w.heap.size w w2 := HB1.out.trans (HB2.out.mono (Nat.le_succ _))
          refine ⟨(.slice none 0 0), by rw [HTOP.out.1, HTOP.out.2.1]; rw [HSO.out], by rw [← hwf]; exact storeNd_below hBf (Nat.le_refl _) _ _ _ _ _ _, ?_⟩
          rw [HTOP.out.2.2, ← hwf]
          exact Lst.nil _ _
        · have hL1 : L = [⟨2, ⟨bs.toArray⟩, 0, []⟩] := by rw [← hL, hn0]; unfold fl; rw [if_neg hb0]; rfl
          have HL1 := Aside0.mk hL1
          have HSO : Aside0 (True) := ⟨trivial⟩
          clear hst hop hL hn0 hb0 htop hL1
          go_wp2_with (go_at_call 21; refine HFL.out.mono ?_; rintro e w2 ⟨rfl, lv', vs', hR2, hB2⟩; obtain ⟨A2, c2', rfl⟩ := own_slice hR2.out; rw [HL1.out] at hR2; obtain ⟨g, cap, u, hge, rfl, hgb, hgl, m0, m1, m2, m3, m4⟩ := one_cells hR2.out hR2.len; obtain rfl : u = .slice none 0 0 := (by rcases hR2.sub 0 _ u rfl rfl with ⟨_, h⟩ | ⟨_, h, _⟩; exact h; exact absurd rfl h); cases hge; clear hgb hgl; obtain ⟨x0, x1, x2, x3, xf⟩ := hR2.cell; have HR2 := Aside0.mk hR2; have HB2 := Aside0.mk (HBW.out.trans hB2); have hg0 := (HB2.out.block w.heap.size (by omega)).trans HG1.out; obtain ⟨k0, k1, k2, k3, k4, kf⟩ := nd_block hg0; have HG0 := Aside0.mk hg0; clear hR2 hB2 hg0)
          generalize hwf : storeNd w2 w.heap.size 0 0 2 ⟨bs.toArray⟩ 0 (.slice none 0 0) = wf
          have hf2 := storeNd_zero HG0.out 0 2 ⟨bs.toArray⟩ 0 (.slice none 0 0)
          rw [hwf] at hf2
          have h2 := hwf
          unfold storeNd at h2
          simp only [Nat.zero_add] at h2
          rw [h2]
          refine bodyPost_ret (results_nd rfl rfl hf2) rfl ?_
          have hBf : Below w.heap.size w w2 := HB1.out.trans (HB2.out.mono (Nat.le_succ _))
          refine ⟨(.slice none 0 0), by rw [HTOP.out.1, HTOP.out.2.1], by rw [← hwf]; exact storeNd_below hBf (Nat.le_refl _) _ _ _ _ _ _, ?_⟩
          rw [HTOP.out.2.2, ← hwf]
          exact Lst.nil _ _
      · have htop := top_some (raw := raw) (by rw [← hst]; exact hn0)
        rw [← hst] at htop
        have htop2 : topOp raw = 3 ∧ topS raw = ⟨#[]⟩ ∧ topL raw = L := by rw [← hL]; exact htop
        have HTOP := Aside0.mk htop2
        have HSO : Aside0 (True) := ⟨trivial⟩
        have hLp := fl_pos (bs := bs) hn0
        rw [hL] at hLp
        have l0 : ((L.length : Int) == 0) = false := by rw [beq_eq_false_iff_ne]; omega
        have l1 : decide ((L.length : Int) = 0) = false := decide_eq_false (by omega)
        have l2 : decide (L.length = 0) = false := decide_eq_false (by omega)
        by_cases hL1 : L.length = 1
        · obtain ⟨x, hx1, hx2⟩ := fl_one (bs := bs) hn0 (by rw [hL]; exact hL1)
          have hLx : L = [x] := by rw [← hL]; exact hx2
          have hxo : x.op ≠ 2 := by obtain ⟨y, hy, hy2⟩ := hop hn0; rw [show ((bs, nds) : St).2 = [x] from hx1] at hy; rw [List.mem_singleton.1 hy] at hy2; exact hy2
          have o1 : (x.op == 2) = false := by rw [beq_eq_false_iff_ne]; exact hxo
          have o2 : decide (x.op = 2) = false := decide_eq_false hxo
          have HLX := Aside0.mk hLx
          clear hst hop hL hn0 htop htop2 hLp hL1 hx1 hx2 hLx hxo l0 l1 l2
          go_wp2_with (go_at_call 21; refine HFL.out.mono ?_; rintro e w2 ⟨rfl, lv', vs', hR2, hB2⟩; obtain ⟨A2, c2', rfl⟩ := own_slice hR2.out; rw [HLX.out] at hR2; obtain ⟨g, cap, u, hge, rfl, hgb, hgl, m0, m1, m2, m3, m4⟩ := one_cells hR2.out hR2.len; cases hge; clear hgb hgl; obtain ⟨x0, x1, x2, x3, xf⟩ := hR2.cell; have HR2 := Aside0.mk hR2; have HB2 := Aside0.mk (HBW.out.trans hB2); have hg0 := (HB2.out.block w.heap.size (by omega)).trans HG1.out; obtain ⟨k0, k1, k2, k3, k4, kf⟩ := nd_block hg0; have HG0 := Aside0.mk hg0; clear hR2 hB2 hg0)
          generalize hwf : storeNd w2 w.heap.size 0 0 3 ⟨#[]⟩ 0 (.slice (some ⟨g, 0, none⟩) 1 c2') = wf
          have hf2 := storeNd_zero HG0.out 0 3 ⟨#[]⟩ 0 (.slice (some ⟨g, 0, none⟩) 1 c2')
          rw [hwf] at hf2
          have h2 := hwf
          unfold storeNd at h2
          simp only [Nat.zero_add] at h2
          rw [h2]
          refine bodyPost_ret (results_nd rfl rfl hf2) rfl ?_
          have hBf : Below w.heap.size w w2 := HB1.out.trans (HB2.out.mono (Nat.le_succ _))
          refine ⟨(.slice (some ⟨g, 0, none⟩) 1 c2'), by rw [HTOP.out.1, HTOP.out.2.1], by rw [← hwf]; exact storeNd_below hBf (Nat.le_refl _) _ _ _ _ _ _, ?_⟩
          rw [HTOP.out.2.2, ← hwf]
          rw [HLX.out]; exact HR2.out.lst.ge (Nat.le_succ _) (fun k hk => storeNd_other (by omega))
        · have l3 : ((L.length : Int) == 1) = false := by rw [beq_eq_false_iff_ne]; omega
          have l4 : decide ((L.length : Int) = 1) = false := decide_eq_false (by omega)
          have l5 : decide (L.length = 1) = false := decide_eq_false hL1
          clear hst hop hL hn0 htop htop2 hLp hL1
          go_wp2_with (go_at_call 21; refine HFL.out.mono ?_; rintro e w2 ⟨rfl, lv', vs', hR2, hB2⟩; obtain ⟨A2, c2', rfl⟩ := own_slice hR2.out; obtain ⟨x0, x1, x2, x3, xf⟩ := hR2.cell; have HR2 := Aside0.mk hR2; have HB2 := Aside0.mk (HBW.out.trans hB2); have hg0 := (HB2.out.block w.heap.size (by omega)).trans HG1.out; obtain ⟨k0, k1, k2, k3, k4, kf⟩ := nd_block hg0; have HG0 := Aside0.mk hg0; clear hR2 hB2 hg0)
          generalize hwf : storeNd w2 w.heap.size 0 0 3 ⟨#[]⟩ 0 (.slice A2 L.length c2') = wf
          have hf2 := storeNd_zero HG0.out 0 3 ⟨#[]⟩ 0 (.slice A2 L.length c2')
          rw [hwf] at hf2
          have h2 := hwf
          unfold storeNd at h2
          simp only [Nat.zero_add] at h2
          rw [h2]
          refine bodyPost_ret (results_nd rfl rfl hf2) rfl ?_
          have hBf : Below w.heap.size w w2 := HB1.out.trans (HB2.out.mono (Nat.le_succ _))
          refine ⟨(.slice A2 L.length c2'), by rw [HTOP.out.1, HTOP.out.2.1], by rw [← hwf]; exact storeNd_below hBf (Nat.le_refl _) _ _ _ _ _ _, ?_⟩
          rw [HTOP.out.2.2, ← hwf]
          exact HR2.out.lst.ge (Nat.le_succ _) (fun k hk => storeNd_other (by omega))
end Go.Proofs.YtmifmmpbmcfmpaaGreatDoor.IW
