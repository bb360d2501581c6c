/-
  The walk of TreeInters: it returns true, and nothing that was is changed.
-/
import Derived.Test.YtmifmmpbmcfmpaaGreatDoorKf
import Derived.Test.YtmifmmpbmcfmpaaGreatDoorK
set_option linter.unusedVariables false
set_option linter.unusedSimpArgs false
namespace Go.Proofs.YtmifmmpbmcfmpaaGreatDoor.IW
open Go Go.S2 Go.Proofs.YtmifmmpbmcfmpaaGreatDoor.S2T Go.RowKit
set_option maxRecDepth 100000

theorem laid_below {C : Ctx} {w w1 : World} {need : List (Nat × O)} (hl : Laid C w need) (hb : Below w.heap.size w w1) : Laid C w1 need := by
  intro x hx
  obtain ⟨cs, e, arr, e', fr, h1, h2, h3⟩ := hl x hx
  exact ⟨cs, e, arr, e', fr, h1, by rw [hb.block _ (Array.getElem?_eq_some_iff.1 h2).1]; exact h2, h3⟩
theorem known_any (w : World) (hl : Laid C4 w [(0, glob0)]) : Calls Tryz.prog 4 #[] w fun e w' => e = .returned (.bool true) ∧ Below w.heap.size w w' :=
  (known_calls hl).mono fun e w' ⟨h1, h2, h3, h4, h5, h6⟩ => ⟨h1, h4, h5, h6, h3, h2⟩
theorem Below.then {w w1 w2 : World} (h : Below w.heap.size w w1) (k : Below w1.heap.size w1 w2) : Below w.heap.size w w2 := h.trans (k.mono h.size)

set_option maxHeartbeats 2000000 in
theorem law_any (raw : ByteArray) (w : World) (hl : Laid C4 w [(0, glob0)]) (hv : EV w) : Calls Tryz.prog 3 #[.string raw] w fun e w' => e = .returned (.bool true) ∧ Below w.heap.size w w' := by
  have HL := Aside0.mk hl
  have HV := Aside0.mk hv
  clear hl hv
  by_cases hs : raw.size > 20000
  · have c1 : decide ((raw.size : Int) > 20000) = true := decide_eq_true (by omega)
    have c2 : decide (20000 < raw.size) = true := decide_eq_true hs
    clear hs
    go_enter Tryz.func3, Tryz.ntmps3
    go_wp2_with (go_at_call 4; refine (known_any _ HL.out).mono ?_; rintro e w2 ⟨rfl, hB⟩)
    go_ret
    exact ⟨rfl, hB⟩
  · have c1 : decide ((raw.size : Int) > 20000) = false := decide_eq_false (by omega)
    have c2 : decide (20000 < raw.size) = false := decide_eq_false hs
    obtain ⟨l, hl⟩ : ∃ l, iL raw = l := ⟨_, rfl⟩
    obtain ⟨op, hop⟩ : ∃ op, iOp raw = op := ⟨_, rfl⟩
    obtain ⟨s, hss⟩ : ∃ s, iS raw = s := ⟨_, rfl⟩
    obtain ⟨er, her⟩ : ∃ er, iE raw = er := ⟨_, rfl⟩
    obtain ⟨hll, hlx⟩ := iL_small raw
    rw [hl] at hll hlx
    have R := rinter_any raw
    have T := tinter_any raw
    rw [hl, hop, hss, her] at R T
    unfold ndV at R T
    have HR := Aside0.mk R
    have HT := Aside0.mk T
    have HLL := Aside0.mk hll
    have HLX := Aside0.mk hlx
    clear hs R T hl hop hss her hll hlx
    go_enter Tryz.func3, Tryz.ntmps3
    go_wp2_with first | (rw [← hW2]; clear hW2) | (rw [← hW4]; clear hW4) | (go_at_call 5; refine (HR.out _).mono ?_; rintro e w1 ⟨v1, rfl, hB1, hL1⟩; obtain ⟨A1, n1, k1, hv1⟩ := hL1.form; subst hv1; have HL1 := Aside0.mk hL1; obtain ⟨W2, hW2⟩ : ∃ W2, W2 = w1.alloc (.cells #[.int .i64 op, .string s, .string ⟨#[]⟩, .int .i64 0, .slice A1 n1 k1] 25) := ⟨_, rfl⟩; have hb2 := below_alloc w1 (.cells #[.int .i64 op, .string s, .string ⟨#[]⟩, .int .i64 0, .slice A1 n1 k1] 25); have hg1 := heap_alloc_new w1 (.cells #[.int .i64 op, .string s, .string ⟨#[]⟩, .int .i64 0, .slice A1 n1 k1] 25); rw [← hW2] at hb2 hg1; have HB2 := Aside0.mk (Below.then hB1 hb2); have HB12 := Aside0.mk hb2; have HG1 := Aside0.mk hg1; clear hB1 hL1 hb2 hg1) | (go_at_call 6; refine (HT.out _ (HV.out.below HB2.out)).mono ?_; rintro e w3 ⟨v3, rfl, hB3, hL3⟩; obtain ⟨A3, n3, k3, hv3⟩ := hL3.form; subst hv3; have HL3 := Aside0.mk hL3; obtain ⟨W4, hW4⟩ : ∃ W4, W4 = w3.alloc (.cells #[.int .i64 op, .string s, .string ⟨#[]⟩, .int .i64 0, .slice A3 n3 k3] 25) := ⟨_, rfl⟩; have hb4 := below_alloc w3 (.cells #[.int .i64 op, .string s, .string ⟨#[]⟩, .int .i64 0, .slice A3 n3 k3] 25); have hg3 := heap_alloc_new w3 (.cells #[.int .i64 op, .string s, .string ⟨#[]⟩, .int .i64 0, .slice A3 n3 k3] 25); rw [← hW4] at hb4 hg3; have HB34 := Aside0.mk hb4; have HB24 := Aside0.mk (Below.then hB3 hb4); have HG3 := Aside0.mk hg3; obtain ⟨x0, x1, x2, x3, x4, xf⟩ := nd_block hg3; obtain ⟨y0, y1, y2, y3, y4, yf⟩ := nd_block ((HB24.out.block w1.heap.size (Array.getElem?_eq_some_iff.1 HG1.out).1).trans HG1.out); clear hB3 hL3 hb4 hg3) | (go_at_call 7; refine (show Calls Tryz.prog 7 #[.agg #[.int .i64 op, .string s, .string ⟨#[]⟩, .int .i64 0, .slice A3 n3 k3], .agg #[.int .i64 op, .string s, .string ⟨#[]⟩, .int .i64 0, .slice A1 n1 k1]] W4 _ from same_tops op s 0 HLL.out HLX.out (HL3.out.congr fun k hk => HB34.out.block k hk) (HL1.out.congr fun k hk => (Below.then HB12.out HB24.out).block k hk)).mono ?_; rintro e w5 ⟨rfl, hB5⟩; have HB5 := Aside0.mk (Below.then (Below.then HB2.out HB24.out) hB5); clear hB5) | (go_at_call 4; refine (known_any _ (laid_below HL.out HB5.out)).mono ?_; rintro e w6 ⟨rfl, hB6⟩; have HB6 := Aside0.mk (Below.then HB5.out hB6); clear hB6)
    go_ret
    exact ⟨rfl, HB6.out⟩
end Go.Proofs.YtmifmmpbmcfmpaaGreatDoor.IW
