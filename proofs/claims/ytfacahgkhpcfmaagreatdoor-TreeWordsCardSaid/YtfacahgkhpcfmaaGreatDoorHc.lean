/-
  The walk of TreeWords: it returns true, and nothing that was is changed.
-/
import Derived.Test.YtfacahgkhpcfmaaGreatDoorHb
set_option linter.unusedVariables false
set_option linter.unusedSimpArgs false
namespace Go.Proofs.YtfacahgkhpcfmaaGreatDoor.HW
open Go Go.S2 Go.Proofs.YtfacahgkhpcfmaaGreatDoor.S2T Go.RowKit Go.Proofs.YtfacahgkhpcfmaaGreatDoorW.PrintWords Go.Proofs.YtfacahgkhpcfmaaGreatDoor.PTreeWords
set_option maxRecDepth 100000

theorem known_any (w : World) (hl : Laid C1 w [(0, glob0)]) : Calls Tryz.prog 5 #[] w fun e w' => e = .returned (.bool true) ∧ Below w.heap.size w w' :=
  (known_calls hl).mono fun e w' ⟨h1, h2, h3, h4, h5, h6⟩ => ⟨h1, h4, h5, h6, h3, h2⟩

set_option maxHeartbeats 8000000 in
theorem law_any (s : ByteArray) (w : World) (hl : Laid C1 w [(0, glob0)]) :
    Calls Tryz.prog 3 #[.string s] w fun e w' => e = .returned (.bool true) ∧ Below w.heap.size w w' := by
  have HL := Aside0.mk hl
  clear hl
  have HB := Aside0.mk (Below.refl w.heap.size w)
  by_cases hs : (6000 : Int) < (s.size : Int)
  · go_enter Tryz.func3, Tryz.ntmps3
    go_wp2_with (go_at_call 5; refine (known_any _ HL.out).mono ?_; rintro e w' ⟨rfl, hb⟩)
    go_ret
    exact ⟨rfl, hb⟩
  · have hs' : (s.size : Int) ≤ 6000 := by omega
    obtain ⟨b, c, hb0, hc0, hn0⟩ := isName_eq s (by omega)
    have har := arity_eq s 24094
    have H1 := Aside0.mk hb0
    have H2 := Aside0.mk hc0
    have H3 := Aside0.mk hn0
    have H4 := Aside0.mk har
    clear hb0 hc0 hn0 har
    go_enter Tryz.func3, Tryz.ntmps3
    go_wp2_with (first
      | (go_at_call 6; (with_reducible refine (motleyref04_Arity.calls 24100 s _ _ _ _ H4.out).mono ?_); rintro e w' ⟨rfl, ⟨nd, rfl⟩⟩)
      | (go_at_call 7; (with_reducible refine (arity_any s _).mono ?_); rintro e w' ⟨rfl, hb⟩; have HB1 := Aside0.mk (below_step (by (repeat (first | exact HB.out | apply below_alloc | apply pw_below_drewN))) hb); clear HB hb)
      | (go_at_call 8; (with_reducible refine (isname_any s _ 24100 b c (laid_below HL.out ?hb1) H1.out H2.out).mono ?_); (case hb1 => (repeat (first | exact HB1.out | apply below_alloc | apply pw_below_drewN))); rintro e w' ⟨rfl, hb⟩; have HB2 := Aside0.mk (below_step (by (repeat (first | exact HB1.out | apply below_alloc | apply pw_below_drewN))) hb); clear HB1 hb)
      | (go_at_call 9; (with_reducible refine (motleyref04_IsName.calls 24100 s _ _ H3.out).mono ?_); rintro e w' ⟨rfl, hb⟩; have HB3 := Aside0.mk (below_step (by (repeat (first | exact HB2.out | apply below_alloc | apply pw_below_drewN))) hb); clear HB2 hb)
      | (go_at_call 5; (with_reducible refine (known_any _ (laid_below HL.out ?hb2)).mono ?_); (case hb2 => (repeat (first | exact HB3.out | apply below_alloc | apply pw_below_drewN))); rintro e w' ⟨rfl, hb⟩; have HB4 := Aside0.mk (below_step (by (repeat (first | exact HB3.out | apply below_alloc | apply pw_below_drewN))) hb); clear HB3 hb))
    go_ret
    exact ⟨rfl, by (repeat (first | exact HB4.out | apply below_alloc | apply pw_below_drewN))⟩
end Go.Proofs.YtfacahgkhpcfmaaGreatDoor.HW
