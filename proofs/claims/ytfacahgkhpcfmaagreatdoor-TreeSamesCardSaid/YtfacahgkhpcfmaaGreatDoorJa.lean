/-
  Contracts: the reference's Same and SameNode, the program's Same with slices.EqualFunc and its closure: they answer whether two trees are equal.
-/
import Derived.Test.YtfacahgkhpcfmaaGreatDoorPTreeSamesx4
import Derived.WalkKit
import Derived.StillTailTactics
set_option linter.unusedVariables false
set_option linter.unusedSimpArgs false
namespace Go.Proofs.YtfacahgkhpcfmaaGreatDoor.JW
open Go Go.RowKit Go.Proofs.YtfacahgkhpcfmaaGreatDoorW.PrintWords Go.Proofs.YtfacahgkhpcfmaaGreatDoorW.PrintLast Go.Proofs.YtfacahgkhpcfmaaGreatDoorW.PrintMore Go.Proofs.YtfacahgkhpcfmaaGreatDoor.PTreeSames
set_option maxRecDepth 100000

mutual
def eqT : S31 → S31 → Bool
  | ⟨a, b, c, d, l⟩, ⟨a', b', c', d', l'⟩ => (a == a') && ((b.toList == b'.toList) && ((c.toList == c'.toList) && ((d == d') && eqL l l')))
def eqL : List S31 → List S31 → Bool
  | [], [] => true
  | x :: xs, y :: ys => eqT x y && eqL xs ys
  | [], _ :: _ => false
  | _ :: _, [] => false
end

theorem eqT_eq (x y : S31) : eqT x y = ((x.f0 == y.f0) && ((x.f1.toList == y.f1.toList) && ((x.f2.toList == y.f2.toList) && ((x.f3 == y.f3) && eqL x.f4 y.f4)))) := by
  cases x; cases y; simp only [eqT]

def nodeV (x : S31) (A : Option Addr) (c : Nat) : Value := .agg #[.int .i64 x.f0, .string x.f1, .string x.f2, .int .i64 x.f3, .slice A x.f4.length c]

/-- What the reference's Same is shown to do, for lists smaller than n. -/
def SameTo (n : Nat) (g : FuncId) : Prop := ∀ (A0 : Option Addr) (c0 : Nat) (l0 : List S31) (A1 : Option Addr) (c1 : Nat) (l1 : List S31) (w : World), SizeOf.sizeOf l0 < n → Kd.C k31 w A0 l0.length l0 → l0.length ≤ c0 → Kd.C k31 w A1 l1.length l1 → l1.length ≤ c1 →
    Calls Tryz.prog g #[.slice A0 l0.length c0, .slice A1 l1.length c1] w fun e w' => e = .returned (.bool (eqL l0 l1)) ∧ Below w.heap.size w w'

theorem SameTo.at_ {n : Nat} {g : FuncId} (h : SameTo n g) (A0 : Option Addr) (c0 : Nat) (l0 : List S31) (A1 : Option Addr) (c1 : Nat) (l1 : List S31) (w : World) (hs : SizeOf.sizeOf l0 < n) (h0 : Kd.C k31 w A0 l0.length l0) (g0 : l0.length ≤ c0) (h1 : Kd.C k31 w A1 l1.length l1) (g1 : l1.length ≤ c1) :
    Calls Tryz.prog g #[.slice A0 l0.length c0, .slice A1 l1.length c1] w fun e w' => e = .returned (.bool (eqL l0 l1)) ∧ Below w.heap.size w w' := h A0 c0 l0 A1 c1 l1 w hs h0 g0 h1 g1

set_option maxHeartbeats 8000000 in
theorem sameNode_step (n : Nat) (ih : SameTo n 14) (x y : S31) (hx : SizeOf.sizeOf x.f4 < n) (A B : Option Addr) (c d : Nat) (w : World) (h1 : Kd.C k31 w A x.f4.length x.f4) (h2 : x.f4.length ≤ c) (h3 : Kd.C k31 w B y.f4.length y.f4) (h4 : y.f4.length ≤ d) :
    Calls Tryz.prog 17 #[nodeV x A c, nodeV y B d] w fun e w' => e = .returned (.bool (eqT x y)) ∧ Below w.heap.size w w' := by
  rw [eqT_eq]
  have H1 := Aside0.mk h1
  have H2 := Aside0.mk h2
  have H3 := Aside0.mk h3
  have H4 := Aside0.mk h4
  have HX := Aside0.mk hx
  have IH := Aside0.mk ih
  clear h1 h2 h3 h4 hx ih
  have HB := Aside0.mk (Below.refl w.heap.size w)
  unfold nodeV
  by_cases c0 : x.f0 = y.f0
  · have c0b : (x.f0 == y.f0) = true := beq_iff_eq.mpr c0
    clear c0
    by_cases c1 : x.f1.toList = y.f1.toList
    · have c1b : (x.f1.toList == y.f1.toList) = true := beq_iff_eq.mpr c1
      clear c1
      by_cases c2 : x.f2.toList = y.f2.toList
      · have c2b : (x.f2.toList == y.f2.toList) = true := beq_iff_eq.mpr c2
        clear c2
        by_cases c3 : x.f3 = y.f3
        · have c3b : (x.f3 == y.f3) = true := beq_iff_eq.mpr c3
          clear c3
          go_enter Tryz.func17, Tryz.ntmps17
          go_wp2_with (go_at_call 14; (with_reducible refine (SameTo.at_ IH.out A c x.f4 B d y.f4 _ HX.out ?s1 H2.out ?s3 H4.out).mono ?_); (case s1 => repeat (first | exact H1.out | (with_reducible refine Kd.C_alloc ?_ _) | (with_reducible refine Kd.C_drewN ?_ _) | (with_reducible refine Kd.C_drew ?_))); (case s3 => repeat (first | exact H3.out | (with_reducible refine Kd.C_alloc ?_ _) | (with_reducible refine Kd.C_drewN ?_ _) | (with_reducible refine Kd.C_drew ?_))); rintro e w6 ⟨rfl, hb⟩; have HB2 := Aside0.mk (below_step (by repeat (first | (with_reducible first | exact HB.out | apply below_alloc | apply pw_below_drewN | apply below_drew1) | exact HB.out)) hb); clear hb)
          go_ret
          exact ⟨by simp [*], by repeat (first | (with_reducible first | exact HB2.out | apply below_alloc | apply pw_below_drewN | apply below_drew1) | exact HB2.out)⟩
        · have c3b : (x.f3 == y.f3) = false := beq_eq_false_iff_ne.mpr c3
          clear c3
          go_enter Tryz.func17, Tryz.ntmps17
          go_wp2
          go_ret
          exact ⟨by simp [*], by repeat (first | (with_reducible first | exact HB.out | apply below_alloc | apply pw_below_drewN | apply below_drew1) | exact HB.out)⟩
      · have c2b : (x.f2.toList == y.f2.toList) = false := beq_eq_false_iff_ne.mpr c2
        clear c2
        go_enter Tryz.func17, Tryz.ntmps17
        go_wp2
        go_ret
        exact ⟨by simp [*], by repeat (first | (with_reducible first | exact HB.out | apply below_alloc | apply pw_below_drewN | apply below_drew1) | exact HB.out)⟩
    · have c1b : (x.f1.toList == y.f1.toList) = false := beq_eq_false_iff_ne.mpr c1
      clear c1
      go_enter Tryz.func17, Tryz.ntmps17
      go_wp2
      go_ret
      exact ⟨by simp [*], by repeat (first | (with_reducible first | exact HB.out | apply below_alloc | apply pw_below_drewN | apply below_drew1) | exact HB.out)⟩
  · have c0b : (x.f0 == y.f0) = false := beq_eq_false_iff_ne.mpr c0
    clear c0
    go_enter Tryz.func17, Tryz.ntmps17
    go_wp2
    go_ret
    exact ⟨by simp [*], by repeat (first | (with_reducible first | exact HB.out | apply below_alloc | apply pw_below_drewN | apply below_drew1) | exact HB.out)⟩

set_option maxHeartbeats 8000000 in
theorem closure_step (n : Nat) (ih : SameTo n 13) (x y : S31) (hx : SizeOf.sizeOf x.f4 < n) (A B : Option Addr) (c d : Nat) (w : World) (h1 : Kd.C k31 w A x.f4.length x.f4) (h2 : x.f4.length ≤ c) (h3 : Kd.C k31 w B y.f4.length y.f4) (h4 : y.f4.length ≤ d) :
    Calls Tryz.prog 29 #[nodeV x A c, nodeV y B d] w fun e w' => e = .returned (.bool (eqT x y)) ∧ Below w.heap.size w w' := by
  rw [eqT_eq]
  have H1 := Aside0.mk h1
  have H2 := Aside0.mk h2
  have H3 := Aside0.mk h3
  have H4 := Aside0.mk h4
  have HX := Aside0.mk hx
  have IH := Aside0.mk ih
  clear h1 h2 h3 h4 hx ih
  have HB := Aside0.mk (Below.refl w.heap.size w)
  unfold nodeV
  by_cases c0 : x.f0 = y.f0
  · have c0b : (x.f0 == y.f0) = true := beq_iff_eq.mpr c0
    clear c0
    by_cases c1 : x.f1.toList = y.f1.toList
    · have c1b : (x.f1.toList == y.f1.toList) = true := beq_iff_eq.mpr c1
      clear c1
      by_cases c2 : x.f2.toList = y.f2.toList
      · have c2b : (x.f2.toList == y.f2.toList) = true := beq_iff_eq.mpr c2
        clear c2
        by_cases c3 : x.f3 = y.f3
        · have c3b : (x.f3 == y.f3) = true := beq_iff_eq.mpr c3
          clear c3
          go_enter Tryz.func29, Tryz.ntmps29
          go_wp2_with (go_at_call 13; (with_reducible refine (SameTo.at_ IH.out A c x.f4 B d y.f4 _ HX.out ?s1 H2.out ?s3 H4.out).mono ?_); (case s1 => repeat (first | exact H1.out | (with_reducible refine Kd.C_alloc ?_ _) | (with_reducible refine Kd.C_drewN ?_ _) | (with_reducible refine Kd.C_drew ?_))); (case s3 => repeat (first | exact H3.out | (with_reducible refine Kd.C_alloc ?_ _) | (with_reducible refine Kd.C_drewN ?_ _) | (with_reducible refine Kd.C_drew ?_))); rintro e w6 ⟨rfl, hb⟩; have HB2 := Aside0.mk (below_step (by repeat (first | (with_reducible first | exact HB.out | apply below_alloc | apply pw_below_drewN | apply below_drew1) | exact HB.out)) hb); clear hb)
          go_ret
          exact ⟨by simp [*], by repeat (first | (with_reducible first | exact HB2.out | apply below_alloc | apply pw_below_drewN | apply below_drew1) | exact HB2.out)⟩
        · have c3b : (x.f3 == y.f3) = false := beq_eq_false_iff_ne.mpr c3
          clear c3
          go_enter Tryz.func29, Tryz.ntmps29
          go_wp2
          go_ret
          exact ⟨by simp [*], by repeat (first | (with_reducible first | exact HB.out | apply below_alloc | apply pw_below_drewN | apply below_drew1) | exact HB.out)⟩
      · have c2b : (x.f2.toList == y.f2.toList) = false := beq_eq_false_iff_ne.mpr c2
        clear c2
        go_enter Tryz.func29, Tryz.ntmps29
        go_wp2
        go_ret
        exact ⟨by simp [*], by repeat (first | (with_reducible first | exact HB.out | apply below_alloc | apply pw_below_drewN | apply below_drew1) | exact HB.out)⟩
    · have c1b : (x.f1.toList == y.f1.toList) = false := beq_eq_false_iff_ne.mpr c1
      clear c1
      go_enter Tryz.func29, Tryz.ntmps29
      go_wp2
      go_ret
      exact ⟨by simp [*], by repeat (first | (with_reducible first | exact HB.out | apply below_alloc | apply pw_below_drewN | apply below_drew1) | exact HB.out)⟩
  · have c0b : (x.f0 == y.f0) = false := beq_eq_false_iff_ne.mpr c0
    clear c0
    go_enter Tryz.func29, Tryz.ntmps29
    go_wp2
    go_ret
    exact ⟨by simp [*], by repeat (first | (with_reducible first | exact HB.out | apply below_alloc | apply pw_below_drewN | apply below_drew1) | exact HB.out)⟩

end Go.Proofs.YtfacahgkhpcfmaaGreatDoor.JW
