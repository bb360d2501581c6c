/-
  Contracts: the reference's Same, the program's Same: whether two lists of trees are equal.
-/
import Derived.Test.YtfacahgkhpcfmaaGreatDoorJa
set_option linter.unusedVariables false
set_option linter.unusedSimpArgs false
namespace Go.Proofs.YtfacahgkhpcfmaaGreatDoor.JW
open Go Go.RowKit Go.Proofs.YtfacahgkhpcfmaaGreatDoorW.PrintWords Go.Proofs.YtfacahgkhpcfmaaGreatDoorW.PrintLast Go.Proofs.YtfacahgkhpcfmaaGreatDoorW.PrintMore Go.Proofs.YtfacahgkhpcfmaaGreatDoor.PTreeSames
set_option maxRecDepth 100000

theorem eqL_len : ∀ (l l' : List S31), l.length ≠ l'.length → eqL l l' = false
  | [], [], h => absurd rfl h
  | [], _ :: _, _ => by simp [eqL]
  | _ :: _, [], _ => by simp [eqL]
  | x :: xs, y :: ys, h => by
    simp only [eqL]
    rw [eqL_len xs ys (by simpa using h), Bool.and_false]

theorem eqL_drop (l l' : List S31) (i : Int) (k : Nat) (hi : i = k) (h : k < l.length) (h' : k < l'.length) :
    eqL (l.drop k) (l'.drop k) = (eqT (rd_T31 l i) (rd_T31 l' i) && eqL (l.drop (k + 1)) (l'.drop (k + 1))) := by
  subst hi
  rw [List.drop_eq_getElem_cons h, List.drop_eq_getElem_cons h']
  simp only [eqL, rd_T31, Int.toNat_natCast, List.getD_eq_getElem?_getD, List.getElem?_eq_getElem h, List.getElem?_eq_getElem h', Option.getD_some]

theorem size_rd (l : List S31) (i : Int) (k n : Nat) (hi : i = k) (h : k < l.length) (hn : SizeOf.sizeOf l < n + 1) : SizeOf.sizeOf (rd_T31 l i).f4 < n := by
  subst hi
  have e : rd_T31 l k = l[k] := by simp [rd_T31, List.getElem?_eq_getElem h]
  rw [e]
  have h1 := List.sizeOf_lt_of_mem (List.getElem_mem h)
  have h2 : SizeOf.sizeOf (l[k]).f4 < SizeOf.sizeOf l[k] := by
    generalize l[k] = x
    cases x
    simp
    omega
  omega

theorem sameNode_at {n : Nat} (ih : SameTo n 14) (x y : S31) (b : Bool) (hb : eqT x y = b) (hx : SizeOf.sizeOf x.f4 < n) (A B : Option Addr) (c d : Nat) (w : World) (h1 : Kd.C k31 w A x.f4.length x.f4) (h2 : x.f4.length ≤ c) (h3 : Kd.C k31 w B y.f4.length y.f4) (h4 : y.f4.length ≤ d) :
    Calls Tryz.prog 17 #[.agg #[.int .i64 x.f0, .string x.f1, .string x.f2, .int .i64 x.f3, .slice A x.f4.length c], .agg #[.int .i64 y.f0, .string y.f1, .string y.f2, .int .i64 y.f3, .slice B y.f4.length d]] w fun e w' => e = .returned (.bool b) ∧ Below w.heap.size w w' := by
  subst hb
  exact sameNode_step n ih x y hx A B c d w h1 h2 h3 h4

set_option maxHeartbeats 8000000 in
theorem same_step (n : Nat) (ih : SameTo n 14) : SameTo (n + 1) 14 := by
  intro A0 c0 l0 A1 c1 l1 w hs hr0 hc0 hr1 hc1
  have HR0 := Aside0.mk hr0
  have HC0 := Aside0.mk hc0
  have HR1 := Aside0.mk hr1
  have HC1 := Aside0.mk hc1
  have HS := Aside0.mk hs
  have IH := Aside0.mk ih
  have HL := Aside0.mk hr0.2.1
  clear hr0 hc0 hr1 hc1 hs ih
  have HB := Aside0.mk (Below.refl w.heap.size w)
  by_cases hlen : l0.length = l1.length
  · have hlb : ((l0.length : Int) != (l1.length : Int)) = false := by simp [hlen]
    have HLEN := Aside0.mk hlen
    clear hlen
    have H0 : Aside0 (eqL l0 l1 = eqL (l0.drop 0) (l1.drop 0)) := ⟨by simp⟩
    go_enter Tryz.func14, Tryz.ntmps14
    go_wp2
    go_loopg [5] l0.length (fun kq v5 w' => ∃ (i : Int), v5 = .int .i64 i ∧ Aside0 (∃ k : Nat, i = k ∧ kq + k = l0.length ∧ eqL l0 l1 = eqL (l0.drop k) (l1.drop k)) ∧ Aside0 (Below w.heap.size w w'))
    case atStart => exact ⟨0, rfl, ⟨0, rfl, rfl, H0.out⟩, HB⟩
    case round =>
      clear H0
      obtain ⟨i, rfl, HI, HB⟩ := hrel
      obtain ⟨k, hik, hkq, heq⟩ := HI.out
      cases gk with
      | zero =>
        have c2b0 : decide (i < (l0.length : Int)) = false := decide_eq_false (by omega)
        have he : eqL l0 l1 = true := by
          rw [heq]
          have hl := HLEN.out
          rw [List.drop_of_length_le (by omega), List.drop_of_length_le (by omega)]
          simp [eqL]
        have HE := Aside0.mk he
        clear hik hkq heq HI he
        go_wp2
        go_ret
        exact ⟨by rw [HE.out]; rfl, by repeat (first | (with_reducible first | exact HB.out | apply below_alloc | apply pw_below_drewN | apply below_drew1) | exact HB.out)⟩
      | succ k1 =>
        have hl := HLEN.out
        have hmx := HL.out
        have c2b0 : decide (i < (l0.length : Int)) = true := decide_eq_true (by omega)
        have p159 : 0 ≤ (i : Int) := by omega
        have q159 : i < (l0.length : Int) := by omega
        have q160 : i < (l1.length : Int) := by omega
        have HD := Aside0.mk (eqL_drop l0 l1 i k hik (by omega) (by omega))
        have HZ := Aside0.mk (size_rd l0 i k n hik (by omega) HS.out)
        have HW : Aside0 (wrap64 (i + 1) = ((k + 1 : Nat) : Int)) := ⟨by unfold wrap64; omega⟩
        have HQ : Aside0 (k1 + (k + 1) = l0.length) := ⟨by omega⟩
        have HE := Aside0.mk heq
        clear hik hkq heq HI hl hmx
        obtain ⟨ad, A4, c4, e159, hx0, hx1, hx2, hx3, hx4, hl4, hi4⟩ := at_T31 HR0.out i p159 q159
        obtain ⟨bd, B4, d4, e160, hy0, hy1, hy2, hy3, hy4, hl5, hi5⟩ := at_T31 HR1.out i p159 q160
        cases e159
        cases e160
        replace hx0 := (HB.out.cell (World.block_lt_of_cell? w _ hx0)).trans hx0
        replace hx1 := (HB.out.cell (World.block_lt_of_cell? w _ hx1)).trans hx1
        replace hx2 := (HB.out.cell (World.block_lt_of_cell? w _ hx2)).trans hx2
        replace hx3 := (HB.out.cell (World.block_lt_of_cell? w _ hx3)).trans hx3
        replace hx4 := (HB.out.cell (World.block_lt_of_cell? w _ hx4)).trans hx4
        replace hy0 := (HB.out.cell (World.block_lt_of_cell? w _ hy0)).trans hy0
        replace hy1 := (HB.out.cell (World.block_lt_of_cell? w _ hy1)).trans hy1
        replace hy2 := (HB.out.cell (World.block_lt_of_cell? w _ hy2)).trans hy2
        replace hy3 := (HB.out.cell (World.block_lt_of_cell? w _ hy3)).trans hy3
        replace hy4 := (HB.out.cell (World.block_lt_of_cell? w _ hy4)).trans hy4
        have HX4 := Aside0.mk hi4
        have HXC := Aside0.mk hl4
        have HY4 := Aside0.mk hi5
        have HYC := Aside0.mk hl5
        clear hi4 hl4 hi5 hl5
        replace p159 := eq_true p159
        replace q159 := eq_true q159
        replace q160 := eq_true q160
        cases hT : eqT (rd_T31 l0 i) (rd_T31 l1 i)
        · have HT := Aside0.mk hT
          have HF : Aside0 (eqL l0 l1 = false) := ⟨by rw [HE.out, HD.out, hT, Bool.false_and]⟩
          clear hT
          go_wp2
          go_still_tail 8, (by kernel_rfl)
          change wpList _ _ _ _ _ (World.drew wr)
          go_wp2_with (go_at_call 17; (with_reducible refine (sameNode_at IH.out _ _ _ HT.out HZ.out A4 B4 c4 d4 _ ?s1 HXC.out ?s3 HYC.out).mono ?_); (case s1 => exact Kd.C_drew (Kd.C_below HX4.out HB.out)); (case s3 => exact Kd.C_drew (Kd.C_below HY4.out HB.out)); rintro e w6 ⟨rfl, hb⟩; have HB2 := Aside0.mk (below_step (below_drew HB.out) hb); clear hb)
          go_ret
          exact ⟨by rw [HF.out]; rfl, HB2.out⟩
        · have HT := Aside0.mk hT
          have HN : Aside0 (eqL l0 l1 = eqL (l0.drop (k + 1)) (l1.drop (k + 1))) := ⟨by rw [HE.out, HD.out, hT, Bool.true_and]⟩
          clear hT
          go_wp2
          go_still_tail 8, (by kernel_rfl)
          change wpList _ _ _ _ _ (World.drew wr)
          go_wp2_with (go_at_call 17; (with_reducible refine (sameNode_at IH.out _ _ _ HT.out HZ.out A4 B4 c4 d4 _ ?s1 HXC.out ?s3 HYC.out).mono ?_); (case s1 => exact Kd.C_drew (Kd.C_below HX4.out HB.out)); (case s3 => exact Kd.C_drew (Kd.C_below HY4.out HB.out)); rintro e w6 ⟨rfl, hb⟩; have HB2 := Aside0.mk (below_step (below_drew HB.out) hb); clear hb)
          go_roundg k1
          case measure => omega
          case rel => exact ⟨wrap64 (i + 1), rfl, ⟨k + 1, HW.out, HQ.out, HN.out⟩, HB2⟩
  · have hlb : ((l0.length : Int) != (l1.length : Int)) = true := by simp; omega
    have HE := Aside0.mk (eqL_len l0 l1 hlen)
    clear hlen
    go_enter Tryz.func14, Tryz.ntmps14
    go_wp2
    go_ret
    exact ⟨by rw [HE.out]; rfl, HB.out⟩
theorem closure_at {n : Nat} (ih : SameTo n 13) (x y : S31) (b : Bool) (hb : eqT x y = b) (hx : SizeOf.sizeOf x.f4 < n) (A B : Option Addr) (c d : Nat) (w : World) (h1 : Kd.C k31 w A x.f4.length x.f4) (h2 : x.f4.length ≤ c) (h3 : Kd.C k31 w B y.f4.length y.f4) (h4 : y.f4.length ≤ d) :
    Calls Tryz.prog 29 #[.agg #[.int .i64 x.f0, .string x.f1, .string x.f2, .int .i64 x.f3, .slice A x.f4.length c], .agg #[.int .i64 y.f0, .string y.f1, .string y.f2, .int .i64 y.f3, .slice B y.f4.length d]] w fun e w' => e = .returned (.bool b) ∧ Below w.heap.size w w' := by
  subst hb
  exact closure_step n ih x y hx A B c d w h1 h2 h3 h4

set_option maxHeartbeats 8000000 in
theorem equalFunc_step (n : Nat) (ih : SameTo n 13) (A0 : Option Addr) (c0 : Nat) (l0 : List S31) (A1 : Option Addr) (c1 : Nat) (l1 : List S31) (w : World) (hs : SizeOf.sizeOf l0 < n + 1) (hr0 : Kd.C k31 w A0 l0.length l0) (hc0 : l0.length ≤ c0) (hr1 : Kd.C k31 w A1 l1.length l1) (hc1 : l1.length ≤ c1) :
    Calls Tryz.prog 28 #[.slice A0 l0.length c0, .slice A1 l1.length c1, .func (.func 29) #[] #[]] w fun e w' => e = .returned (.bool (eqL l0 l1)) ∧ Below w.heap.size w w' := by
  have HR0 := Aside0.mk hr0
  have HC0 := Aside0.mk hc0
  have HR1 := Aside0.mk hr1
  have HC1 := Aside0.mk hc1
  have HS := Aside0.mk hs
  have IH := Aside0.mk ih
  have HL := Aside0.mk hr0.2.1
  clear hr0 hc0 hr1 hc1 hs ih
  have HB := Aside0.mk (Below.refl w.heap.size w)
  by_cases hlen : l0.length = l1.length
  · have hlb : ((l0.length : Int) != (l1.length : Int)) = false := by simp [hlen]
    have HLEN := Aside0.mk hlen
    clear hlen
    have H0 : Aside0 (eqL l0 l1 = eqL (l0.drop 0) (l1.drop 0)) := ⟨by simp⟩
    go_enter Tryz.func28, Tryz.ntmps28
    go_wp2
    go_loopg [17] l0.length (fun kq v17 w' => ∃ (i : Int), v17 = .int .i64 i ∧ Aside0 (∃ k : Nat, i = k ∧ kq + k = l0.length ∧ eqL l0 l1 = eqL (l0.drop k) (l1.drop k)) ∧ Aside0 (Below w.heap.size w w'))
    case atStart => exact ⟨0, rfl, ⟨0, rfl, rfl, H0.out⟩, HB⟩
    case round =>
      clear H0
      obtain ⟨i, rfl, HI, HB⟩ := hrel
      obtain ⟨k, hik, hkq, heq⟩ := HI.out
      cases gk with
      | zero =>
        have c2b0 : decide (i < (l0.length : Int)) = false := decide_eq_false (by omega)
        have he : eqL l0 l1 = true := by
          rw [heq]
          have hl := HLEN.out
          rw [List.drop_of_length_le (by omega), List.drop_of_length_le (by omega)]
          simp [eqL]
        have HE := Aside0.mk he
        clear hik hkq heq HI he
        go_wp2
        go_ret
        exact ⟨by rw [HE.out]; rfl, by repeat (first | (with_reducible first | exact HB.out | apply below_alloc | apply pw_below_drewN | apply below_drew1) | exact HB.out)⟩
      | succ k1 =>
        have hl := HLEN.out
        have hmx := HL.out
        have c2b0 : decide (i < (l0.length : Int)) = true := decide_eq_true (by omega)
        have p159 : 0 ≤ (i : Int) := by omega
        have q159 : i < (l0.length : Int) := by omega
        have q160 : i < (l1.length : Int) := by omega
        have HD := Aside0.mk (eqL_drop l0 l1 i k hik (by omega) (by omega))
        have HZ := Aside0.mk (size_rd l0 i k n hik (by omega) HS.out)
        have HW : Aside0 (wrap64 (i + 1) = ((k + 1 : Nat) : Int)) := ⟨by unfold wrap64; omega⟩
        have HQ : Aside0 (k1 + (k + 1) = l0.length) := ⟨by omega⟩
        have HE := Aside0.mk heq
        clear hik hkq heq HI hl hmx
        obtain ⟨ad, A4, c4, e159, hx0, hx1, hx2, hx3, hx4, hl4, hi4⟩ := at_T31 HR0.out i p159 q159
        obtain ⟨bd, B4, d4, e160, hy0, hy1, hy2, hy3, hy4, hl5, hi5⟩ := at_T31 HR1.out i p159 q160
        cases e159
        cases e160
        replace hx0 := (HB.out.cell (World.block_lt_of_cell? w _ hx0)).trans hx0
        replace hx1 := (HB.out.cell (World.block_lt_of_cell? w _ hx1)).trans hx1
        replace hx2 := (HB.out.cell (World.block_lt_of_cell? w _ hx2)).trans hx2
        replace hx3 := (HB.out.cell (World.block_lt_of_cell? w _ hx3)).trans hx3
        replace hx4 := (HB.out.cell (World.block_lt_of_cell? w _ hx4)).trans hx4
        replace hy0 := (HB.out.cell (World.block_lt_of_cell? w _ hy0)).trans hy0
        replace hy1 := (HB.out.cell (World.block_lt_of_cell? w _ hy1)).trans hy1
        replace hy2 := (HB.out.cell (World.block_lt_of_cell? w _ hy2)).trans hy2
        replace hy3 := (HB.out.cell (World.block_lt_of_cell? w _ hy3)).trans hy3
        replace hy4 := (HB.out.cell (World.block_lt_of_cell? w _ hy4)).trans hy4
        have hz0 : ∀ o : Obj, (wr.alloc o).cell? _ = _ := fun o => ((below_alloc (Below.refl wr.heap.size wr) o).cell (World.block_lt_of_cell? wr _ hy0)).trans hy0
        have hz1 : ∀ o : Obj, (wr.alloc o).cell? _ = _ := fun o => ((below_alloc (Below.refl wr.heap.size wr) o).cell (World.block_lt_of_cell? wr _ hy1)).trans hy1
        have hz2 : ∀ o : Obj, (wr.alloc o).cell? _ = _ := fun o => ((below_alloc (Below.refl wr.heap.size wr) o).cell (World.block_lt_of_cell? wr _ hy2)).trans hy2
        have hz3 : ∀ o : Obj, (wr.alloc o).cell? _ = _ := fun o => ((below_alloc (Below.refl wr.heap.size wr) o).cell (World.block_lt_of_cell? wr _ hy3)).trans hy3
        have hz4 : ∀ o : Obj, (wr.alloc o).cell? _ = _ := fun o => ((below_alloc (Below.refl wr.heap.size wr) o).cell (World.block_lt_of_cell? wr _ hy4)).trans hy4
        have HX4 := Aside0.mk hi4
        have HXC := Aside0.mk hl4
        have HY4 := Aside0.mk hi5
        have HYC := Aside0.mk hl5
        clear hi4 hl4 hi5 hl5
        replace p159 := eq_true p159
        replace q159 := eq_true q159
        replace q160 := eq_true q160
        cases hT : eqT (rd_T31 l0 i) (rd_T31 l1 i)
        · have HT := Aside0.mk hT
          have HF : Aside0 (eqL l0 l1 = false) := ⟨by rw [HE.out, HD.out, hT, Bool.false_and]⟩
          clear hT
          go_wp2_with (go_at_call 29; (with_reducible refine (closure_at IH.out _ _ _ HT.out HZ.out A4 B4 c4 d4 _ ?s1 HXC.out ?s3 HYC.out).mono ?_); (case s1 => exact (Kd.C_below HX4.out (below_alloc (below_alloc HB.out _) _))); (case s3 => exact (Kd.C_below HY4.out (below_alloc (below_alloc HB.out _) _))); rintro e w6 ⟨rfl, hb⟩; have HB2 := Aside0.mk (below_step (below_alloc (below_alloc HB.out _) _) hb); clear hb)
          go_ret
          exact ⟨by rw [HF.out]; rfl, HB2.out⟩
        · have HT := Aside0.mk hT
          have HN : Aside0 (eqL l0 l1 = eqL (l0.drop (k + 1)) (l1.drop (k + 1))) := ⟨by rw [HE.out, HD.out, hT, Bool.true_and]⟩
          clear hT
          go_wp2_with (go_at_call 29; (with_reducible refine (closure_at IH.out _ _ _ HT.out HZ.out A4 B4 c4 d4 _ ?s1 HXC.out ?s3 HYC.out).mono ?_); (case s1 => exact (Kd.C_below HX4.out (below_alloc (below_alloc HB.out _) _))); (case s3 => exact (Kd.C_below HY4.out (below_alloc (below_alloc HB.out _) _))); rintro e w6 ⟨rfl, hb⟩; have HB2 := Aside0.mk (below_step (below_alloc (below_alloc HB.out _) _) hb); clear hb)
          go_roundg k1
          case measure => omega
          case rel => exact ⟨wrap64 (i + 1), rfl, ⟨k + 1, HW.out, HQ.out, HN.out⟩, HB2⟩
  · have hlb : ((l0.length : Int) != (l1.length : Int)) = true := by simp; omega
    have HE := Aside0.mk (eqL_len l0 l1 hlen)
    clear hlen
    go_enter Tryz.func28, Tryz.ntmps28
    go_wp2
    go_ret
    exact ⟨by rw [HE.out]; rfl, HB.out⟩

theorem tree_same_step (n : Nat) (ih : SameTo n 13) : SameTo (n + 1) 13 := by
  intro A0 c0 l0 A1 c1 l1 w hs hr0 hc0 hr1 hc1
  have HC := Aside0.mk (equalFunc_step n ih A0 c0 l0 A1 c1 l1 w hs hr0 hc0 hr1 hc1)
  clear hr0 hc0 hr1 hc1 hs ih
  go_enter Tryz.func13, Tryz.ntmps13
  go_wp2_with (go_at_call 28; refine HC.out.mono ?_; rintro e w6 ⟨rfl, hb⟩)
  go_ret
  exact ⟨rfl, hb⟩

theorem same_all : ∀ n, SameTo n 14
  | 0 => fun _ _ _ _ _ _ _ h => absurd h (Nat.not_lt_zero _)
  | n + 1 => same_step n (same_all n)
theorem tree_same_all : ∀ n, SameTo n 13
  | 0 => fun _ _ _ _ _ _ _ h => absurd h (Nat.not_lt_zero _)
  | n + 1 => tree_same_step n (tree_same_all n)

theorem same_any (A0 : Option Addr) (c0 : Nat) (l0 : List S31) (A1 : Option Addr) (c1 : Nat) (l1 : List S31) (w : World) (h0 : Kd.C k31 w A0 l0.length l0) (g0 : l0.length ≤ c0) (h1 : Kd.C k31 w A1 l1.length l1) (g1 : l1.length ≤ c1) :
    Calls Tryz.prog 14 #[.slice A0 l0.length c0, .slice A1 l1.length c1] w fun e w' => e = .returned (.bool (eqL l0 l1)) ∧ Below w.heap.size w w' :=
  same_all _ A0 c0 l0 A1 c1 l1 w (Nat.lt_succ_self _) h0 g0 h1 g1
theorem tree_same_any (A0 : Option Addr) (c0 : Nat) (l0 : List S31) (A1 : Option Addr) (c1 : Nat) (l1 : List S31) (w : World) (h0 : Kd.C k31 w A0 l0.length l0) (g0 : l0.length ≤ c0) (h1 : Kd.C k31 w A1 l1.length l1) (g1 : l1.length ≤ c1) :
    Calls Tryz.prog 13 #[.slice A0 l0.length c0, .slice A1 l1.length c1] w fun e w' => e = .returned (.bool (eqL l0 l1)) ∧ Below w.heap.size w w' :=
  tree_same_all _ A0 c0 l0 A1 c1 l1 w (Nat.lt_succ_self _) h0 g0 h1 g1

mutual
theorem eqT_self : ∀ x : S31, eqT x x = true
  | ⟨a, b, c, d, l⟩ => by simp [eqT, eqL_self l]
theorem eqL_self : ∀ l : List S31, eqL l l = true
  | [] => by simp [eqL]
  | x :: xs => by simp [eqL, eqT_self x, eqL_self xs]
end
end Go.Proofs.YtfacahgkhpcfmaaGreatDoor.JW
