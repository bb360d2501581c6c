/-
  The walk of TreeSames: it returns true, and nothing that was is changed.
-/
import Derived.Test.YtfacahgkhpcfmaaGreatDoorJd
import Derived.Test.YtfacahgkhpcfmaaGreatDoorK
set_option linter.unusedVariables false
set_option linter.unusedSimpArgs false
namespace Go.Proofs.YtfacahgkhpcfmaaGreatDoor.JW
open Go Go.S2 Go.Proofs.YtfacahgkhpcfmaaGreatDoor.S2T Go.RowKit Go.Proofs.YtfacahgkhpcfmaaGreatDoorW.PrintWords Go.Proofs.YtfacahgkhpcfmaaGreatDoorW.PrintLast Go.Proofs.YtfacahgkhpcfmaaGreatDoorW.PrintMore Go.Proofs.YtfacahgkhpcfmaaGreatDoor.PTreeSames
set_option maxRecDepth 100000

theorem known_any (w : World) (hl : Laid C1 w [(0, glob0)]) : Calls Tryz.prog 5 #[] w fun e w' => e = .returned (.bool true) ∧ Below w.heap.size w w' :=
  (known_calls hl).mono fun e w' ⟨h1, h2, h3, h4, h5, h6⟩ => ⟨h1, h4, h5, h6, h3, h2⟩

theorem laid_below {C : Ctx} {w w1 : World} {need : List (Nat × O)} (hl : Laid C w need) (hb : Below w.heap.size w w1) : Laid C w1 need := by
  intro x hx
  obtain ⟨cs, e, arr, e', fr, h1, h2, h3, h4⟩ := hl x hx
  exact ⟨cs, e, arr, e', fr, h1, by rw [hb.block _ (Array.getElem?_eq_some_iff.1 h2).1]; exact h2, h3, h4⟩

/-- What the law's loops lean on: the copy's cells, in blocks of its own. -/
structure Sh (base g n : Nat) (sl : Nat → Option Addr × Nat × Nat) (i : Int) (W : World) : Prop where
  str : ∀ j, j < n → ∃ s : ByteArray, W.cell? ⟨g, j * 5 + 1, none⟩ = some (.string s) ∧ (i ≤ j → s.size ≤ 140737488351232) ∧ W.frozen? ⟨g, j * 5 + 1, none⟩ = false
  row : ∀ j, j < n → W.cell? ⟨g, j * 5 + 4, none⟩ = some (.slice (sl j).1 (sl j).2.1 (sl j).2.2) ∧ (sl j).2.1 ≤ 9223372036854775807
  num : ∀ j, j < n → ∀ k, k < (sl j).2.1 → ∃ b z, (sl j).1 = some ⟨b, 0, none⟩ ∧ base ≤ b ∧ W.cell? ⟨b, k * 5 + 3, none⟩ = some (.int .i64 z) ∧ W.frozen? ⟨b, k * 5 + 3, none⟩ = false

theorem cell_other {W : World} {p q : Addr} {v : Value} (h : p ≠ q) : (W.setCell p v).cell? q = W.cell? q := by
  first | exact World.cell?_setCell_other h | exact World.cell?_setCell_other W h | exact World.cell?_setCell_other _ _ _ _ h | exact World.cell?_setCell_other W p q v h
theorem cell_same {W : World} {p : Addr} {u v : Value} (h : W.cell? p = some u) : (W.setCell p v).cell? p = some v := by
  first | exact World.cell?_setCell_same h | exact World.cell?_setCell_same W h | exact World.cell?_setCell_same _ _ _ h
theorem addr_ne {b c o p : Nat} (h : o ≠ p) : (⟨b, o, none⟩ : Addr) ≠ ⟨c, p, none⟩ := fun e => by
  injection e with _ e2
  exact h e2

theorem Sh.setStr {base g n : Nat} {sl : Nat → Option Addr × Nat × Nat} {W : World} {i : Nat} (h : Sh base g n sl i W) (hi : i < n) (s : ByteArray) : Sh base g n sl ((i + 1 : Nat) : Int) (W.setCell ⟨g, i * 5 + 1, none⟩ (.string s)) := by
  refine ⟨fun j hj => ?_, fun j hj => ?_, fun j hj k hk => ?_⟩
  · obtain ⟨s', h1, h2, h3⟩ := h.str j hj
    by_cases e : j = i
    · subst e
      exact ⟨s, cell_same h1, fun h => by omega, by rw [World.frozen?_setCell]; exact h3⟩
    · refine ⟨s', ?_, fun h => h2 (by omega), by rw [World.frozen?_setCell]; exact h3⟩
      rw [cell_other (addr_ne (by omega))]; exact h1
  · obtain ⟨h1, h2⟩ := h.row j hj
    exact ⟨by rw [cell_other (addr_ne (by omega))]; exact h1, h2⟩
  · obtain ⟨b, z, h1, h2, h3, h4⟩ := h.num j hj k hk
    exact ⟨b, z, h1, h2, by rw [cell_other (addr_ne (by omega))]; exact h3, by rw [World.frozen?_setCell]; exact h4⟩

theorem Sh.setNum {base g n : Nat} {sl : Nat → Option Addr × Nat × Nat} {W : World} {i : Int} (h : Sh base g n sl i W) (b k : Nat) (z : Int) : Sh base g n sl i (W.setCell ⟨b, k * 5 + 3, none⟩ (.int .i64 z)) := by
  refine ⟨fun j hj => ?_, fun j hj => ?_, fun j hj k' hk => ?_⟩
  · obtain ⟨s', h1, h2, h3⟩ := h.str j hj
    exact ⟨s', by rw [cell_other (addr_ne (by omega))]; exact h1, h2, by rw [World.frozen?_setCell]; exact h3⟩
  · obtain ⟨h1, h2⟩ := h.row j hj
    exact ⟨by rw [cell_other (addr_ne (by omega))]; exact h1, h2⟩
  · obtain ⟨b', z', h1, h2, h3, h4⟩ := h.num j hj k' hk
    by_cases e : (⟨b, k * 5 + 3, none⟩ : Addr) = ⟨b', k' * 5 + 3, none⟩
    · exact ⟨b', z, h1, h2, by rw [← e] at h3 ⊢; exact cell_same h3, by rw [World.frozen?_setCell]; exact h4⟩
    · exact ⟨b', z', h1, h2, by rw [cell_other e]; exact h3, by rw [World.frozen?_setCell]; exact h4⟩

theorem sh_of_R {W : World} {base g cap : Nat} {ok : Nat → Prop} {l : List S31} (hf : FitL l) (h : k31.R 31 W base ok (.slice (some ⟨g, 0, none⟩) l.length cap) l) : ∃ sl, Sh base g l.length sl 0 W := by
  have key : ∀ j, j < l.length → ∃ (s : ByteArray) (sl : Option Addr × Nat × Nat), W.cell? ⟨g, j * 5 + 1, none⟩ = some (.string s) ∧ s.size ≤ 140737488351232 ∧ W.frozen? ⟨g, j * 5 + 1, none⟩ = false ∧
      W.cell? ⟨g, j * 5 + 4, none⟩ = some (.slice sl.1 sl.2.1 sl.2.2) ∧ sl.2.1 ≤ 9223372036854775807 ∧
      ∀ k, k < sl.2.1 → ∃ b z, sl.1 = some ⟨b, 0, none⟩ ∧ base ≤ b ∧ W.cell? ⟨b, k * 5 + 3, none⟩ = some (.int .i64 z) ∧ W.frozen? ⟨b, k * 5 + 3, none⟩ = false := by
    intro j hj
    obtain ⟨c, hc5, hM, hcell, hfr⟩ := Kd.R_elem h z31 (j : Int) (by omega) (by omega)
    have hx := FitT.sub (FitA.mem hf.2 _ (rd_mem hj))
    have e : l.getD ((j : Int).toNat) z31 = rd_T31 l j := rfl
    rw [e] at hM
    obtain ⟨v4, rfl, h4⟩ := k31_openM hM
    have e5 : k31.sz = 5 := rfl
    rw [e5] at hcell hfr
    simp only [Int.toNat_natCast] at hcell hfr
    obtain ⟨A4, c4, rfl⟩ := Kd.R_slice h4
    refine ⟨(rd_T31 l j).f1, (A4, (rd_T31 l j).f4.length, c4), hcell 1 _ rfl, hx.1, hfr 1, hcell 4 _ rfl, by have := hx.2.1; simp only; omega, fun k hk => ?_⟩
    simp only at hk
    obtain ⟨b, cap4, hv, hb, _, _⟩ := Kd.R_form h4 (by omega)
    injection hv with hv1 hv2 hv3
    subst hv1
    obtain ⟨c', _, hM', hcell', hfr'⟩ := Kd.R_elem h4 z31 (k : Int) (by omega) (by omega)
    obtain ⟨v5, rfl, _⟩ := k31_openM hM'
    rw [e5] at hcell' hfr'
    simp only [Int.toNat_natCast] at hcell' hfr'
    exact ⟨b, _, rfl, hb, hcell' 3 _ rfl, hfr' 3⟩
  have key' : ∀ j, ∃ sl : Option Addr × Nat × Nat, j < l.length → ∃ (s : ByteArray), W.cell? ⟨g, j * 5 + 1, none⟩ = some (.string s) ∧ s.size ≤ 140737488351232 ∧ W.frozen? ⟨g, j * 5 + 1, none⟩ = false ∧
      W.cell? ⟨g, j * 5 + 4, none⟩ = some (.slice sl.1 sl.2.1 sl.2.2) ∧ sl.2.1 ≤ 9223372036854775807 ∧
      ∀ k, k < sl.2.1 → ∃ b z, sl.1 = some ⟨b, 0, none⟩ ∧ base ≤ b ∧ W.cell? ⟨b, k * 5 + 3, none⟩ = some (.int .i64 z) ∧ W.frozen? ⟨b, k * 5 + 3, none⟩ = false := by
    intro j
    by_cases hj : j < l.length
    · obtain ⟨s, sl, h⟩ := key j hj
      exact ⟨sl, fun _ => ⟨s, h⟩⟩
    · exact ⟨(none, 0, 0), fun h => absurd h hj⟩
  refine ⟨fun j => Classical.choose (key' j), fun j hj => ?_, fun j hj => ?_, fun j hj k hkk => ?_⟩
  · obtain ⟨s, h1, h2, h3, _⟩ := Classical.choose_spec (key' j) hj
    exact ⟨s, h1, fun _ => h2, h3⟩
  · obtain ⟨_, _, _, _, h4, h5, _⟩ := Classical.choose_spec (key' j) hj
    exact ⟨h4, h5⟩
  · obtain ⟨_, _, _, _, _, _, h6⟩ := Classical.choose_spec (key' j) hj
    exact h6 k hkk

theorem Sh.below {base g n : Nat} {sl : Nat → Option Addr × Nat × Nat} {W W1 : World} {i : Int} (h : Sh base g n sl i W) (hb : Below W.heap.size W W1) : Sh base g n sl i W1 := by
  refine ⟨fun j hj => ?_, fun j hj => ?_, fun j hj k hk => ?_⟩
  · obtain ⟨s', h1, h2, h3⟩ := h.str j hj
    have hB := World.block_lt_of_cell? W _ h1
    exact ⟨s', by rw [hb.cell hB]; exact h1, h2, by rw [hb.frozen hB]; exact h3⟩
  · obtain ⟨h1, h2⟩ := h.row j hj
    have hB := World.block_lt_of_cell? W _ h1
    exact ⟨by rw [hb.cell hB]; exact h1, h2⟩
  · obtain ⟨b, z, h1, h2, h3, h4⟩ := h.num j hj k hk
    have hB := World.block_lt_of_cell? W _ h3
    exact ⟨b, z, h1, h2, by rw [hb.cell hB]; exact h3, by rw [hb.frozen hB]; exact h4⟩

theorem long_at {l : List S31} {n : Nat} (hn : l.length = n) (k : Nat) (A : Option Addr) (c : Nat) (r : Bool) (w : World) (h : Kd.C k31 w A l.length l) (hc : l.length ≤ c) (hf : motleyref04_Long.f k l = some r) :
    Calls Tryz.prog 10 #[.slice A n c] w fun e w' => e = .returned (.bool r) ∧ Below w.heap.size w w' := by
  subst hn; exact motleyref04_Long.calls k A c l r w h hc hf
theorem rcopy_at {l r : List S31} {n : Nat} (hn : l.length = n) (k : Nat) (A : Option Addr) (c : Nat) (w : World) (h : Kd.C k31 w A l.length l) (hc : l.length ≤ c) (hf : motleyref04_Copy.f k l = some r) :
    Calls Tryz.prog 11 #[.slice A n c] w fun e w' => ∃ v0_ : Value, e = .returned (v0_) ∧ Kd.R k31 31 w' w.heap.size (fun _ => True) v0_ r ∧ Below w.heap.size w w' := by
  subst hn; exact motleyref04_Copy.calls k A c l r w h hc hf
theorem copy_at {l r : List S31} {n : Nat} (hn : l.length = n) (k : Nat) (A : Option Addr) (c : Nat) (w : World) (h : Kd.C k31 w A l.length l) (hc : l.length ≤ c) (hf : tree_Copy.f k l = some r) :
    Calls Tryz.prog 12 #[.slice A n c] w fun e w' => ∃ v0_ : Value, e = .returned (v0_) ∧ Kd.R k31 31 w' w.heap.size (fun _ => True) v0_ r ∧ Below w.heap.size w w' := by
  subst hn; exact tree_Copy.calls k A c l r w h hc hf
theorem same_at {l0 l1 : List S31} {n m : Nat} (hn : l0.length = n) (hm : l1.length = m) (A0 : Option Addr) (c0 : Nat) (A1 : Option Addr) (c1 : Nat) (w : World) (h0 : Kd.C k31 w A0 l0.length l0) (g0 : l0.length ≤ c0) (h1 : Kd.C k31 w A1 l1.length l1) (g1 : l1.length ≤ c1) :
    Calls Tryz.prog 14 #[.slice A0 n c0, .slice A1 m c1] w fun e w' => e = .returned (.bool (eqL l0 l1)) ∧ Below w.heap.size w w' := by
  subst hn hm; exact same_any A0 c0 l0 A1 c1 l1 w h0 g0 h1 g1
theorem tsame_at {l0 l1 : List S31} {n m : Nat} (hn : l0.length = n) (hm : l1.length = m) (A0 : Option Addr) (c0 : Nat) (A1 : Option Addr) (c1 : Nat) (w : World) (h0 : Kd.C k31 w A0 l0.length l0) (g0 : l0.length ≤ c0) (h1 : Kd.C k31 w A1 l1.length l1) (g1 : l1.length ≤ c1) :
    Calls Tryz.prog 13 #[.slice A0 n c0, .slice A1 m c1] w fun e w' => e = .returned (.bool (eqL l0 l1)) ∧ Below w.heap.size w w' := by
  subst hn hm; exact tree_same_any A0 c0 l0 A1 c1 l1 w h0 g0 h1 g1

set_option maxHeartbeats 16000000 in
theorem law_any (A0 : Option Addr) (c0 : Nat) (l0 : List S31) (A1 : Option Addr) (c1 : Nat) (l1 : List S31) (w : World) (h0 : Kd.C k31 w A0 l0.length l0) (g0 : l0.length ≤ c0) (h1 : Kd.C k31 w A1 l1.length l1) (g1 : l1.length ≤ c1)
    (f0 : FitL l0) (f1 : FitL l1) (hl : Laid C1 w [(0, glob0)]) :
    Calls Tryz.prog 4 #[.slice A0 l0.length c0, .slice A1 l1.length c1] w fun e w' => e = .returned (.bool true) ∧ Below w.heap.size w w' := by
  have H0 := Aside0.mk h0
  have G0 := Aside0.mk g0
  have H1 := Aside0.mk h1
  have G1 := Aside0.mk g1
  have F0 := Aside0.mk f0
  have HL := Aside0.mk hl
  obtain ⟨K1, b1, k1⟩ := long_some l0 f0
  obtain ⟨K2, b2, k2⟩ := long_some l1 f1
  obtain ⟨K3, k3⟩ := ref_copy_eq _ l0 (Nat.lt_succ_self _) f0
  obtain ⟨K4, k4⟩ := copy_eq _ l0 (Nat.lt_succ_self _) f0
  have L1 := Aside0.mk k1
  have L2 := Aside0.mk k2
  have L3 := Aside0.mk (k3 0)
  have L4 := Aside0.mk (k4 0)
  have HB := Aside0.mk (Below.refl w.heap.size w)
  have hself : eqL l0 l0 = true := eqL_self l0
  have HN : Aside0 (l0.length ≤ 9223372036854775807) := ⟨by have := f0.1; omega⟩
  clear h0 g0 h1 g1 f0 f1 hl k1 k2 k3 k4
  cases b1
  · cases b2
    · rcases Nat.eq_zero_or_pos l0.length with hz | hp
      · obtain rfl := List.eq_nil_of_length_eq_zero hz
        clear hz
        go_enter Tryz.func4, Tryz.ntmps4
        go_wp2_with (first
          | (go_at_call 10; (with_reducible refine (long_at (n := 0) rfl K1 A0 c0 false _ ?a1 G0.out L1.out).mono ?_); (case a1 => exact H0.out); rintro e wa ⟨rfl, hb⟩; have HB1 := Aside0.mk (below_step HB.out hb); clear HB hb)
          | (go_at_call 10; (with_reducible refine (motleyref04_Long.calls K2 A1 c1 l1 false _ ?a2 G1.out L2.out).mono ?_); (case a2 => exact Kd.C_below H1.out HB1.out); rintro e wb ⟨rfl, hb⟩; have HB2 := Aside0.mk (below_step HB1.out hb); clear HB1 hb)
          | (go_at_call 11; (with_reducible refine (rcopy_at (n := 0) rfl (0 + K3) A0 c0 _ ?a3 G0.out L3.out).mono ?_); (case a3 => exact Kd.C_below H0.out HB2.out); rintro e w2 ⟨v0, rfl, hR, hb⟩; obtain ⟨Aw, cw, e0, hcw, hCw⟩ := Kd.R_reads hR; rw [List.length_nil] at e0; subst e0; have HCW := Aside0.mk hCw; have HGW := Aside0.mk hcw; have HB3 := Aside0.mk (below_step HB2.out hb); clear HB2 hb hR hCw hcw)
          | (go_at_call 12; (with_reducible refine (copy_at (n := 0) rfl (0 + K4) A0 c0 _ ?a4 G0.out L4.out).mono ?_); (case a4 => exact Kd.C_below H0.out HB3.out); rintro e w3 ⟨v1, rfl, hR, hb⟩; obtain ⟨Ac, cap, e1, hcc, hCC⟩ := Kd.R_reads hR; rw [List.length_nil] at e1; subst e1; have HCC := Aside0.mk hCC; have HGC := Aside0.mk hcc; have HD := Aside0.mk hb; clear hb hR hCC hcc)
          | (go_at_call 13; (with_reducible refine (tsame_at (n := 0) (m := l1.length) rfl rfl A0 c0 A1 c1 _ ?a5 G0.out ?a6 G1.out).mono ?_); (case a5 => exact Kd.C_below H0.out (below_step HB3.out HD.out)); (case a6 => exact Kd.C_below H1.out (below_step HB3.out HD.out)); rintro e w4 ⟨rfl, hb⟩; have HD4 := Aside0.mk (below_step HD.out hb); have HE4 := Aside0.mk hb; clear hb HD)
          | (go_at_call 14; (with_reducible refine (same_at (n := 0) (m := l1.length) rfl rfl A0 c0 A1 c1 _ ?a7 G0.out ?a8 G1.out).mono ?_); (case a7 => exact Kd.C_below H0.out (below_step HB3.out HD4.out)); (case a8 => exact Kd.C_below H1.out (below_step HB3.out HD4.out)); rintro e w5 ⟨rfl, hb⟩; have HD5 := Aside0.mk (below_step HD4.out hb); have HE5 := Aside0.mk (below_step HE4.out hb); clear hb HD4 HE4)
          | (go_at_call 14; (with_reducible refine (same_at (n := 0) (m := 0) rfl rfl Ac cap A0 c0 _ ?a9 HGC.out ?a10 G0.out).mono ?_); (case a9 => exact Kd.C_below HCC.out HE5.out); (case a10 => exact Kd.C_below H0.out (below_step HB3.out HD5.out)); rintro e w6 ⟨rfl, hb⟩; have HD6 := Aside0.mk (below_step HD5.out hb); clear hb HD5 HE5))
        go_loopg [7] 0 (fun kq v7 w' => v7 = .int .i64 0 ∧ Aside0 (Below w2.heap.size w2 w'))
        case atStart => exact ⟨rfl, HD6⟩
        case round =>
          clear HD6
          obtain ⟨rfl, HD⟩ := hrel
          go_wp2_with (first
            | (go_at_call 14; (with_reducible refine (same_at (n := 0) (m := 0) rfl rfl A0 c0 Aw cw _ ?a11 G0.out ?a12 HGW.out).mono ?_); (case a11 => exact Kd.C_below H0.out (below_step HB3.out HD.out)); (case a12 => exact Kd.C_below HCW.out HD.out); rintro e w7 ⟨rfl, hb⟩; have HD7 := Aside0.mk (below_step HD.out hb); clear hb HD)
            | (go_at_call 5; (with_reducible refine (known_any _ (laid_below HL.out ?a13)).mono ?_); (case a13 => exact below_step HB3.out HD7.out); rintro e w8 ⟨rfl, hb⟩; have HD8 := Aside0.mk (below_step HD7.out hb); clear hb HD7))
          go_ret
          exact ⟨rfl, below_step HB3.out HD8.out⟩
      · have HP := Aside0.mk hp
        clear hp
        go_enter Tryz.func4, Tryz.ntmps4
        go_wp2_with (first
          | (go_at_call 10; (with_reducible refine (motleyref04_Long.calls K1 A0 c0 l0 false _ ?a1 G0.out L1.out).mono ?_); (case a1 => exact H0.out); rintro e wa ⟨rfl, hb⟩; have HB1 := Aside0.mk (below_step HB.out hb); clear HB hb)
          | (go_at_call 10; (with_reducible refine (motleyref04_Long.calls K2 A1 c1 l1 false _ ?a2 G1.out L2.out).mono ?_); (case a2 => exact Kd.C_below H1.out HB1.out); rintro e wb ⟨rfl, hb⟩; have HB2 := Aside0.mk (below_step HB1.out hb); clear HB1 hb)
          | (go_at_call 11; (with_reducible refine (motleyref04_Copy.calls (0 + K3) A0 c0 l0 l0 _ ?a3 G0.out L3.out).mono ?_); (case a3 => exact Kd.C_below H0.out HB2.out); rintro e w2 ⟨v0, rfl, hR, hb⟩; obtain ⟨Aw, cw, rfl, hcw, hCw⟩ := Kd.R_reads hR; have HCW := Aside0.mk hCw; have HGW := Aside0.mk hcw; have HB3 := Aside0.mk (below_step HB2.out hb); clear HB2 hb hR hCw hcw)
          | (go_at_call 12; (with_reducible refine (tree_Copy.calls (0 + K4) A0 c0 l0 l0 _ ?a4 G0.out L4.out).mono ?_); (case a4 => exact Kd.C_below H0.out HB3.out); rintro e w3 ⟨v1, rfl, hR, hb⟩; obtain ⟨g, cap, rfl, hg, _, _⟩ := Kd.R_form hR HP.out; obtain ⟨_, hcc, hCC⟩ := Kd.R_reads' hR; obtain ⟨sl, hsh⟩ := sh_of_R F0.out hR; have SH := Aside0.mk hsh; have HCC := Aside0.mk hCC; have HGC := Aside0.mk hcc; have HG := Aside0.mk hg; have HD := Aside0.mk hb; clear hb hR hsh hCC hcc hg)
          | (go_at_call 13; (with_reducible refine (tree_same_any A0 c0 l0 A1 c1 l1 _ ?a5 G0.out ?a6 G1.out).mono ?_); (case a5 => exact Kd.C_below H0.out (below_step HB3.out HD.out)); (case a6 => exact Kd.C_below H1.out (below_step HB3.out HD.out)); rintro e w4 ⟨rfl, hb⟩; have HD4 := Aside0.mk (below_step HD.out hb); have SH4 := Aside0.mk (SH.out.below hb); have HE4 := Aside0.mk hb; clear hb HD SH)
          | (go_at_call 14; (with_reducible refine (same_any A0 c0 l0 A1 c1 l1 _ ?a7 G0.out ?a8 G1.out).mono ?_); (case a7 => exact Kd.C_below H0.out (below_step HB3.out HD4.out)); (case a8 => exact Kd.C_below H1.out (below_step HB3.out HD4.out)); rintro e w5 ⟨rfl, hb⟩; have HD5 := Aside0.mk (below_step HD4.out hb); have SH5 := Aside0.mk (SH4.out.below hb); have HE5 := Aside0.mk (below_step HE4.out hb); clear hb HD4 SH4 HE4)
          | (go_at_call 14; (with_reducible refine (same_any (some ⟨g, 0, none⟩) cap l0 A0 c0 l0 _ ?a9 HGC.out ?a10 G0.out).mono ?_); (case a9 => exact Kd.C_below HCC.out HE5.out); (case a10 => exact Kd.C_below H0.out (below_step HB3.out HD5.out)); rintro e w6 ⟨rfl, hb⟩; have HD6 := Aside0.mk (below_step HD5.out hb); have SH6 := Aside0.mk (SH5.out.below hb); clear hb HD5 SH5 HE5))
        go_loopg [7] l0.length (fun kq v7 w' => ∃ (i : Int), v7 = .int .i64 i ∧ Aside0 (∃ k : Nat, i = k ∧ kq + k = l0.length) ∧ Aside0 (Sh w2.heap.size g l0.length sl i w') ∧ Aside0 (Below w2.heap.size w2 w'))
        case atStart => exact ⟨0, rfl, ⟨0, rfl, rfl⟩, SH6, HD6⟩
        case round =>
          clear SH6 HD6
          obtain ⟨i, rfl, HI, SH, HD⟩ := hrel
          obtain ⟨k, hik, hkq⟩ := HI.out
          cases gk with
          | zero =>
            have c2b0 : decide (i < (l0.length : Int)) = false := decide_eq_false (by omega)
            clear hik hkq HI
            go_wp2_with (first
              | (go_at_call 14; (with_reducible refine (same_any A0 c0 l0 Aw cw l0 _ ?a11 G0.out ?a12 HGW.out).mono ?_); (case a11 => exact Kd.C_below H0.out (below_step HB3.out HD.out)); (case a12 => exact Kd.C_below HCW.out HD.out); rintro e w7 ⟨rfl, hb⟩; have HD7 := Aside0.mk (below_step HD.out hb); clear hb HD)
              | (go_at_call 5; (with_reducible refine (known_any _ (laid_below HL.out ?a13)).mono ?_); (case a13 => exact below_step HB3.out HD7.out); rintro e w8 ⟨rfl, hb⟩; have HD8 := Aside0.mk (below_step HD7.out hb); clear hb HD7))
            go_ret
            exact ⟨rfl, below_step HB3.out HD8.out⟩
          | succ k1 =>
            have hmx := HN.out
            have c2b0 : decide (i < (l0.length : Int)) = true := decide_eq_true (by omega)
            have p159 : 0 ≤ (i : Int) := by omega
            have q159 : i < (l0.length : Int) := by omega
            have HW : Aside0 (wrap64 (i + 1) = ((k + 1 : Nat) : Int)) := ⟨by unfold wrap64; omega⟩
            have HQ : Aside0 (k1 + (k + 1) = l0.length) := ⟨by omega⟩
            have hkl : k < l0.length := by omega
            obtain ⟨s, hs1, hs2, hs3⟩ := SH.out.str k hkl
            obtain ⟨hr1, hr2⟩ := SH.out.row k hkl
            have hss : s.size ≤ 140737488351232 := hs2 (by omega)
            clear hs2
            subst hik
            go_wp2
            have SHs := Aside0.mk (SH.out.setStr hkl (s ++ ⟨#[120]⟩))
            have HDs := Aside0.mk (HD.out.setCell (p := ⟨g, k * 5 + 1, none⟩) HG.out (.string (s ++ ⟨#[120]⟩)))
            have HKL := Aside0.mk hkl
            have HM := Aside0.mk hr2
            clear hs1 hs3 hr1 hr2 hss SH HD HI hkq c2b0 hmx hkl
            go_loopg [8] (sl k).2.1 (fun kq v8 w' => ∃ (j : Int), v8 = .int .i64 j ∧ Aside0 (∃ t : Nat, j = t ∧ kq + t = (sl k).2.1) ∧ Aside0 (Sh w2.heap.size g l0.length sl ((k + 1 : Nat) : Int) w') ∧ Aside0 (Below w2.heap.size w2 w'))
            case atStart => exact ⟨0, rfl, ⟨0, rfl, rfl⟩, SHs, HDs⟩
            case round =>
              clear SHs HDs
              obtain ⟨j, rfl, HI, SH, HD⟩ := hrel
              obtain ⟨t, hjt, hkq⟩ := HI.out
              obtain ⟨hr1, hr2⟩ := SH.out.row k HKL.out
              cases gk with
              | zero =>
                have c3b0 : decide (j < ((sl k).2.1 : Int)) = false := decide_eq_false (by omega)
                clear hjt hkq HI
                go_wp2
                go_roundg k1
                case measure => omega
                case rel => exact ⟨wrap64 ((k : Int) + 1), rfl, ⟨k + 1, HW.out, HQ.out⟩, ⟨by rw [HW.out]; exact SH.out⟩, HD⟩
              | succ t1 =>
                have hmm := HM.out
                have c3b0 : decide (j < ((sl k).2.1 : Int)) = true := decide_eq_true (by omega)
                have p160 : 0 ≤ (j : Int) := by omega
                have q160 : j < ((sl k).2.1 : Int) := by omega
                have HWt : Aside0 (wrap64 (j + 1) = ((t + 1 : Nat) : Int)) := ⟨by unfold wrap64; omega⟩
                have HQt : Aside0 (t1 + (t + 1) = (sl k).2.1) := ⟨by omega⟩
                obtain ⟨b, z, hA, hb, hz, hfz⟩ := SH.out.num k HKL.out t (by omega)
                rw [hA] at hr1
                have HBB := Aside0.mk hb
                subst hjt
                clear hA hb hkq HI hmm
                go_wp2
                go_roundg t1
                case measure => omega
                case rel => exact ⟨(t : Int) + 1, rfl, ⟨t + 1, by simp, HQt.out⟩, ⟨SH.out.setNum b t _⟩, ⟨HD.out.setCell (p := ⟨b, t * 5 + 3, none⟩) HBB.out _⟩⟩
    · go_enter Tryz.func4, Tryz.ntmps4
      go_wp2_with (first
        | (go_at_call 10; (with_reducible refine (motleyref04_Long.calls K1 A0 c0 l0 false _ ?a1 G0.out L1.out).mono ?_); (case a1 => exact H0.out); rintro e wa ⟨rfl, hb⟩; have HB1 := Aside0.mk (below_step HB.out hb); clear HB hb)
        | (go_at_call 10; (with_reducible refine (motleyref04_Long.calls K2 A1 c1 l1 true _ ?a2 G1.out L2.out).mono ?_); (case a2 => exact Kd.C_below H1.out HB1.out); rintro e wb ⟨rfl, hb⟩; have HB2 := Aside0.mk (below_step HB1.out hb); clear HB1 hb)
        | (go_at_call 5; (with_reducible refine (known_any _ (laid_below HL.out ?a13)).mono ?_); (case a13 => exact HB2.out); rintro e w8 ⟨rfl, hb⟩; have HD8 := Aside0.mk (below_step HB2.out hb); clear hb HB2))
      go_ret
      exact ⟨rfl, HD8.out⟩
  · go_enter Tryz.func4, Tryz.ntmps4
    go_wp2_with (first
      | (go_at_call 10; (with_reducible refine (motleyref04_Long.calls K1 A0 c0 l0 true _ ?a1 G0.out L1.out).mono ?_); (case a1 => exact H0.out); rintro e wa ⟨rfl, hb⟩; have HB1 := Aside0.mk (below_step HB.out hb); clear HB hb)
      | (go_at_call 5; (with_reducible refine (known_any _ (laid_below HL.out ?a13)).mono ?_); (case a13 => exact HB1.out); rintro e w8 ⟨rfl, hb⟩; have HD8 := Aside0.mk (below_step HB1.out hb); clear hb HB1))
    go_ret
    exact ⟨rfl, HD8.out⟩
end Go.Proofs.YtfacahgkhpcfmaaGreatDoor.JW
