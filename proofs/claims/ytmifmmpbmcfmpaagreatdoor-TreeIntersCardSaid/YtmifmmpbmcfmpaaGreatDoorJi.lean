/-
  Numbers.
-/
import Derived.Test.YtmifmmpbmcfmpaaGreatDoorJh
import Derived.Test.YtmifmmpbmcfmpaaGreatDoorIc
import Derived.Test.YtmifmmpbmcfmpaaGreatDoorIf
import Derived.Test.YtmifmmpbmcfmpaaGreatDoorIh
import Derived.Lib.AtoiErrMem
import Derived.Handy
set_option linter.unusedVariables false
set_option linter.unusedSimpArgs false
namespace Go.Proofs.YtmifmmpbmcfmpaaGreatDoor.IW
open Go Go.RowKit
set_option maxRecDepth 100000

def numF (a : Nat) (l : List UInt8) : Nat := l.foldl (fun a b => a * 10 + (b.toNat - 48)) a
def numV (p : ByteArray) : Nat := numF 0 p.data.toList
def AllD (p : ByteArray) : Prop := ∀ i, i < p.size → digitI (bt p i) = true
theorem AllD.mem {p : ByteArray} (h : AllD p) {x : UInt8} (hx : x ∈ p.data.toList) : 48 ≤ x.toNat ∧ x.toNat ≤ 57 := by
  obtain ⟨i, hi⟩ := List.getElem?_of_mem hx
  have hil : i < p.size := by have := (List.getElem?_eq_some_iff.1 hi).1; simpa using this
  have h2 := h i hil
  rw [bt_list, hi] at h2
  have h3 : ((x.toNat : Int) ≥ 48 ∧ (x.toNat : Int) ≤ 57) := by simpa [digitI] using h2
  omega
theorem numF_lt : ∀ (l : List UInt8) (a k : Nat), (∀ x ∈ l, 48 ≤ x.toNat ∧ x.toNat ≤ 57) → a < 10 ^ k → numF a l < 10 ^ (k + l.length)
  | [], a, k, _, h => h
  | x :: l, a, k, hd, h => by
    have h1 := hd x (List.mem_cons_self ..)
    have h2 := numF_lt l (a * 10 + (x.toNat - 48)) (k + 1) (fun y hy => hd y (List.mem_cons_of_mem _ hy)) (by rw [Nat.pow_succ]; omega)
    rw [List.length_cons, show k + (l.length + 1) = k + 1 + l.length by omega]
    exact h2
theorem decFrom_num : ∀ (l : List UInt8) (a : Nat), (∀ x ∈ l, 48 ≤ x.toNat ∧ x.toNat ≤ 57) → Lib.decFrom a l = some (numF a l)
  | [], a, _ => rfl
  | x :: l, a, hd => by
    have h1 := hd x (List.mem_cons_self ..)
    have h2 := decFrom_num l (a * 10 + (x.toNat - 48)) (fun y hy => hd y (List.mem_cons_of_mem _ hy))
    simp only [Lib.decFrom, Lib.digitVal, if_pos h1]
    exact h2
theorem atoi_num (p : ByteArray) (h : AllD p) (h1 : 1 ≤ p.size) : Lib.atoi p.data.toList = some (numV p : Nat) := by
  unfold numV
  have hm : ∀ x ∈ p.data.toList, 48 ≤ x.toNat ∧ x.toNat ≤ 57 := fun x hx => h.mem hx
  have hs : p.size = p.data.toList.length := by simp
  rw [hs] at h1
  cases hl : p.data.toList with
  | nil => rw [hl] at h1; simp at h1
  | cons x l =>
    rw [hl] at hm
    have hx := hm x (List.mem_cons_self ..)
    have e45 : (x == 45) = false := by rw [beq_eq_false_iff_ne]; intro e; rw [e] at hx; exact absurd hx.1 (by decide)
    have e43 : (x == 43) = false := by rw [beq_eq_false_iff_ne]; intro e; rw [e] at hx; exact absurd hx.1 (by decide)
    unfold Lib.atoi
    simp only [e45, e43, Bool.false_eq_true, if_false]
    unfold Lib.decNat
    rw [if_neg (by simp), decFrom_num _ _ hm]
    rfl
theorem numV_lt (p : ByteArray) (h : AllD p) (h1 : p.size ≤ 15) : numV p < 10 ^ 15 := by
  have h2 := numF_lt p.data.toList 0 0 (fun x hx => h.mem hx) (by decide)
  have hs : p.size = p.data.toList.length := by simp
  have h3 : (10 : Nat) ^ (0 + p.data.toList.length) ≤ 10 ^ 15 := Nat.pow_le_pow_right (by decide) (by omega)
  unfold numV
  omega

theorem nd_block {W : World} {g : Nat} {x0 x1 x2 x3 x4 : Value} (h : W.heap[g]? = some (.cells #[x0, x1, x2, x3, x4] 25 (0, 0))) :
    W.cell? ⟨g, 0, none⟩ = some x0 ∧ W.cell? ⟨g, 1, none⟩ = some x1 ∧ W.cell? ⟨g, 2, none⟩ = some x2 ∧ W.cell? ⟨g, 3, none⟩ = some x3 ∧ W.cell? ⟨g, 4, none⟩ = some x4 ∧ ∀ o, W.frozen? ⟨g, o, none⟩ = false := by
  refine ⟨?_, ?_, ?_, ?_, ?_, fun o => by simp only [World.frozen?, h]; simp⟩ <;> (rw [cell_of_row W g _ _ _ _ h]; rfl)

theorem storeNd_below {B : Nat} {w W : World} (h : Below B w W) {g : Nat} (hg : B ≤ g) (o op : Nat) (x : Int) (t : ByteArray) (n : Int) (v4 : Value) : Below B w (storeNd W g o op x t n v4) := by
  have hr := storeNd_rest W g o op x t n v4
  refine ⟨hr.os.trans h.os, hr.tape.trans h.tape, hr.output.trans h.output, by rw [hr.size]; exact h.size, fun k hk => ?_⟩
  rw [storeNd_other (by omega)]
  exact h.block k hk
theorem storeNd_zero {W : World} {g : Nat} {x0 x1 x2 x3 x4 : Value} (h : W.heap[g]? = some (.cells #[x0, x1, x2, x3, x4] 25 (0, 0))) (op : Nat) (x : Int) (t : ByteArray) (n : Int) (v4 : Value) :
    (storeNd W g 0 op x t n v4).heap[g]? = some (.cells #[.int .i64 x, .string t, .string ⟨#[]⟩, .int .i64 n, v4] 25 (0, 0)) := by
  rw [storeNd_here h]; rfl
theorem results_nd {fn : Func} {t : Tmp} (h : fn.results = #[.cell t 25]) {tmps : Array Value} {W : World} {g : Nat} {x0 x1 x2 x3 x4 : Value} (ht : tmps.getD t undef = .pointer (some ⟨g, 0, none⟩)) (hb : W.heap[g]? = some (.cells #[x0, x1, x2, x3, x4] 25 (0, 0))) :
    (results fn tmps).run Tryz.prog W = .ok (.agg #[x0, x1, x2, x3, x4]) W := by
  obtain ⟨k0, k1, k2, k3, k4, kf⟩ := nd_block hb
  rw [Array.getD_eq_getD_getElem?] at ht
  simp [results, h, ht, go_sem, k0, k1, k2, k3, k4]
theorem results_nd2 {fn : Func} {t u : Tmp} (h : fn.results = #[.cell t 25, .tmp u]) {tmps : Array Value} {W : World} {g : Nat} {x0 x1 x2 x3 x4 y : Value} (ht : tmps.getD t undef = .pointer (some ⟨g, 0, none⟩)) (hu : tmps.getD u undef = y) (hb : W.heap[g]? = some (.cells #[x0, x1, x2, x3, x4] 25 (0, 0))) :
    (results fn tmps).run Tryz.prog W = .ok (.tuple #[.agg #[x0, x1, x2, x3, x4], y]) W := by
  obtain ⟨k0, k1, k2, k3, k4, kf⟩ := nd_block hb
  rw [Array.getD_eq_getD_getElem?] at ht hu
  simp [results, h, ht, hu, go_sem, k0, k1, k2, k3, k4]
theorem below_alloc (w : World) (o : Obj) : Below w.heap.size w (w.alloc o) := by
  refine ⟨rfl, rfl, rfl, by show _ ≤ (w.heap.push o).size; simp, fun k hk => ?_⟩
  show (w.heap.push o)[k]? = _
  rw [Array.getElem?_push, if_neg (by omega)]

set_option maxHeartbeats 1000000 in
theorem numbered_any (p : ByteArray) (w : World) (h : AllD p) (h1 : 1 ≤ p.size) (h15 : p.size ≤ 15) : Calls Tryz.prog 98 #[.string p] w fun e w' => e = .returned (.agg #[.int .i64 1, .string ⟨#[]⟩, .string ⟨#[]⟩, .int .i64 (numV p : Nat), .slice none 0 0]) ∧ Below w.heap.size w w' := by
  have HA := Aside0.mk (atoi_num p h h1)
  have HS : Aside0 (p.size ≤ 18) := ⟨by omega⟩
  clear h h1 h15
  go_enter Tryz.func98, Tryz.ntmps98
  go_wp2_with (go_at_call 128; refine (SH.strconv_Atoi p _ HS.out HA.out _).mono ?_; rintro e w' ⟨rfl, t, hw⟩; have hB := Lib.bytesWorld_below (w.alloc (.cells #[.int .i64 0, .string ⟨#[]⟩, .string ⟨#[]⟩, .int .i64 0, .slice none 0 0] 25)) 5 t; rw [← hw] at hB; have hk := (hB.block w.heap.size (by show _ < (w.heap.push _).size; simp)).trans (heap_alloc_new w _); have HB := Aside0.mk hB; have HK := Aside0.mk hk; obtain ⟨k0, k1, k2, k3, k4, kf⟩ := nd_block hk; clear hw hB hk)
  generalize hwf : storeNd w' w.heap.size 0 0 1 ⟨#[]⟩ (numV p : Nat) (.slice none 0 0) = wf
  have hf2 := storeNd_zero HK.out 0 1 ⟨#[]⟩ (numV p : Nat) (.slice none 0 0)
  rw [hwf] at hf2
  have h2 := hwf
  unfold storeNd at h2
  simp only [Nat.zero_add] at h2
  rw [h2]
  refine bodyPost_ret (results_nd rfl rfl hf2) rfl ?_
  refine ⟨rfl, ?_⟩
  have h1 := (below_alloc w (.cells #[.int .i64 0, .string ⟨#[]⟩, .string ⟨#[]⟩, .int .i64 0, .slice none 0 0] 25)).trans (HB.out.mono (by show _ ≤ (w.heap.push _).size; simp))
  rw [← hwf]
  exact storeNd_below h1 (Nat.le_refl _) 0 0 1 ⟨#[]⟩ (numV p : Nat) (.slice none 0 0)

set_option maxHeartbeats 1000000 in
theorem within_any (n : Nat) (w : World) : Calls Tryz.prog 112 #[.int .i64 n, .int .i64 1, .int .i64 15] w fun e w' => e = .returned (.bool (decide (1 ≤ n) && decide (n ≤ 15))) ∧ w' = w := by
  by_cases h1 : 1 ≤ n
  · have c1 : decide ((n : Int) ≥ 1) = true := decide_eq_true (by omega)
    have c2 : decide (1 ≤ n) = true := decide_eq_true h1
    by_cases h2 : n ≤ 15
    · have c3 : decide ((n : Int) ≤ 15) = true := decide_eq_true (by omega)
      have c4 : decide (n ≤ 15) = true := decide_eq_true h2
      rw [c2, c4]
      go_enter Tryz.func112, Tryz.ntmps112
      go_wp2
      go_ret
      exact ⟨rfl, rfl⟩
    · have c3 : decide ((n : Int) ≤ 15) = false := decide_eq_false (by omega)
      have c4 : decide (n ≤ 15) = false := decide_eq_false h2
      rw [c2, c4]
      go_enter Tryz.func112, Tryz.ntmps112
      go_wp2
      go_ret
      exact ⟨rfl, rfl⟩
  · have c1 : decide ((n : Int) ≥ 1) = false := decide_eq_false (by omega)
    have c2 : decide (1 ≤ n) = false := decide_eq_false h1
    rw [c2]
    go_enter Tryz.func112, Tryz.ntmps112
    go_wp2
    go_ret
    exact ⟨rfl, rfl⟩

set_option maxHeartbeats 1000000 in
theorem isNumber_any (p : ByteArray) (w : World) (hm : p.size ≤ 1000000) (h : AllD p) : Calls Tryz.prog 87 #[.string p] w fun e w' => e = .returned (.bool (okD p p.size)) ∧ w' = w := by
  have HM := Aside0.mk hm
  have HA := Aside0.mk h
  clear hm h
  go_enter Tryz.func87, Tryz.ntmps87
  go_wp2
  go_loopg [3] p.size (fun kq v3 w' => ∃ n : Nat, v3 = .int .i64 n ∧ Aside0 (kq + n = p.size) ∧ w' = w)
  case atStart => exact ⟨0, rfl, ⟨by omega⟩, rfl⟩
  case round =>
    obtain ⟨n, rfl, HI, rfl⟩ := hrel
    have hkq := HI.out
    have hM := HM.out
    cases gk with
    | zero =>
      have c1 : decide ((n : Int) < (p.size : Int)) = false := decide_eq_false (by omega)
      have c2 : decide (n < p.size) = false := decide_eq_false (by omega)
      cases hb : decide (1 ≤ p.size) && decide (p.size ≤ 15) with
      | false =>
        have HV : Aside0 (okD p p.size = false) := ⟨by unfold okD; rw [hb]; rfl⟩
        clear hkq hM HI
        go_wp2_with (go_at_call 112; refine (within_any _ _).mono ?_; rintro e w2 ⟨rfl, hw⟩; rw [hw, hb])
        go_ret
        exact ⟨by rw [HV.out]; rfl, rfl⟩
      | true =>
        have h1 : 1 ≤ p.size := by simp only [Bool.and_eq_true, decide_eq_true_eq] at hb; exact hb.1
        have p0 : 0 < p.size := by omega
        have q0 : (0 : Int) < (p.size : Int) := by omega
        have b0 := bt_at p 0 p0
        have e1 : ((p.size : Int) == 1) = decide (p.size = 1) := by by_cases h : p.size = 1 <;> simp [h]; omega
        cases h48 : (bt p 0 == 48) with
        | false =>
          have z2 : (bt p 0 != 48) = true := by unfold bne; rw [h48]; rfl
          have HV : Aside0 (okD p p.size = true) := ⟨by unfold okD; rw [hb, h48]; simp⟩
          clear hkq hM HI h1 e1
          go_wp2_with (go_at_call 112; refine (within_any _ _).mono ?_; rintro e w2 ⟨rfl, hw⟩; rw [hw, hb])
          go_ret
          exact ⟨by rw [HV.out]; rfl, rfl⟩
        | true =>
          have z2 : (bt p 0 != 48) = false := by unfold bne; rw [h48]; rfl
          cases hs1 : decide (p.size = 1) with
          | true =>
            rw [hs1] at e1
            have e2 : decide ((p.size : Int) = 1) = true := decide_eq_true (by have := of_decide_eq_true hs1; omega)
            have HV : Aside0 (okD p p.size = true) := ⟨by unfold okD; rw [hb, h48, hs1]; rfl⟩
            clear hkq hM HI h1
            go_wp2_with (go_at_call 112; refine (within_any _ _).mono ?_; rintro e w2 ⟨rfl, hw⟩; rw [hw, hb])
            go_ret
            exact ⟨by rw [HV.out]; rfl, rfl⟩
          | false =>
            rw [hs1] at e1
            have e2 : decide ((p.size : Int) = 1) = false := decide_eq_false (by have := of_decide_eq_false hs1; omega)
            have HV : Aside0 (okD p p.size = false) := ⟨by unfold okD; rw [hb, h48, hs1]; rfl⟩
            clear hkq hM HI h1
            go_wp2_with (go_at_call 112; refine (within_any _ _).mono ?_; rintro e w2 ⟨rfl, hw⟩; rw [hw, hb])
            go_ret
            exact ⟨by rw [HV.out]; rfl, rfl⟩
    | succ g1 =>
      have hlt : n < p.size := by omega
      have c1 : decide ((n : Int) < (p.size : Int)) = true := decide_eq_true (by omega)
      have c2 : decide (n < p.size) = true := decide_eq_true hlt
      have p1 : (0 : Int) ≤ n := by omega
      have q1 : (n : Int) < (p.size : Int) := by omega
      have b1 := bt_at p n hlt
      have wr1 : wrap64 ((n : Int) + 1) = ((n + 1 : Nat) : Int) := by unfold wrap64; omega
      have hd := HA.out n hlt
      have HX : Aside0 (g1 + (n + 1) = p.size) := ⟨by omega⟩
      clear hkq hM HI
      go_wp2_with (go_at_call 85; refine (isDigit_any _ _).mono ?_; rintro e w2 ⟨rfl, hw⟩; rw [hw, hd])
      go_roundg g1
      case measure => omega
      case rel => exact ⟨n + 1, by rw [wr1], HX, rfl⟩
end Go.Proofs.YtmifmmpbmcfmpaaGreatDoor.IW
