/-
  The number that digits are.
-/
import Derived.Test.YtmifmmpbmcfmpaaGreatDoorJi
set_option linter.unusedVariables false
set_option linter.unusedSimpArgs false
namespace Go.Proofs.YtmifmmpbmcfmpaaGreatDoor.IW
open Go Go.RowKit
set_option maxRecDepth 100000

/-- The number that the first n digits are. -/
def upTo (p : ByteArray) (n : Nat) : Nat := numF 0 (p.data.toList.take n)
theorem upTo_step (p : ByteArray) (n : Nat) (h : n < p.size) (hd : 48 ≤ bt p n ∧ bt p n ≤ 57) : ((upTo p (n + 1) : Nat) : Int) = (upTo p n : Nat) * 10 + (bt p n - 48) := by
  have hl : n < p.data.toList.length := by simpa using h
  have e := bt_list p n
  rw [List.getElem?_eq_getElem hl] at e
  simp only [Option.map_some, Option.getD_some] at e
  unfold upTo
  rw [List.take_add_one, List.getElem?_eq_getElem hl]
  simp only [numF, List.foldl_append, Option.toList_some, List.foldl_cons, List.foldl_nil]
  omega
theorem upTo_lt (p : ByteArray) (h : AllD p) (n : Nat) (hn : n ≤ 15) : upTo p n < 10 ^ 15 := by
  have h2 := numF_lt (p.data.toList.take n) 0 0 (fun x hx => h.mem (List.mem_of_mem_take hx)) (by decide)
  have h3 : (10 : Nat) ^ (0 + (p.data.toList.take n).length) ≤ 10 ^ 15 := Nat.pow_le_pow_right (by decide) (by rw [List.length_take]; omega)
  unfold upTo
  omega
theorem upTo_all (p : ByteArray) : upTo p p.size = numV p := by
  unfold upTo numV
  rw [List.take_of_length_le (by simp)]

set_option maxHeartbeats 1000000 in
theorem rnumber_any (p : ByteArray) (w : World) (h : AllD p) (h15 : p.size ≤ 15) : Calls Tryz.prog 88 #[.string p] w fun e w' => e = .returned (.int .i64 (numV p : Nat)) ∧ w' = w := by
  have HA := Aside0.mk h
  have HM := Aside0.mk h15
  clear h h15
  go_enter Tryz.func88, Tryz.ntmps88
  go_wp2
  go_loopg [3, 4] p.size (fun kq v3 v4 w' => ∃ n m : Nat, v3 = .int .i64 m ∧ v4 = .int .i64 n ∧ m = upTo p n ∧ Aside0 (kq + n = p.size) ∧ w' = w)
  case atStart => exact ⟨0, 0, rfl, rfl, rfl, ⟨by omega⟩, rfl⟩
  case round =>
    obtain ⟨n, m, rfl, rfl, hu, HI, rfl⟩ := hrel
    have hkq := HI.out
    have hM := HM.out
    cases gk with
    | zero =>
      have c1 : decide ((n : Int) < (p.size : Int)) = false := decide_eq_false (by omega)
      have c2 : decide (n < p.size) = false := decide_eq_false (by omega)
      have HV : Aside0 (m = numV p) := ⟨by rw [hu, ← upTo_all, show n = p.size by omega]⟩
      clear hkq hM HI hu
      go_wp2
      go_ret
      exact ⟨by rw [HV.out]; rfl, rfl⟩
    | succ g1 =>
      have hlt : n < p.size := by omega
      have c1 : decide ((n : Int) < (p.size : Int)) = true := decide_eq_true (by omega)
      have c2 : decide (n < p.size) = true := decide_eq_true hlt
      have p1 : (0 : Int) ≤ n := by omega
      have q1 : (n : Int) < (p.size : Int) := by omega
      have b1 := bt_at p n hlt
      have wr1 : wrap64 ((n : Int) + 1) = ((n + 1 : Nat) : Int) := by unfold wrap64; omega
      have hd : 48 ≤ bt p n ∧ bt p n ≤ 57 := by simpa [digitI] using HA.out n hlt
      have hs := upTo_step p n hlt hd
      have hlt2 := upTo_lt p HA.out n (by omega)
      have HU := Aside0.mk hs
      have HG : Aside0 (g1 + (n + 1) = p.size) := ⟨by omega⟩
      have hb2 : (m : Int) < 1000000000000000 := by rw [hu]; omega
      clear hkq hM HI hs hlt2
      go_wp2
      go_roundg g1
      case measure => omega
      case rel =>
        exact ⟨n + 1, upTo p (n + 1), by rw [HU.out], by rw [wr1], rfl, HG, rfl⟩
end Go.Proofs.YtmifmmpbmcfmpaaGreatDoor.IW
