/-
  Bytes of words.
-/
import Derived.Test.YtmifmmpbmcfmpaaGreatDoorIa
set_option linter.unusedVariables false
set_option linter.unusedSimpArgs false
namespace Go.Proofs.YtmifmmpbmcfmpaaGreatDoor.IW
open Go Go.RowKit
set_option maxRecDepth 100000

def alphaI (c : Int) : Bool := (decide (c ≥ 97) && decide (c ≤ 122)) || (decide (c ≥ 65) && decide (c ≤ 90)) || decide (c = 95)
def digitI (c : Int) : Bool := decide (c ≥ 48) && decide (c ≤ 57)

set_option maxHeartbeats 4000000 in
theorem isAlpha_any (c : Int) (w : World) : Calls Tryz.prog 84 #[.int .u8 c] w fun e w' => e = .returned (.bool (alphaI c)) ∧ w' = w := by
  obtain ⟨b1, h1⟩ : ∃ b, decide (c ≥ 97) = b := ⟨_, rfl⟩
  obtain ⟨b2, h2⟩ : ∃ b, decide (c ≤ 122) = b := ⟨_, rfl⟩
  obtain ⟨b3, h3⟩ : ∃ b, decide (c ≥ 65) = b := ⟨_, rfl⟩
  obtain ⟨b4, h4⟩ : ∃ b, decide (c ≤ 90) = b := ⟨_, rfl⟩
  obtain ⟨b5, h5⟩ : ∃ b, decide (c = 95) = b := ⟨_, rfl⟩
  have h6 : (c == 95) = b5 := by rw [← h5]; rfl
  have e : alphaI c = ((b1 && b2) || (b3 && b4) || b5) := by unfold alphaI; rw [h1, h2, h3, h4, h5]
  rw [e]
  clear e
  cases b1 <;> cases b2 <;> cases b3 <;> cases b4 <;> cases b5
  all_goals
    go_enter Tryz.func84, Tryz.ntmps84
    go_wp2
    go_ret
    exact ⟨rfl, rfl⟩

set_option maxHeartbeats 4000000 in
theorem isDigit_any (c : Int) (w : World) : Calls Tryz.prog 85 #[.int .u8 c] w fun e w' => e = .returned (.bool (digitI c)) ∧ w' = w := by
  obtain ⟨b1, h1⟩ : ∃ b, decide (c ≥ 48) = b := ⟨_, rfl⟩
  obtain ⟨b2, h2⟩ : ∃ b, decide (c ≤ 57) = b := ⟨_, rfl⟩
  have e : digitI c = (b1 && b2) := by unfold digitI; rw [h1, h2]
  rw [e]
  clear e
  cases b1 <;> cases b2
  all_goals
    go_enter Tryz.func85, Tryz.ntmps85
    go_wp2
    go_ret
    exact ⟨rfl, rfl⟩

set_option maxHeartbeats 8000000 in
theorem isWordByte_any (c : Int) (f : Bool) (w : World) : Calls Tryz.prog 60 #[.int .u8 c, .bool f] w fun e w' => e = .returned (.bool (alphaI c || (!f && digitI c))) ∧ w' = w := by
  obtain ⟨b1, h1⟩ : ∃ b, decide (c ≥ 97) = b := ⟨_, rfl⟩
  obtain ⟨b2, h2⟩ : ∃ b, decide (c ≤ 122) = b := ⟨_, rfl⟩
  obtain ⟨b3, h3⟩ : ∃ b, decide (c ≥ 65) = b := ⟨_, rfl⟩
  obtain ⟨b4, h4⟩ : ∃ b, decide (c ≤ 90) = b := ⟨_, rfl⟩
  obtain ⟨b5, h5⟩ : ∃ b, decide (c = 95) = b := ⟨_, rfl⟩
  obtain ⟨b6, h7⟩ : ∃ b, decide (c ≥ 48) = b := ⟨_, rfl⟩
  obtain ⟨b7, h8⟩ : ∃ b, decide (c ≤ 57) = b := ⟨_, rfl⟩
  have h6 : (c == 95) = b5 := by rw [← h5]; rfl
  have e : (alphaI c || (!f && digitI c)) = (((b1 && b2) || (b3 && b4) || b5) || (!f && (b6 && b7))) := by unfold alphaI digitI; rw [h1, h2, h3, h4, h5, h7, h8]
  rw [e]
  clear e
  cases b1 <;> cases b2 <;> cases b3 <;> cases b4 <;> cases b5 <;> cases f
  all_goals first
    | (go_enter Tryz.func60, Tryz.ntmps60
       go_wp2
       go_ret
       exact ⟨rfl, rfl⟩
       done)
    | (cases b6 <;> cases b7 <;>
        (go_enter Tryz.func60, Tryz.ntmps60
         go_wp2
         go_ret
         exact ⟨rfl, rfl⟩))

set_option maxHeartbeats 4000000 in
theorem isLetter_any (c : Int) (w : World) : Calls Tryz.prog 151 #[.int .u8 c] w fun e w' => e = .returned (.bool (alphaI c)) ∧ w' = w := by
  obtain ⟨b1, h1⟩ : ∃ b, decide (c ≥ 97) = b := ⟨_, rfl⟩
  obtain ⟨b2, h2⟩ : ∃ b, decide (c ≤ 122) = b := ⟨_, rfl⟩
  obtain ⟨b3, h3⟩ : ∃ b, decide (c ≥ 65) = b := ⟨_, rfl⟩
  obtain ⟨b4, h4⟩ : ∃ b, decide (c ≤ 90) = b := ⟨_, rfl⟩
  obtain ⟨b5, h5⟩ : ∃ b, decide (c = 95) = b := ⟨_, rfl⟩
  have h6 : (c == 95) = b5 := by rw [← h5]; rfl
  have e : alphaI c = ((b1 && b2) || (b3 && b4) || b5) := by unfold alphaI; rw [h1, h2, h3, h4, h5]
  rw [e]
  clear e
  cases b1 <;> cases b2 <;> cases b3 <;> cases b4 <;> cases b5
  all_goals
    go_enter Tryz.func151, Tryz.ntmps151
    go_wp2
    go_ret
    exact ⟨rfl, rfl⟩

set_option maxHeartbeats 4000000 in
theorem lexDigit_any (c : Int) (w : World) : Calls Tryz.prog 152 #[.int .u8 c] w fun e w' => e = .returned (.bool (digitI c)) ∧ w' = w := by
  obtain ⟨b1, h1⟩ : ∃ b, decide (c ≥ 48) = b := ⟨_, rfl⟩
  obtain ⟨b2, h2⟩ : ∃ b, decide (c ≤ 57) = b := ⟨_, rfl⟩
  have e : digitI c = (b1 && b2) := by unfold digitI; rw [h1, h2]
  rw [e]
  clear e
  cases b1 <;> cases b2
  all_goals
    go_enter Tryz.func152, Tryz.ntmps152
    go_wp2
    go_ret
    exact ⟨rfl, rfl⟩

set_option maxHeartbeats 1000000 in
theorem shortWord_any (n : Nat) (w : World) : Calls Tryz.prog 86 #[.int .i64 n] w fun e w' => e = .returned (.int .i64 (if n > 12 then 0 else n : Nat)) ∧ w' = w := by
  by_cases h : n > 12
  · have c1 : decide ((n : Int) > 12) = true := decide_eq_true (by omega)
    have c2 : decide (12 < n) = true := decide_eq_true (by omega)
    rw [if_pos h]
    go_enter Tryz.func86, Tryz.ntmps86
    go_wp2
    go_ret
    exact ⟨rfl, rfl⟩
  · have c1 : decide ((n : Int) > 12) = false := decide_eq_false (by omega)
    have c2 : decide (12 < n) = false := decide_eq_false (by omega)
    rw [if_neg h]
    go_enter Tryz.func86, Tryz.ntmps86
    go_wp2
    go_ret
    exact ⟨rfl, rfl⟩
end Go.Proofs.YtmifmmpbmcfmpaaGreatDoor.IW
