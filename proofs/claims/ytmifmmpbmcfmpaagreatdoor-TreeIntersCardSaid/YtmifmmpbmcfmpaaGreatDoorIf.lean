/-
  strings.Builder inside a struct: String.
-/
import Derived.Test.YtmifmmpbmcfmpaaGreatDoorIe
set_option linter.unusedVariables false
set_option linter.unusedSimpArgs false
namespace Go.Proofs.YtmifmmpbmcfmpaaGreatDoor.IW
open Go Go.RowKit Go.Proofs.YtmifmmpbmcfmpaaGreatDoor.MkW
set_option maxRecDepth 100000

theorem cells5_one : Tryz.prog.cellsOf 5 = 1 := by kernel_rfl

set_option maxHeartbeats 1000000 in
theorem string_some (w : World) (b g cap cells : Nat) (l : List UInt8) (h0 : l ≠ []) (h2 : w.cell? ⟨b, 2, none⟩ = some (.slice (some ⟨g, 0, none⟩) l.length (cap + 1))) (hsh : w.shape? g = some (5, cells)) (hn : l.length ≤ cells) (h63 : l.length ≤ 100000)
    (hcell : ∀ j x, l[j]? = some x → w.cell? ((⟨g, 0, none⟩ : Addr).add j) = some (.int .u8 x.toNat)) :
    Calls Tryz.prog 26 #[.pointer (some ⟨b, 1, none⟩)] w fun e w' => e = .returned (.string ⟨l.toArray⟩) ∧ w' = w.drew.freeze ⟨g, 0, none⟩ l.length := by
  have hs := Lib.run_unsafeString_row (P := Tryz.prog) w.drew 94 3 9 5 Tryz.underlying94 cells5_one g cells hsh l h0 hn (by omega) hcell
  have hd := fun W => Lib.run_unsafeSliceData_row (P := Tryz.prog) W #[46] 94 ⟨g, 0, none⟩ l.length (cap + 1) (by omega)
  clear hcell hsh hn h0 h63
  go_enter Tryz.func26, Tryz.ntmps26
  go_wp2
  go_still_tail 10, (by kernel_rfl)
  change wpList _ _ _ _ _ (World.drew w)
  go_wp2
  go_ret
  exact ⟨rfl, rfl⟩

set_option maxHeartbeats 1000000 in
theorem string_none (w : World) (b : Nat) (h2 : w.cell? ⟨b, 2, none⟩ = some (.slice none 0 0)) :
    Calls Tryz.prog 26 #[.pointer (some ⟨b, 1, none⟩)] w fun e w' => e = .returned (.string ⟨#[]⟩) ∧ w' = w.drew := by
  have hs := Lib.run_unsafeString_none (P := Tryz.prog) w.drew 94 3 9 none
  have hd := fun W => Lib.run_unsafeSliceData_nil (P := Tryz.prog) W #[46] 94 0 0
  go_enter Tryz.func26, Tryz.ntmps26
  go_wp2
  go_still_tail 10, (by kernel_rfl)
  change wpList _ _ _ _ _ (World.drew w)
  go_wp2
  go_ret
  exact ⟨rfl, rfl⟩
end Go.Proofs.YtmifmmpbmcfmpaaGreatDoor.IW
