/-
  strings.Trim of a text that is of bytes of the cutset alone.
-/
import Derived.Test.YtmifmmpbmcfmpaaGreatDoorJf
import Derived.Shelf.Strings.SlTrimAsciiWalks
set_option linter.unusedVariables false
set_option linter.unusedSimpArgs false
namespace Go.Proofs.YtmifmmpbmcfmpaaGreatDoor.IW
open Go Go.RowKit
set_option maxRecDepth 100000

theorem zero150 : ∀ w, (zeroValue 150).run Tryz.prog w = .ok (.agg (Array.replicate 256 (.bool false))) w := fun w => by
  rw [Tryz.zeroValue150 w, show Tryz.zeroCells150 = Array.replicate 256 (.bool false) by kernel_rfl]
theorem size150 : (Tryz.prog.info? 150).map (·.size) = some 256 := by kernel_rfl
theorem below_alloc2 (w : World) (o o2 : Obj) : Below w.heap.size w ((w.alloc o).alloc o2) := by
  refine ⟨rfl, rfl, rfl, by show _ ≤ ((w.heap.push o).push o2).size; simp; omega, fun k hk => ?_⟩
  show ((w.heap.push o).push o2)[k]? = _
  rw [Array.getElem?_push, if_neg (by simp; omega), Array.getElem?_push, if_neg (by omega)]

theorem trim_all {l cs : List UInt8} (h : ∀ x ∈ l, cs.contains x = true) : Lib.trimLeftS (Lib.trimRightS l cs) cs = [] := by
  have d : ∀ l : List UInt8, (∀ x ∈ l, cs.contains x = true) → l.dropWhile (cs.contains ·) = [] := by
    intro l
    induction l with
    | nil => intro _; rfl
    | cons x l ih =>
      intro h
      rw [List.dropWhile_cons, if_pos (h x (List.mem_cons_self ..))]
      exact ih fun y hy => h y (List.mem_cons_of_mem _ hy)
  unfold Lib.trimLeftS Lib.trimRightS
  rw [d l.reverse fun x hx => h x (List.mem_reverse.1 hx)]
  rfl

set_option maxHeartbeats 1000000 in
theorem trim_any (s cutset : ByteArray) (w : World) (h2 : 2 ≤ cutset.size) (h0 : 0 < s.size) (hs : s.size ≤ 1000000) (hcs : cutset.size < 1000)
    (hascii : ∀ (j : Nat) b, cutset.data.toList[j]? = some b → b.toNat < 128) (hall : ∀ x ∈ s.data.toList, cutset.data.toList.contains x = true) :
    Calls Tryz.prog 92 #[.string s, .string cutset] w fun e w' => e = .returned (.string ⟨#[]⟩) ∧ Below w.heap.size w w' := by
  have hM := SH.strings_makeASCIISet zero150 cutset w (by omega) hascii
  clear hascii
  have he : Tryz.zeroCells150 = Array.replicate 256 (.bool false) := by kernel_rfl
  have hemp : cutset.toList.isEmpty = false := by
    cases hl : cutset.toList with
    | nil => have := toList_nil.1 hl; omega
    | cons x l => rfl
  have hemps : s.toList.isEmpty = false := by
    cases hl : s.toList with
    | nil => have := toList_nil.1 hl; omega
    | cons x l => rfl
  have hn1 : ((cutset.size : Int) == 1) = false := beq_eq_false_iff_ne.2 (by omega)
  have hsc : (storeCells ⟨w.heap.size + 1, 0, none⟩ (Lib.setCells cutset.data.toList).toList 0).run Tryz.prog ((w.alloc (.cells (Lib.setCells cutset.data.toList) 150)).alloc (.cells (Array.replicate 256 (.bool false)) 150)) = .ok () ((w.alloc (.cells (Lib.setCells cutset.data.toList) 150)).alloc (.cells (Lib.setCells cutset.data.toList) 150)) := by
    have := run_storeCells_new (P := Tryz.prog) (w.alloc (.cells (Lib.setCells cutset.data.toList) 150)) 150 (Array.replicate 256 (.bool false)) (Lib.setCells cutset.data.toList) (by rw [Lib.setCells_size]; exact size150) (by rw [Lib.setCells_size, Array.size_replicate]) (Lib.setCells_one _)
    simpa using this
  have hsz := Lib.setCells_size cutset.data.toList
  have hcellAt : ∀ x : UInt8, ((w.alloc (.cells (Lib.setCells cutset.data.toList) 150)).alloc (.cells (Lib.setCells cutset.data.toList) 150)).cell? ⟨w.heap.size + 1, x.toNat, none⟩ = some (.bool (cutset.data.toList.contains x)) := fun x => by
    rw [World.cell?_alloc_at _ _ _ _ (by simp), Lib.setCells_at]
  have HC := Aside0.mk hcellAt
  have HA := Aside0.mk (trim_all hall)
  have HS : Aside0 (s.size ≤ 9223372036854775807) := ⟨by omega⟩
  clear hcellAt hall hs hcs h2 h0
  go_enter Tryz.func92, Tryz.ntmps92
  go_wp2_with (go_at_call 119; refine hM.mono ?_; rintro e w' ⟨rfl, hw⟩; rw [hw])
  all_goals clear hM hsc he
  all_goals go_wp2_with (first
    | (go_at_call 121; refine (SH.strings_trimRightASCII s (w.heap.size + 1) cutset.data.toList _ HS.out HC.out).mono ?_; rintro e w' ⟨rfl, hw⟩; rw [hw])
    | (go_at_call 120; refine (SH.strings_trimLeftASCII _ (w.heap.size + 1) cutset.data.toList _ HC.out).mono ?_; rintro e w' ⟨rfl, hw⟩; rw [hw]))
  go_ret
  refine ⟨?_, below_alloc2 w _ _⟩
  show Ending.returned (Value.string ⟨(Lib.trimLeftS (Lib.trimRightS s.data.toList cutset.data.toList) cutset.data.toList).toArray⟩) = _
  rw [HA.out]
end Go.Proofs.YtmifmmpbmcfmpaaGreatDoor.IW
