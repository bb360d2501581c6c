import Derived.Test.YtmifmmpbmcfmpaaGreatDoorM0
import Derived.Test.YtmifmmpbmcfmpaaGreatDoorM1
import Derived.Test.YtmifmmpbmcfmpaaGreatDoorM2
import Derived.Test.YtmifmmpbmcfmpaaGreatDoorM3
set_option linter.unusedVariables false
set_option linter.unusedSimpArgs false
namespace Go.Proofs.YtmifmmpbmcfmpaaGreatDoor.S2T
open Go Go.S2
set_option maxRecDepth 100000
theorem C1_good (N0 : Nat) : S2.Good C1 Go.Proofs.Tryz.prog N0 :=
  S2.Good.memo (C0_good N0) 1000 _ (by
    simp only [List.mem_cons, List.not_mem_nil, or_false, forall_eq_or_imp, forall_eq]
    exact ⟨⟨1000, okM0⟩, ⟨1000, okM1⟩, ⟨1000, okM2⟩, ⟨1000, okM3⟩⟩)
theorem C2_good (N0 : Nat) : S2.Good C2 Go.Proofs.Tryz.prog N0 :=
  S2.Good.memo (C1_good N0) 1000 _ (by
    simp only [List.mem_cons, List.not_mem_nil, or_false, forall_eq_or_imp, forall_eq]
    exact ⟨⟨1000, okM4⟩, ⟨1000, okM5⟩, ⟨1000, okM6⟩⟩)
theorem C3_good (N0 : Nat) : S2.Good C3 Go.Proofs.Tryz.prog N0 :=
  S2.Good.memo (C2_good N0) 1000 _ (by
    simp only [List.mem_cons, List.not_mem_nil, or_false, forall_eq_or_imp, forall_eq]
    exact ⟨⟨1000, okM7⟩, ⟨⟨1000, okM8⟩, ⟨1000, okM9⟩⟩⟩)
theorem C4_good (N0 : Nat) : S2.Good C4 Go.Proofs.Tryz.prog N0 :=
  S2.Good.memo (C3_good N0) 1000 _ (by
    simp only [List.mem_cons, List.not_mem_nil, or_false, forall_eq_or_imp, forall_eq]
    exact ⟨1000, okM10⟩)

theorem isTrueRes_s {r : Res} (h : isTrueRes r = true) : ∃ h1, r = .ok (.bool true) h1 := by
  unfold isTrueRes at h
  split at h
  · subst h; exact ⟨_, rfl⟩
  · cases h

theorem known_run : isTrueRes (runA C4 1000 4 [] (smallH [(0, glob0)])) = true := by decide +kernel

/-- The package variables that the run of 'known' reads. -/
theorem known_calls {w : World} (hl : Laid C4 w [(0, glob0)]) : Calls Go.Proofs.Tryz.prog 4 #[] w fun e w' => e = .returned (.bool true) ∧ (∀ c, c < w.heap.size → w'.heap[c]? = w.heap[c]?) ∧ w.heap.size ≤ w'.heap.size ∧ w'.os = w.os ∧ w'.tape = w.tape ∧ w'.output = w.output := by
  obtain ⟨h1, hr⟩ := isTrueRes_s known_run
  obtain ⟨c, hb⟩ : ∃ c, Go.Proofs.Tryz.f4.body = some c := ⟨_, rfl⟩
  refine (call_small C4_good Go.Proofs.Tryz.func4 hb (by decide +kernel) (by decide +kernel) (by decide) rfl rfl hr hl (by simp [VRs])).mono fun e w' ⟨u, e1, e2, e3⟩ => ⟨?_, e3⟩
  simp only [VR] at e2
  rw [e1, e2]
end Go.Proofs.YtmifmmpbmcfmpaaGreatDoor.S2T
