/-
  Inter of both.
-/
import Derived.Test.YtmifmmpbmcfmpaaGreatDoorKe
set_option linter.unusedVariables false
set_option linter.unusedSimpArgs false
namespace Go.Proofs.YtmifmmpbmcfmpaaGreatDoor.IW
open Go Go.RowKit Go.Proofs.YtmifmmpbmcfmpaaGreatDoor.MkW
set_option maxRecDepth 100000

theorem run_reach (raw : ByteArray) : ∀ (f p : Nat) (st : St), Reach raw p st → ∃ p', Reach raw p' (run raw f p st)
  | 0, p, st, h => ⟨p, h⟩
  | f + 1, p, st, h => by
    unfold run
    split
    · rename_i hp; exact run_reach raw f _ _ (h.step hp)
    · exact ⟨p, h⟩
theorem scalar_l (u : ByteArray) : (scalarOf u).2.l.length ≤ 2 := by
  unfold scalarOf
  split
  · split
    · exact Nat.zero_le _
    · exact Nat.zero_le _
  · split
    · exact Nat.le_refl _
    · split
      · exact Nat.le_refl _
      · exact Nat.zero_le _
theorem array_l (u : ByteArray) : (arrayOf u).2.l.length ≤ 2 := by
  unfold arrayOf; split <;> exact Nat.zero_le _
theorem fl_l {bs : List UInt8} {nds : List Nd} (h : ∀ x ∈ nds, x.l.length ≤ 2) : ∀ x ∈ fl bs nds, x.l.length ≤ 2 := by
  intro x hx
  unfold fl at hx
  split at hx
  · exact h x hx
  · rcases List.mem_append.1 hx with hx | hx
    · exact h x hx
    · rw [List.mem_singleton.1 hx]; exact Nat.zero_le _
theorem run_l (raw : ByteArray) : ∀ (f p : Nat) (st : St), (∀ x ∈ st.2, x.l.length ≤ 2) → ∀ x ∈ (run raw f p st).2, x.l.length ≤ 2
  | 0, p, st, h => h
  | f + 1, p, st, h => by
    unfold run
    split
    · refine run_l raw f _ _ ?_
      intro x hx
      unfold step at hx
      split at hx
      · exact h x hx
      · split at hx
        · rcases List.mem_append.1 hx with hx | hx
          · exact fl_l h x hx
          · rw [List.mem_singleton.1 hx]; exact scalar_l _
        · split at hx
          · rcases List.mem_append.1 hx with hx | hx
            · exact fl_l h x hx
            · rw [List.mem_singleton.1 hx]; exact array_l _
          · exact h x hx
    · exact h
def iL (raw : ByteArray) : List Nd := if raw.size > 4096 then [] else topL raw
def iOp (raw : ByteArray) : Int := if raw.size > 4096 then 0 else topOp raw
def iS (raw : ByteArray) : ByteArray := if raw.size > 4096 then ⟨#[]⟩ else topS raw
def iE (raw : ByteArray) : Int := if raw.size > 4096 then 3 else 0
theorem i_big {raw : ByteArray} (h : raw.size > 4096) : iOp raw = 0 ∧ iS raw = ⟨#[]⟩ ∧ iE raw = 3 ∧ iL raw = [] := by
  unfold iOp iS iE iL; rw [if_pos h, if_pos h, if_pos h, if_pos h]; exact ⟨rfl, rfl, rfl, rfl⟩
theorem i_small {raw : ByteArray} (h : ¬ raw.size > 4096) : iOp raw = topOp raw ∧ iS raw = topS raw ∧ iE raw = 0 ∧ iL raw = topL raw := by
  unfold iOp iS iE iL; rw [if_neg h, if_neg h, if_neg h, if_neg h]; exact ⟨rfl, rfl, rfl, rfl⟩
theorem iL_small (raw : ByteArray) : (iL raw).length ≤ 100000 ∧ ∀ x ∈ iL raw, x.l.length ≤ 100000 := by
  unfold iL
  split
  · exact ⟨Nat.zero_le _, fun x hx => by simp at hx⟩
  · rename_i h
    unfold topL
    split
    · exact ⟨Nat.zero_le _, fun x hx => by simp at hx⟩
    · obtain ⟨p', hp⟩ := run_reach raw raw.size 0 ([], []) (Reach.zero raw)
      have h1 := hp.nodes
      have h2 := hp.le
      have h3 := fl_len (readOf raw).1 (readOf raw).2
      refine ⟨?_, fun x hx => ?_⟩
      · have h4 : (readOf raw).2.length ≤ 2 * p' := h1
        omega
      · have := fl_l (run_l raw raw.size 0 ([], []) (fun x hx => by simp at hx)) x hx
        omega

set_option maxHeartbeats 1000000 in
theorem rinter_any (raw : ByteArray) (w : World) : Calls Tryz.prog 5 #[.string raw] w fun e w' => ∃ v, e = .returned (.tuple #[ndV (iOp raw) (iS raw) 0 v, .int .i64 (iE raw)]) ∧ Below w.heap.size w w' ∧ Lst w' w.heap.size v (iL raw) := by
  have HK := Aside0.mk (heap_alloc_new w (.cells #[.int .i64 0, .string ⟨#[]⟩, .string ⟨#[]⟩, .int .i64 0, .slice none 0 0] 25))
  have HB := Aside0.mk (below_alloc w (.cells #[.int .i64 0, .string ⟨#[]⟩, .string ⟨#[]⟩, .int .i64 0, .slice none 0 0] 25))
  obtain ⟨WA, hWA⟩ : ∃ WA, WA = w.alloc (.cells #[.int .i64 0, .string ⟨#[]⟩, .string ⟨#[]⟩, .int .i64 0, .slice none 0 0] 25) := ⟨_, rfl⟩
  have hsA : WA.heap.size = w.heap.size + 1 := by rw [hWA]; show (w.heap.push _).size = _; simp
  rw [← hWA] at HK HB
  have HSA := Aside0.mk hsA
  obtain ⟨k0, k1, k2, k3, k4, kf⟩ := nd_block HK.out
  have HZ := Aside0.mk (storeNd_same HK.out)
  by_cases hb : raw.size > 4096
  · have c1 : decide ((raw.size : Int) > 4096) = true := decide_eq_true (by omega)
    have c2 : decide (4096 < raw.size) = true := decide_eq_true hb
    have HI := Aside0.mk (i_big hb)
    clear hb hsA
    go_enter Tryz.func5, Tryz.ntmps5
    go_wp2_with first | rw [← hWA] | (rw [HZ.out]; clear HZ)
    refine bodyPost_ret (results_nd2 rfl rfl rfl HK.out) rfl ?_
    refine ⟨.slice none 0 0, by rw [HI.out.1, HI.out.2.1, HI.out.2.2.1]; rfl, HB.out, ?_⟩
    rw [HI.out.2.2.2]; exact Lst.nil _ _
  · have c1 : decide ((raw.size : Int) > 4096) = false := decide_eq_false (by omega)
    have c2 : decide (4096 < raw.size) = false := decide_eq_false hb
    have HI := Aside0.mk (i_small hb)
    have HS : Aside0 (raw.size ≤ 4096) := ⟨by omega⟩
    clear hb hsA
    go_enter Tryz.func5, Tryz.ntmps5
    go_wp2_with first | rw [← hWA] | (go_at_call 10; refine (rinterp_any _ _ HS.out).mono ?_; rintro e w2 ⟨v, rfl, hB2, hL⟩; obtain ⟨A, n, c, hv⟩ := hL.form; subst hv; have HB2 := Aside0.mk hB2; have HL := Aside0.mk hL; have hg0 := (hB2.block w.heap.size (by rw [HSA.out]; omega)).trans HK.out; have HG0 := Aside0.mk hg0; clear k0 k1 k2 k3 k4 kf HZ; obtain ⟨k0, k1, k2, k3, k4, kf⟩ := nd_block hg0; clear hB2 hL hg0)
    generalize hwf : storeNd w2 w.heap.size 0 0 (topOp raw) (topS raw) 0 (.slice A n c) = wf
    have hf2 := storeNd_zero HG0.out 0 (topOp raw) (topS raw) 0 (.slice A n c)
    rw [hwf] at hf2
    have h2 := hwf
    unfold storeNd at h2
    simp only [Nat.zero_add] at h2
    rw [h2]
    refine bodyPost_ret (results_nd2 rfl rfl rfl hf2) rfl ?_
    refine ⟨.slice A n c, by rw [HI.out.1, HI.out.2.1, HI.out.2.2.1]; rfl, by rw [← hwf]; exact storeNd_below (HB.out.trans (HB2.out.mono HB.out.size)) (Nat.le_refl _) _ _ _ _ _ _, ?_⟩
    rw [HI.out.2.2.2, ← hwf]
    exact HL.out.ge (by rw [HSA.out]; omega) (fun k hk => storeNd_other (by rw [HSA.out] at hk; omega))

set_option maxHeartbeats 1000000 in
theorem tinter_any (raw : ByteArray) (w : World) (hv : EV w) : Calls Tryz.prog 6 #[.string raw] w fun e w' => ∃ v, e = .returned (.tuple #[ndV (iOp raw) (iS raw) 0 v, .int .i64 (iE raw)]) ∧ Below w.heap.size w w' ∧ Lst w' w.heap.size v (iL raw) := by
  have HK := Aside0.mk (heap_alloc_new w (.cells #[.int .i64 0, .string ⟨#[]⟩, .string ⟨#[]⟩, .int .i64 0, .slice none 0 0] 25))
  have HB := Aside0.mk (below_alloc w (.cells #[.int .i64 0, .string ⟨#[]⟩, .string ⟨#[]⟩, .int .i64 0, .slice none 0 0] 25))
  obtain ⟨WA, hWA⟩ : ∃ WA, WA = w.alloc (.cells #[.int .i64 0, .string ⟨#[]⟩, .string ⟨#[]⟩, .int .i64 0, .slice none 0 0] 25) := ⟨_, rfl⟩
  have hsA : WA.heap.size = w.heap.size + 1 := by rw [hWA]; show (w.heap.push _).size = _; simp
  rw [← hWA] at HK HB
  have HVA := Aside0.mk (hv.below HB.out)
  clear hv
  have HSA := Aside0.mk hsA
  obtain ⟨k0, k1, k2, k3, k4, kf⟩ := nd_block HK.out
  have HZ := Aside0.mk (storeNd_same HK.out)
  by_cases hb : raw.size > 4096
  · have c1 : decide ((raw.size : Int) > 4096) = true := decide_eq_true (by omega)
    have c2 : decide (4096 < raw.size) = true := decide_eq_true hb
    have HI := Aside0.mk (i_big hb)
    clear hb hsA
    go_enter Tryz.func6, Tryz.ntmps6
    go_wp2_with first | rw [← hWA] | (rw [HZ.out]; clear HZ)
    refine bodyPost_ret (results_nd2 rfl rfl rfl HK.out) rfl ?_
    refine ⟨.slice none 0 0, by rw [HI.out.1, HI.out.2.1, HI.out.2.2.1]; rfl, HB.out, ?_⟩
    rw [HI.out.2.2.2]; exact Lst.nil _ _
  · have c1 : decide ((raw.size : Int) > 4096) = false := decide_eq_false (by omega)
    have c2 : decide (4096 < raw.size) = false := decide_eq_false hb
    have HI := Aside0.mk (i_small hb)
    have HS : Aside0 (raw.size ≤ 4096) := ⟨by omega⟩
    clear hb hsA
    go_enter Tryz.func6, Tryz.ntmps6
    go_wp2_with first | rw [← hWA] | (go_at_call 11; refine (tparts_any _ _ HS.out HVA.out).mono ?_; rintro e w2 ⟨v, rfl, hB2, hL⟩; obtain ⟨A, n, c, hv⟩ := hL.form; subst hv; have HB2 := Aside0.mk hB2; have HL := Aside0.mk hL; have hg0 := (hB2.block w.heap.size (by rw [HSA.out]; omega)).trans HK.out; have HG0 := Aside0.mk hg0; clear k0 k1 k2 k3 k4 kf HZ; obtain ⟨k0, k1, k2, k3, k4, kf⟩ := nd_block hg0; clear hB2 hL hg0)
    generalize hwf : storeNd w2 w.heap.size 0 0 (topOp raw) (topS raw) 0 (.slice A n c) = wf
    have hf2 := storeNd_zero HG0.out 0 (topOp raw) (topS raw) 0 (.slice A n c)
    rw [hwf] at hf2
    have h2 := hwf
    unfold storeNd at h2
    simp only [Nat.zero_add] at h2
    rw [h2]
    refine bodyPost_ret (results_nd2 rfl rfl rfl hf2) rfl ?_
    refine ⟨.slice A n c, by rw [HI.out.1, HI.out.2.1, HI.out.2.2.1]; rfl, by rw [← hwf]; exact storeNd_below (HB.out.trans (HB2.out.mono HB.out.size)) (Nat.le_refl _) _ _ _ _ _ _, ?_⟩
    rw [HI.out.2.2.2, ← hwf]
    exact HL.out.ge (by rw [HSA.out]; omega) (fun k hk => storeNd_other (by rw [HSA.out] at hk; omega))
end Go.Proofs.YtmifmmpbmcfmpaaGreatDoor.IW
