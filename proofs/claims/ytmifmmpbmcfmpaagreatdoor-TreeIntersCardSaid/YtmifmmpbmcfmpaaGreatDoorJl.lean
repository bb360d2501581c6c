/-
  The place in brackets: the program's function.
-/
import Derived.Test.YtmifmmpbmcfmpaaGreatDoorJk
set_option linter.unusedVariables false
set_option linter.unusedSimpArgs false
namespace Go.Proofs.YtmifmmpbmcfmpaaGreatDoor.IW
open Go Go.RowKit
set_option maxRecDepth 100000

/-- Two new nodes of zeros. -/
structure Two (w X : World) : Prop where
  B : Below w.heap.size w X
  g0 : X.heap[w.heap.size]? = some (.cells #[.int .i64 0, .string ⟨#[]⟩, .string ⟨#[]⟩, .int .i64 0, .slice none 0 0] 25 (0, 0))
  g1 : X.heap[w.heap.size + 1]? = some (.cells #[.int .i64 0, .string ⟨#[]⟩, .string ⟨#[]⟩, .int .i64 0, .slice none 0 0] 25 (0, 0))
theorem Two.step {w X Y : World} (h : Two w X) (hB : Below X.heap.size X Y) : Two w Y := by
  have h0 := (Array.getElem?_eq_some_iff.1 h.g0).1
  have h1 := (Array.getElem?_eq_some_iff.1 h.g1).1
  refine ⟨h.B.trans (hB.mono h.B.size), ?_, ?_⟩
  · rw [hB.block _ h0]; exact h.g0
  · rw [hB.block _ h1]; exact h.g1
theorem two_new (w : World) : Two w ((w.alloc (.cells #[.int .i64 0, .string ⟨#[]⟩, .string ⟨#[]⟩, .int .i64 0, .slice none 0 0] 25)).alloc (.cells #[.int .i64 0, .string ⟨#[]⟩, .string ⟨#[]⟩, .int .i64 0, .slice none 0 0] 25)) := by
  have h1 := below_alloc w (.cells #[.int .i64 0, .string ⟨#[]⟩, .string ⟨#[]⟩, .int .i64 0, .slice none 0 0] 25)
  have h2 := below_alloc (w.alloc (.cells #[.int .i64 0, .string ⟨#[]⟩, .string ⟨#[]⟩, .int .i64 0, .slice none 0 0] 25)) (.cells #[.int .i64 0, .string ⟨#[]⟩, .string ⟨#[]⟩, .int .i64 0, .slice none 0 0] 25)
  have hs : (w.alloc (.cells #[.int .i64 0, .string ⟨#[]⟩, .string ⟨#[]⟩, .int .i64 0, .slice none 0 0] 25)).heap.size = w.heap.size + 1 := by show (w.heap.push _).size = _; simp
  refine ⟨h1.trans (h2.mono h1.size), ?_, ?_⟩
  · rw [h2.block _ (by omega)]; exact heap_alloc_new _ _
  · rw [← hs]; exact heap_alloc_new _ _
/-- One of them is written, and the other is as it was. -/
structure One (w X : World) (op : Int) (t : ByteArray) (n : Int) : Prop where
  B : Below w.heap.size w X
  g0 : X.heap[w.heap.size]? = some (.cells #[.int .i64 0, .string ⟨#[]⟩, .string ⟨#[]⟩, .int .i64 0, .slice none 0 0] 25 (0, 0))
  g1 : X.heap[w.heap.size + 1]? = some (.cells #[.int .i64 op, .string t, .string ⟨#[]⟩, .int .i64 n, .slice none 0 0] 25 (0, 0))
theorem Two.write {w X : World} (h : Two w X) (op : Int) (t : ByteArray) (n : Int) : One w (storeNd X (w.heap.size + 1) 0 0 op t n (.slice none 0 0)) op t n := by
  refine ⟨storeNd_below h.B (by omega) _ _ _ _ _ _, ?_, storeNd_zero h.g1 _ _ _ _ _⟩
  rw [storeNd_other (by omega)]; exact h.g0
theorem numN_fits {s : ByteArray} {d : Nat} (h : numN s = d) (h0 : d ≠ 0) : AllD (s.extract 0 d) ∧ d ≤ 15 := by
  have h1 := digLen_spec s
  have h2 := numN_le s
  unfold numN at h
  split at h
  · rename_i hk
    rw [h] at h1 hk
    refine ⟨fun i hi => ?_, ?_⟩
    · rw [size_ext _ _ _ (by have := h1.2.1; omega)] at hi
      rw [bt_ext _ _ _ _ hi]
      exact h1.1 i (by omega)
    · unfold okD at hk
      simp only [Bool.and_eq_true, decide_eq_true_eq] at hk
      exact hk.1.2
  · exact absurd h.symm h0
theorem place_num_no {s : ByteArray} {d : Nat} (h : bt s 0 = 91) (hd : numN (s.extract 1 s.size) = d) (h0 : d ≠ 0) (h93 : bt s (d + 1) ≠ 93) : placeOf s = (0, noLf) := by
  unfold placeOf; rw [if_pos h, hd, if_pos h0, if_neg h93]
theorem wrB (d S : Nat) (h : 1 + d ≤ S) (hS : S ≤ 1000000) : (0 : Int) ≤ wrap64 (1 + (d : Int)) ∧ wrap64 (1 + (d : Int)) ≤ (S : Int) ∧ (wrap64 (1 + (d : Int))).toNat = 1 + d ∧ wrap64 (1 + (d : Int)) = ((1 + d : Nat) : Int) := by
  have e : wrap64 (1 + (d : Int)) = ((1 + d : Nat) : Int) := by unfold wrap64; omega
  rw [e]
  exact ⟨by omega, by omega, Int.toNat_natCast _, rfl⟩
theorem wrC (m S : Nat) (h : 2 + m ≤ S) (hS : S ≤ 1000000) : (0 : Int) ≤ wrap64 (1 + (1 + (m : Int))) ∧ wrap64 (1 + (1 + (m : Int))) ≤ (S : Int) ∧ (wrap64 (1 + (1 + (m : Int)))).toNat = 2 + m ∧ wrap64 (1 + (1 + (m : Int))) = ((2 + m : Nat) : Int) := by
  have e : wrap64 (1 + (1 + (m : Int))) = ((2 + m : Nat) : Int) := by unfold wrap64; omega
  rw [e]
  exact ⟨by omega, by omega, Int.toNat_natCast _, rfl⟩
theorem wrB1 (m : Nat) (h : m + 1 ≤ 2000000) : wrap64 (1 + (m : Int)) = 1 + (m : Int) := by unfold wrap64; omega
theorem wrC3 (m : Nat) (h : m + 1 ≤ 2000000) : wrap64 (1 + (m : Int) + 2) = ((m + 3 : Nat) : Int) := by unfold wrap64; omega
theorem toList_len (s : ByteArray) : s.toList.length = s.size := by
  rw [Lib.toList_data]; simp
theorem trim_dollar (s : ByteArray) : (⟨(Lib.trimPrefix (s.extract 1 s.size).data.toList [36]).toArray⟩ : ByteArray) = if bt s 1 = 36 then s.extract 2 s.size else s.extract 1 s.size := by
  have hx : Lib.hasPrefix (s.extract 1 s.size).data.toList [36] = decide (bt s 1 = 36) := by
    rw [hasPrefix_at]
    by_cases h : bt s 1 = 36
    · rw [decide_eq_true h, decide_eq_true (bt_pos h (by decide)), h]; rfl
    · rw [decide_eq_false h]
      have : (bt s 1 == ((36 : UInt8).toNat : Int)) = false := by rw [beq_eq_false_iff_ne]; exact h
      rw [this, Bool.and_false]
  unfold Lib.trimPrefix
  rw [hx]
  by_cases h : bt s 1 = 36
  · rw [decide_eq_true h, if_pos rfl, if_pos h]
    apply ByteArray.ext
    apply Array.ext'
    rw [data_ext, data_ext]
    simp only [List.length_cons, List.length_nil]
    rw [List.drop_take, List.drop_drop, show s.size - 1 - (0 + 1) = s.size - 2 by omega]
  · rw [decide_eq_false h, if_neg (by decide), if_neg h]

set_option maxHeartbeats 1000000 in
theorem tplace_any (s : ByteArray) (w : World) (hm : s.size ≤ 1000000) : Calls Tryz.prog 62 #[.string s] w fun e w' => e = .returned (PlR s) ∧ Below w.heap.size w w' := by
  have HM := Aside0.mk hm
  have HK := Aside0.mk (heap_alloc_new w (.cells #[.int .i64 0, .string ⟨#[]⟩, .string ⟨#[]⟩, .int .i64 0, .slice none 0 0] 25))
  have HB := Aside0.mk (below_alloc w (.cells #[.int .i64 0, .string ⟨#[]⟩, .string ⟨#[]⟩, .int .i64 0, .slice none 0 0] 25))
  have HT := Aside0.mk (two_new w)
  obtain ⟨k0, k1, k2, k3, k4, kf⟩ := nd_block HK.out
  obtain ⟨WA, hWA⟩ : ∃ WA, WA = w.alloc (.cells #[.int .i64 0, .string ⟨#[]⟩, .string ⟨#[]⟩, .int .i64 0, .slice none 0 0] 25) := ⟨_, rfl⟩
  rw [← hWA] at HK HB HT k0 k1 k2 k3 k4 kf
  cases hp1 : Lib.hasPrefix s.data.toList [91] with
  | false =>
    have HV := Aside0.mk (PlR_no (place_head (s := s) (by
      intro e
      rw [hasPrefix_one, decide_eq_true (bt_pos e (by decide)), e] at hp1
      exact absurd hp1 (by decide))))
    clear hm
    go_enter Tryz.func62, Tryz.ntmps62
    go_wp2_with first | rw [← hWA] | (go_at_call 94; refine (SH.strings_HasPrefix _ _ _).mono ?_; rintro e w2 ⟨rfl, hw⟩; rw [hw, hp1])
    refine bodyPost_ret (results_nd2 rfl rfl rfl HK.out) rfl ?_
    exact ⟨by rw [HV.out]; rfl, HB.out⟩
  | true =>
    have hp0 := hp1
    rw [hasPrefix_one] at hp0
    simp only [Bool.and_eq_true, decide_eq_true_eq, beq_iff_eq] at hp0
    obtain ⟨p0, h0⟩ := hp0
    have H0 := Aside0.mk h0
    have q0 : (0 : Int) < (s.size : Int) := by omega
    have q1 : (1 : Int) ≤ (s.size : Int) := by omega
    obtain ⟨WB, hWB⟩ : ∃ WB, WB = WA.alloc (.cells #[.int .i64 0, .string ⟨#[]⟩, .string ⟨#[]⟩, .int .i64 0, .slice none 0 0] 25) := ⟨_, rfl⟩
    rw [← hWB] at HT
    obtain ⟨m0, m1, m2, m3, m4, mf⟩ := nd_block HT.out.g1
    have HS1 : Aside0 ((s.extract 1 s.size).size ≤ 1000000) := ⟨by rw [size_ext _ _ _ (Nat.le_refl _)]; omega⟩
    have hsz1 : (s.extract 1 s.size).size = s.size - 1 := size_ext _ _ _ (Nat.le_refl _)
    obtain ⟨d, hd⟩ : ∃ d, numN (s.extract 1 s.size) = d := ⟨_, rfl⟩
    have hdl := numN_le (s.extract 1 s.size)
    rw [hd, hsz1] at hdl
    have hx : (s.extract 1 s.size).extract 0 (numN (s.extract 1 s.size)) = s.extract 1 (d + 1) := by rw [ext_ext _ _ _ _ _ (by rw [hd]; omega), hd, Nat.add_comm 1 d]
    have hpz : (s.extract 1 (d + 1)).size = d := by rw [size_ext _ _ _ (by omega)]; omega
    have he : (s.extract 1 (d + 1)).toList.isEmpty = decide (d = 0) := by rw [isEmpty_ext (by omega)]; exact decide_eq_decide.2 (by omega)
    by_cases hd0 : d = 0
    · rw [decide_eq_true hd0] at he
      have htd := trim_dollar s
      by_cases h36 : bt s 1 = 36
      · rw [if_pos h36] at htd
        have p1 := bt_pos h36 (by decide)
        have hne : ((s.extract 2 s.size).toList == (s.extract 1 s.size).toList) = false := by
          rw [beq_eq_false_iff_ne]; intro e
          have := congrArg List.length e
          rw [toList_len, toList_len, size_ext _ _ _ (Nat.le_refl _), size_ext _ _ _ (Nat.le_refl _)] at this; omega
        have HS2 : Aside0 ((s.extract 2 s.size).size ≤ 1000000) := ⟨by rw [size_ext _ _ _ (Nat.le_refl _)]; omega⟩
        obtain ⟨m, hm2⟩ : ∃ m, wordN (s.extract 2 s.size) = m := ⟨_, rfl⟩
        have hml := wordN_le (s.extract 2 s.size)
        rw [hm2, size_ext _ _ _ (Nat.le_refl _)] at hml
        have hxm : (s.extract 2 s.size).extract 0 (wordN (s.extract 2 s.size)) = s.extract 2 (m + 2) := by rw [ext_ext _ _ _ _ _ (by rw [hm2]; omega), hm2, Nat.add_comm 2 m]
        have hmz : (s.extract 2 (m + 2)).size = m := by rw [size_ext _ _ _ (by omega)]; omega
        have hme : (s.extract 2 (m + 2)).toList.isEmpty = decide (m = 0) := by rw [isEmpty_ext (by omega)]; exact decide_eq_decide.2 (by omega)
        by_cases hm0 : m = 0
        · rw [decide_eq_true hm0] at hme
          have HV := Aside0.mk (PlR_no (place_else H0.out (by rw [hd, hd0]; exact fun h => h.1 rfl) hm2 (.inr (.inl hm0))))
          clear hm hsz1 hdl hd hd0 h0 h36 hml hm0 hm2 hmz
          go_enter Tryz.func62, Tryz.ntmps62
          go_wp2_with first | rw [← hWA] | rw [← hWB] | (go_at_call 94; refine (SH.strings_HasPrefix _ _ _).mono ?_; rintro e w2 ⟨rfl, hw⟩; first | rw [hw, hp1] | rw [hw, hp2]) | (go_at_call 97; refine (number_any _ _ HS1.out).mono ?_; rintro e w2 ⟨rfl, hB2⟩; rw [hx]; have HT2 := Aside0.mk (HT.out.step hB2); obtain ⟨n0, n1, n2, n3, n4, nf⟩ := nd_block HT2.out.g1; obtain ⟨z0, z1, z2, z3, z4, zf⟩ := nd_block HT2.out.g0; clear m0 m1 m2 m3 m4 mf k0 k1 k2 k3 k4 kf hWA hWB hB2) | (go_at_call 99; refine (SH.strings_TrimPrefix _ _ _).mono ?_; rintro e w5 ⟨rfl, hw⟩; rw [hw]; rw [show (⟨(Lib.trimPrefix (s.extract 1 s.size).data.toList (⟨#[36]⟩ : ByteArray).data.toList).toArray⟩ : ByteArray) = _ from htd]) | (go_at_call 57; refine (wordAt_any _ _ HS2.out).mono ?_; rintro e w6 ⟨rfl, hw⟩; rw [hw, hxm])
          generalize hwf2 : storeNd w2 w.heap.size 0 0 0 ⟨#[]⟩ 0 (.slice none 0 0) = wf2
          have hf2 := storeNd_zero HT2.out.g0 0 0 ⟨#[]⟩ 0 (.slice none 0 0)
          rw [hwf2] at hf2
          have h2 := hwf2
          unfold storeNd at h2
          simp only [Nat.zero_add] at h2
          rw [h2]
          refine bodyPost_ret (results_nd2 rfl rfl rfl hf2) rfl ?_
          exact ⟨by rw [HV.out]; first | rfl | (rw [← wd2]; rfl), by rw [← hwf2]; exact storeNd_below HT2.out.B (Nat.le_refl _) _ _ _ _ _ _⟩
        · rw [decide_eq_false hm0] at hme
          have g1 : (0 : Int) ≤ 1 + (1 + (m : Int)) := by omega
          have g2 : 1 + (1 + (m : Int)) ≤ (s.size : Int) := by omega
          have g3 : 2 + m ≤ s.size := by omega
          have g4 : (0 : Int) < 1 + (m : Int) := by omega
          have g5 : ((1 + (m : Int)) == 0) = false := by rw [beq_eq_false_iff_ne]; omega
          have g6 : decide ((1 + (m : Int)) = 0) = false := decide_eq_false (by omega)
          have g7 : m + 1 ≤ 2000000 := by omega
          cases hp2 : Lib.hasPrefix (s.extract (2 + m) s.size).data.toList [93] with
          | false =>
            have HV := Aside0.mk (PlR_no (place_else H0.out (by rw [hd, hd0]; exact fun h => h.1 rfl) hm2 (.inr (.inr (by
              intro e
              rw [hasPrefix_at, Nat.add_comm 2 m, decide_eq_true (bt_pos e (by decide)), e] at hp2
              exact absurd hp2 (by decide))))))
            obtain ⟨r1, r2, r3, r4⟩ := wrC m s.size g3 HM.out
            have r5 := wrB1 m g7
            have wd2 := wrC3 m g7
            clear hm hsz1 hdl hd hd0 h0 h36 hml hm2 hm0 g3 g7
            go_enter Tryz.func62, Tryz.ntmps62
            go_wp2_with first | rw [← hWA] | rw [← hWB] | (rw [← hwf]; clear hwf) | (go_at_call 94; refine (SH.strings_HasPrefix _ _ _).mono ?_; rintro e w2 ⟨rfl, hw⟩; first | rw [hw, hp1] | rw [hw, hp2]) | (go_at_call 97; refine (number_any _ _ HS1.out).mono ?_; rintro e w2 ⟨rfl, hB2⟩; rw [hx]; have HT2 := Aside0.mk (HT.out.step hB2); obtain ⟨n0, n1, n2, n3, n4, nf⟩ := nd_block HT2.out.g1; obtain ⟨wf, hwf⟩ : ∃ wf, wf = storeNd w2 (w.heap.size + 1) 0 0 5 (s.extract 2 (m + 2)) 0 (.slice none 0 0) := ⟨_, rfl⟩; have HT4 := Aside0.mk (HT2.out.write 5 (s.extract 2 (m + 2)) 0); rw [← hwf] at HT4; obtain ⟨y0, y1, y2, y3, y4, yf⟩ := nd_block HT4.out.g1; obtain ⟨z0, z1, z2, z3, z4, zf⟩ := nd_block HT4.out.g0; unfold storeNd at hwf; simp only [Nat.zero_add] at hwf; clear m0 m1 m2 m3 m4 mf k0 k1 k2 k3 k4 kf hWA hWB hB2) | (go_at_call 99; refine (SH.strings_TrimPrefix _ _ _).mono ?_; rintro e w5 ⟨rfl, hw⟩; rw [hw]; rw [show (⟨(Lib.trimPrefix (s.extract 1 s.size).data.toList (⟨#[36]⟩ : ByteArray).data.toList).toArray⟩ : ByteArray) = _ from htd]) | (go_at_call 57; refine (wordAt_any _ _ HS2.out).mono ?_; rintro e w6 ⟨rfl, hw⟩; rw [hw, hxm])
            generalize hwf2 : storeNd wf w.heap.size 0 0 0 ⟨#[]⟩ 0 (.slice none 0 0) = wf2
            have hf2 := storeNd_zero HT4.out.g0 0 0 ⟨#[]⟩ 0 (.slice none 0 0)
            rw [hwf2] at hf2
            have h2 := hwf2
            unfold storeNd at h2
            simp only [Nat.zero_add] at h2
            rw [h2]
            refine bodyPost_ret (results_nd2 rfl rfl rfl hf2) rfl ?_
            exact ⟨by rw [HV.out]; first | rfl | (rw [← wd2]; rfl), by rw [← hwf2]; exact storeNd_below HT4.out.B (Nat.le_refl _) _ _ _ _ _ _⟩
          | true =>
            have hp3 := hp2
            rw [hasPrefix_at] at hp3
            simp only [Bool.and_eq_true, decide_eq_true_eq, beq_iff_eq] at hp3
            rw [Nat.add_comm 2 m] at hp3
            have HV := Aside0.mk (PlR_yes (place_word H0.out (by rw [hd]; exact hd0) h36 hm2 hm0 hp3.2))
            obtain ⟨r1, r2, r3, r4⟩ := wrC m s.size g3 HM.out
            have r5 := wrB1 m g7
            have wd2 := wrC3 m g7
            clear hm hsz1 hdl hd hd0 h0 h36 hml hm2 hm0 g3 g7 hp3
            go_enter Tryz.func62, Tryz.ntmps62
            go_wp2_with first | rw [← hWA] | rw [← hWB] | (rw [← hwf]; clear hwf) | (go_at_call 94; refine (SH.strings_HasPrefix _ _ _).mono ?_; rintro e w2 ⟨rfl, hw⟩; first | rw [hw, hp1] | rw [hw, hp2]) | (go_at_call 97; refine (number_any _ _ HS1.out).mono ?_; rintro e w2 ⟨rfl, hB2⟩; rw [hx]; have HT2 := Aside0.mk (HT.out.step hB2); obtain ⟨n0, n1, n2, n3, n4, nf⟩ := nd_block HT2.out.g1; obtain ⟨wf, hwf⟩ : ∃ wf, wf = storeNd w2 (w.heap.size + 1) 0 0 5 (s.extract 2 (m + 2)) 0 (.slice none 0 0) := ⟨_, rfl⟩; have HT4 := Aside0.mk (HT2.out.write 5 (s.extract 2 (m + 2)) 0); rw [← hwf] at HT4; obtain ⟨y0, y1, y2, y3, y4, yf⟩ := nd_block HT4.out.g1; obtain ⟨z0, z1, z2, z3, z4, zf⟩ := nd_block HT4.out.g0; unfold storeNd at hwf; simp only [Nat.zero_add] at hwf; clear m0 m1 m2 m3 m4 mf k0 k1 k2 k3 k4 kf hWA hWB hB2) | (go_at_call 99; refine (SH.strings_TrimPrefix _ _ _).mono ?_; rintro e w5 ⟨rfl, hw⟩; rw [hw]; rw [show (⟨(Lib.trimPrefix (s.extract 1 s.size).data.toList (⟨#[36]⟩ : ByteArray).data.toList).toArray⟩ : ByteArray) = _ from htd]) | (go_at_call 57; refine (wordAt_any _ _ HS2.out).mono ?_; rintro e w6 ⟨rfl, hw⟩; rw [hw, hxm])
            generalize hwf2 : storeNd wf w.heap.size 0 0 5 (s.extract 2 (m + 2)) 0 (.slice none 0 0) = wf2
            have hf2 := storeNd_zero HT4.out.g0 0 5 (s.extract 2 (m + 2)) 0 (.slice none 0 0)
            rw [hwf2] at hf2
            have h2 := hwf2
            unfold storeNd at h2
            simp only [Nat.zero_add] at h2
            rw [h2]
            refine bodyPost_ret (results_nd2 rfl rfl rfl hf2) rfl ?_
            exact ⟨by rw [HV.out]; first | rfl | (rw [← wd2]; rfl), by rw [← hwf2]; exact storeNd_below HT4.out.B (Nat.le_refl _) _ _ _ _ _ _⟩
      · rw [if_neg h36] at htd
        have HV := Aside0.mk (PlR_no (place_else H0.out (by rw [hd, hd0]; exact fun h => h.1 rfl) rfl (.inl h36)))
        clear hm hsz1 hdl hd hd0 h0 h36
        go_enter Tryz.func62, Tryz.ntmps62
        go_wp2_with first | rw [← hWA] | rw [← hWB] | (go_at_call 94; refine (SH.strings_HasPrefix _ _ _).mono ?_; rintro e w2 ⟨rfl, hw⟩; first | rw [hw, hp1] | rw [hw, hp2]) | (go_at_call 97; refine (number_any _ _ HS1.out).mono ?_; rintro e w2 ⟨rfl, hB2⟩; rw [hx]; have HT2 := Aside0.mk (HT.out.step hB2); obtain ⟨n0, n1, n2, n3, n4, nf⟩ := nd_block HT2.out.g1; obtain ⟨z0, z1, z2, z3, z4, zf⟩ := nd_block HT2.out.g0; clear m0 m1 m2 m3 m4 mf k0 k1 k2 k3 k4 kf hWA hWB hB2) | (go_at_call 99; refine (SH.strings_TrimPrefix _ _ _).mono ?_; rintro e w5 ⟨rfl, hw⟩; rw [hw]; rw [show (⟨(Lib.trimPrefix (s.extract 1 s.size).data.toList (⟨#[36]⟩ : ByteArray).data.toList).toArray⟩ : ByteArray) = _ from htd])
        generalize hwf2 : storeNd w2 w.heap.size 0 0 0 ⟨#[]⟩ 0 (.slice none 0 0) = wf2
        have hf2 := storeNd_zero HT2.out.g0 0 0 ⟨#[]⟩ 0 (.slice none 0 0)
        rw [hwf2] at hf2
        have h2 := hwf2
        unfold storeNd at h2
        simp only [Nat.zero_add] at h2
        rw [h2]
        refine bodyPost_ret (results_nd2 rfl rfl rfl hf2) rfl ?_
        exact ⟨by rw [HV.out]; first | rfl | (rw [← wd2]; rfl), by rw [← hwf2]; exact storeNd_below HT2.out.B (Nat.le_refl _) _ _ _ _ _ _⟩
    · rw [decide_eq_false hd0] at he
      have HF := numN_fits hd hd0
      rw [show (s.extract 1 s.size).extract 0 d = s.extract 1 (d + 1) by rw [← hd]; rw [hx, hd]] at HF
      have HAD := Aside0.mk HF.1
      have HD1 : Aside0 (1 ≤ (s.extract 1 (d + 1)).size) := ⟨by omega⟩
      have HD15 : Aside0 ((s.extract 1 (d + 1)).size ≤ 15) := ⟨by rw [hpz]; exact HF.2⟩
      have e1 : ((d : Int) == 0) = false := by rw [beq_eq_false_iff_ne]; omega
      have e2 : decide ((d : Int) = 0) = false := decide_eq_false (by omega)
      have e3 : decide (d = 0) = false := decide_eq_false hd0
      have g1 : (0 : Int) ≤ 1 + (d : Int) := by omega
      have g2 : 1 + (d : Int) ≤ (s.size : Int) := by omega
      have g3 : 1 + d ≤ s.size := by omega
      have g4 : 1 + d < 1000001 := by omega
      cases hp2 : Lib.hasPrefix (s.extract (1 + d) s.size).data.toList [93] with
      | false =>
        have HV := Aside0.mk (PlR_no (place_num_no H0.out hd hd0 (by
          intro e
          rw [hasPrefix_at, Nat.add_comm 1 d, decide_eq_true (bt_pos e (by decide)), e] at hp2
          exact absurd hp2 (by decide))))
        have h12 := wrB d s.size g3 HM.out
        obtain ⟨r1, r2, r3, r4⟩ := h12
        have wd2 := wrA (K := 2) d 2 rfl (by have := HM.out; omega)
        clear hm hsz1 hdl HF hd hd0 g3 g4 h0
        go_enter Tryz.func62, Tryz.ntmps62
        go_wp2_with first | rw [← hWA] | rw [← hWB] | (rw [← hwf]; clear hwf) | (go_at_call 94; refine (SH.strings_HasPrefix _ _ _).mono ?_; rintro e w2 ⟨rfl, hw⟩; first | rw [hw, hp1] | rw [hw, hp2]) | (go_at_call 97; refine (number_any _ _ HS1.out).mono ?_; rintro e w2 ⟨rfl, hB2⟩; rw [hx]; have HT2 := Aside0.mk (HT.out.step hB2); obtain ⟨n0, n1, n2, n3, n4, nf⟩ := nd_block HT2.out.g1; clear m0 m1 m2 m3 m4 mf k0 k1 k2 k3 k4 kf hWA hWB hB2) | (go_at_call 98; refine (numbered_any _ _ HAD.out HD1.out HD15.out).mono ?_; rintro e w3 ⟨rfl, hB3⟩; have HT3 := Aside0.mk (HT2.out.step hB3); obtain ⟨x0, x1, x2, x3, x4, xf⟩ := nd_block HT3.out.g1; obtain ⟨wf, hwf⟩ : ∃ wf, wf = storeNd w3 (w.heap.size + 1) 0 0 1 ⟨#[]⟩ (numV (s.extract 1 (d + 1)) : Nat) (.slice none 0 0) := ⟨_, rfl⟩; have HT4 := Aside0.mk (HT3.out.write 1 ⟨#[]⟩ (numV (s.extract 1 (d + 1)) : Nat)); rw [← hwf] at HT4; obtain ⟨y0, y1, y2, y3, y4, yf⟩ := nd_block HT4.out.g1; obtain ⟨z0, z1, z2, z3, z4, zf⟩ := nd_block HT4.out.g0; unfold storeNd at hwf; simp only [Nat.zero_add] at hwf; clear n0 n1 n2 n3 n4 nf hB3)
        generalize hwf2 : storeNd wf w.heap.size 0 0 0 ⟨#[]⟩ 0 (.slice none 0 0) = wf2
        have hf2 := storeNd_zero HT4.out.g0 0 0 ⟨#[]⟩ 0 (.slice none 0 0)
        rw [hwf2] at hf2
        have h2 := hwf2
        unfold storeNd at h2
        simp only [Nat.zero_add] at h2
        rw [h2]
        refine bodyPost_ret (results_nd2 rfl rfl rfl hf2) rfl ?_
        exact ⟨by rw [HV.out]; first | rfl | (rw [← wd2]; rfl), by rw [← hwf2]; exact storeNd_below HT4.out.B (Nat.le_refl _) _ _ _ _ _ _⟩
      | true =>
        have hp3 := hp2
        rw [hasPrefix_at] at hp3
        simp only [Bool.and_eq_true, decide_eq_true_eq, beq_iff_eq] at hp3
        rw [Nat.add_comm 1 d] at hp3
        have HV := Aside0.mk (PlR_yes (place_num H0.out hd hd0 hp3.2))
        have h12 := wrB d s.size g3 HM.out
        obtain ⟨r1, r2, r3, r4⟩ := h12
        have wd2 := wrA (K := 2) d 2 rfl (by have := HM.out; omega)
        clear hm hsz1 hdl HF hd hd0 g3 g4 h0 hp3
        go_enter Tryz.func62, Tryz.ntmps62
        go_wp2_with first | rw [← hWA] | rw [← hWB] | (rw [← hwf]; clear hwf) | (go_at_call 94; refine (SH.strings_HasPrefix _ _ _).mono ?_; rintro e w2 ⟨rfl, hw⟩; first | rw [hw, hp1] | rw [hw, hp2]) | (go_at_call 97; refine (number_any _ _ HS1.out).mono ?_; rintro e w2 ⟨rfl, hB2⟩; rw [hx]; have HT2 := Aside0.mk (HT.out.step hB2); obtain ⟨n0, n1, n2, n3, n4, nf⟩ := nd_block HT2.out.g1; clear m0 m1 m2 m3 m4 mf k0 k1 k2 k3 k4 kf hWA hWB hB2) | (go_at_call 98; refine (numbered_any _ _ HAD.out HD1.out HD15.out).mono ?_; rintro e w3 ⟨rfl, hB3⟩; have HT3 := Aside0.mk (HT2.out.step hB3); obtain ⟨x0, x1, x2, x3, x4, xf⟩ := nd_block HT3.out.g1; obtain ⟨wf, hwf⟩ : ∃ wf, wf = storeNd w3 (w.heap.size + 1) 0 0 1 ⟨#[]⟩ (numV (s.extract 1 (d + 1)) : Nat) (.slice none 0 0) := ⟨_, rfl⟩; have HT4 := Aside0.mk (HT3.out.write 1 ⟨#[]⟩ (numV (s.extract 1 (d + 1)) : Nat)); rw [← hwf] at HT4; obtain ⟨y0, y1, y2, y3, y4, yf⟩ := nd_block HT4.out.g1; obtain ⟨z0, z1, z2, z3, z4, zf⟩ := nd_block HT4.out.g0; unfold storeNd at hwf; simp only [Nat.zero_add] at hwf; clear n0 n1 n2 n3 n4 nf hB3)
        generalize hwf2 : storeNd wf w.heap.size 0 0 1 ⟨#[]⟩ (numV (s.extract 1 (d + 1)) : Nat) (.slice none 0 0) = wf2
        have hf2 := storeNd_zero HT4.out.g0 0 1 ⟨#[]⟩ (numV (s.extract 1 (d + 1)) : Nat) (.slice none 0 0)
        rw [hwf2] at hf2
        have h2 := hwf2
        unfold storeNd at h2
        simp only [Nat.zero_add] at h2
        rw [h2]
        refine bodyPost_ret (results_nd2 rfl rfl rfl hf2) rfl ?_
        exact ⟨by rw [HV.out]; first | rfl | (rw [← wd2]; rfl), by rw [← hwf2]; exact storeNd_below HT4.out.B (Nat.le_refl _) _ _ _ _ _ _⟩
end Go.Proofs.YtmifmmpbmcfmpaaGreatDoor.IW
