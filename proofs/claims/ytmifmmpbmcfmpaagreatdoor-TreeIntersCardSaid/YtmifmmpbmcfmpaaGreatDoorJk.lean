/-
  The place in brackets: the reference's function.
-/
import Derived.Test.YtmifmmpbmcfmpaaGreatDoorJj
import Derived.Test.YtmifmmpbmcfmpaaGreatDoorJp
set_option linter.unusedVariables false
set_option linter.unusedSimpArgs false
namespace Go.Proofs.YtmifmmpbmcfmpaaGreatDoor.IW
open Go Go.RowKit
set_option maxRecDepth 100000

def Lf.agg (x : Lf) : Value := .agg #[.int .i64 x.op, .string x.s, .string ⟨#[]⟩, .int .i64 x.n, .slice none 0 0]
/-- What both functions return. -/
def PlR (s : ByteArray) : Value := .tuple #[(placeOf s).2.agg, .int .i64 ((placeOf s).1 : Nat)]
theorem PlR_no {s : ByteArray} (h : placeOf s = (0, noLf)) : PlR s = .tuple #[.agg #[.int .i64 0, .string ⟨#[]⟩, .string ⟨#[]⟩, .int .i64 0, .slice none 0 0], .int .i64 0] := by
  unfold PlR; rw [h]; rfl
theorem PlR_yes {s : ByteArray} {k : Nat} {x : Lf} (h : placeOf s = (k, x)) : PlR s = .tuple #[.agg #[.int .i64 x.op, .string x.s, .string ⟨#[]⟩, .int .i64 x.n, .slice none 0 0], .int .i64 k] := by
  unfold PlR; rw [h]; rfl
theorem place_short {s : ByteArray} (h : s.size < 3) : placeOf s = (0, noLf) := by
  have h1 := placeOf_le s
  unfold placeOf at h1 ⊢
  split
  · split
    · split
      · rename_i h2 h3 h4; have := bt_pos h4 (by decide); omega
      · rfl
    · split
      · rename_i h2 h3 h4; have := bt_pos h4.2.2 (by decide); omega
      · rfl
  · rfl
theorem place_head {s : ByteArray} (h : bt s 0 ≠ 91) : placeOf s = (0, noLf) := by
  unfold placeOf; rw [if_neg h]
theorem place_num {s : ByteArray} {d : Nat} (h : bt s 0 = 91) (hd : numN (s.extract 1 s.size) = d) (h0 : d ≠ 0) (h93 : bt s (d + 1) = 93) : placeOf s = (d + 2, ⟨1, ⟨#[]⟩, (numV (s.extract 1 (d + 1)) : Nat)⟩) := by
  unfold placeOf; rw [if_pos h, hd, if_pos h0, if_pos h93]
theorem place_else {s : ByteArray} {n : Nat} (h : bt s 0 = 91) (hd : ¬ (numN (s.extract 1 s.size) ≠ 0 ∧ bt s (numN (s.extract 1 s.size) + 1) = 93)) (hn : wordN (s.extract 2 s.size) = n)
    (hw : bt s 1 ≠ 36 ∨ n = 0 ∨ bt s (n + 2) ≠ 93) : placeOf s = (0, noLf) := by
  unfold placeOf
  rw [if_pos h, hn]
  split
  · rename_i h1
    rw [if_neg (fun h2 => hd ⟨h1, h2⟩)]
  · rw [if_neg]
    rintro ⟨k1, k2, k3⟩
    rcases hw with h | h | h
    · exact h k1
    · exact k2 h
    · exact h k3
theorem place_word {s : ByteArray} {n : Nat} (h : bt s 0 = 91) (hd : numN (s.extract 1 s.size) = 0) (h1 : bt s 1 = 36) (hn : wordN (s.extract 2 s.size) = n) (h0 : n ≠ 0) (h93 : bt s (n + 2) = 93) : placeOf s = (n + 3, ⟨5, s.extract 2 (n + 2), 0⟩) := by
  unfold placeOf
  rw [if_pos h, if_neg (by rw [hd]; simp), hn, if_pos ⟨h1, h0, h93⟩]
theorem num_first {s : ByteArray} (h : bt s 0 = 36) : numN s = 0 := by
  have h1 := digLen_spec s
  unfold numN
  split
  · rename_i hk
    by_cases h2 : digLen s = 0
    · exact h2
    · have := h1.1 0 (by omega)
      rw [Nat.zero_add, h] at this
      exact absurd this (by decide)
  · rfl
/-- Digits behind the first byte. -/
theorem dig_at {s : ByteArray} {n : Nat} (h1 : 1 ≤ n) (hn : n ≤ s.size) (hat : ∀ i, 1 ≤ i → i < n → digitI (bt s i) = true) (hs : ¬ (n < s.size ∧ digitI (bt s n) = true)) : digLen (s.extract 1 s.size) = n - 1 := by
  have hsz : (s.extract 1 s.size).size = s.size - 1 := size_ext _ _ _ (Nat.le_refl _)
  refine (digLen_spec _).uniq ⟨fun i hi => ?_, by omega, ?_⟩
  · rw [Nat.zero_add, bt_ext _ _ _ _ (by omega)]; exact hat _ (by omega) (by omega)
  · rw [Nat.zero_add]
    rintro ⟨k1, k2⟩
    rw [bt_ext _ _ _ _ (by omega), show 1 + (n - 1) = n by omega] at k2
    exact hs ⟨by omega, k2⟩
theorem wrA (m k : Nat) {K : Int} (hK : K = (k : Int)) (h : m + k ≤ 2000000) : wrap64 ((m : Int) + K) = ((m + k : Nat) : Int) := by
  subst hK; unfold wrap64; omega
theorem wrAll (m k S : Nat) {K : Int} (hK : K = (k : Int)) (h : m + k < S) (hS : S ≤ 1000000) : (0 : Int) ≤ wrap64 ((m : Int) + K) ∧ wrap64 ((m : Int) + K) < (S : Int) ∧ (wrap64 ((m : Int) + K)).toNat = m + k ∧ wrap64 ((m : Int) + K) ≤ (S : Int) ∧ wrap64 ((m : Int) + K) = ((m + k : Nat) : Int) ∧ ∀ j : Nat, j ≤ m + k → (j : Int) ≤ wrap64 ((m : Int) + K) := by
  rw [wrA m k hK (by omega)]
  exact ⟨by omega, by omega, Int.toNat_natCast _, by omega, rfl, fun j hj => by omega⟩
/-- The leaf that is written. -/
theorem leaf_end {fn : Func} {tmps : Array Value} {w w' : World} {t u : Tmp} (hr : fn.results = #[.cell t 25, .tmp u]) (o : Obj) (ho : o = .cells zeroNd 25) (hb : w'.heap[w.heap.size]? = some o) (HB : Below w.heap.size w w') (ht : tmps.getD t undef = .pointer (some ⟨w.heap.size, 0, none⟩)) (op : Int) (x : ByteArray) (n : Int) (k : Int) (hu : tmps.getD u undef = .int .i64 k) (R : Value) (hR : R = .tuple #[.agg #[.int .i64 op, .string x, .string ⟨#[]⟩, .int .i64 n, .slice none 0 0], .int .i64 k]) :
    ∃ v, (results fn tmps).run Tryz.prog (storeNd w' w.heap.size 0 0 op x n (.slice none 0 0)) = .ok v (storeNd w' w.heap.size 0 0 op x n (.slice none 0 0)) ∧ (v = R ∧ Below w.heap.size w (storeNd w' w.heap.size 0 0 op x n (.slice none 0 0))) := by
  subst ho
  exact ⟨_, results_nd2 hr ht hu (storeNd_zero hb _ _ _ _ _), hR.symm, storeNd_below HB (Nat.le_refl _) _ _ _ _ _ _⟩

set_option maxHeartbeats 2000000 in
theorem rplace_any (s : ByteArray) (w : World) (hm : s.size ≤ 1000000) : Calls Tryz.prog 53 #[.string s] w fun e w' => e = .returned (PlR s) ∧ Below w.heap.size w w' := by
  have HM := Aside0.mk hm
  have HK := Aside0.mk (heap_alloc_new w (.cells #[.int .i64 0, .string ⟨#[]⟩, .string ⟨#[]⟩, .int .i64 0, .slice none 0 0] 25))
  have HB := Aside0.mk (below_alloc w (.cells #[.int .i64 0, .string ⟨#[]⟩, .string ⟨#[]⟩, .int .i64 0, .slice none 0 0] 25))
  obtain ⟨k0, k1, k2, k3, k4, kf⟩ := nd_block HK.out
  obtain ⟨WA, hWA⟩ : ∃ WA, WA = w.alloc (.cells #[.int .i64 0, .string ⟨#[]⟩, .string ⟨#[]⟩, .int .i64 0, .slice none 0 0] 25) := ⟨_, rfl⟩
  rw [← hWA] at HK HB k0 k1 k2 k3 k4 kf
  by_cases h3 : s.size < 3
  · have c1 : decide ((s.size : Int) < 3) = true := decide_eq_true (by omega)
    have c2 : decide (s.size < 3) = true := decide_eq_true h3
    have HV := Aside0.mk (PlR_no (place_short h3))
    clear hm h3
    go_enter Tryz.func53, Tryz.ntmps53
    go_wp2_with (rw [← hWA])
    refine bodyPost_ret (results_nd2 rfl rfl rfl HK.out) rfl ?_
    exact ⟨by rw [HV.out]; rfl, HB.out⟩
  · have c1 : decide ((s.size : Int) < 3) = false := decide_eq_false (by omega)
    have c2 : decide (s.size < 3) = false := decide_eq_false h3
    have q0 : (0 : Int) < (s.size : Int) := by omega
    have q1 : (1 : Int) < (s.size : Int) := by omega
    have q2 : (1 : Int) ≤ (s.size : Int) := by omega
    have q3 : (2 : Int) ≤ (s.size : Int) := by omega
    have p0 : 0 < s.size := by omega
    have p01 : 1 < s.size := by omega
    have b0 := bt_at s 0 p0
    have b01 := bt_at s 1 p01
    cases h0 : (bt s 0 == 91) with
    | false =>
      have h0' : (bt s 0 != 91) = true := by unfold bne; rw [h0]; rfl
      have HV := Aside0.mk (PlR_no (place_head (s := s) (by intro e; rw [e] at h0; exact absurd h0 (by decide))))
      clear hm h3
      go_enter Tryz.func53, Tryz.ntmps53
      go_wp2_with (rw [← hWA])
      refine bodyPost_ret (results_nd2 rfl rfl rfl HK.out) rfl ?_
      exact ⟨by rw [HV.out]; rfl, HB.out⟩
    | true =>
      have h0' : (bt s 0 != 91) = false := by unfold bne; rw [h0]; rfl
      have h0e : Aside0 (bt s 0 = 91) := ⟨by simpa using h0⟩
      obtain ⟨m, hm2⟩ : ∃ m, wordN (s.extract 2 s.size) = m := ⟨_, rfl⟩
      have HS2 : Aside0 ((s.extract 2 s.size).size ≤ 1000000) := ⟨by rw [size_ext _ _ _ (Nat.le_refl _)]; omega⟩
      have hml := wordN_le (s.extract 2 s.size)
      rw [hm2, size_ext _ _ _ (Nat.le_refl _)] at hml
      have HL := Aside0.mk hml
      have HW := Aside0.mk hm2
      have H3 := Aside0.mk h3
      clear hm h3 hml hm2
      go_enter Tryz.func53, Tryz.ntmps53
      go_wp2_with (rw [← hWA])
      clear hWA
      go_loopg [4] s.size (fun kq v4 w' => ∃ n : Nat, v4 = .int .i64 n ∧ Aside0 (1 ≤ n ∧ n ≤ s.size ∧ (∀ i, 1 ≤ i → i < n → digitI (bt s i) = true) ∧ kq + n = s.size + 1) ∧ WA = w')
      case atStart => exact ⟨1, rfl, ⟨by have := H3.out; exact ⟨Nat.le_refl _, by omega, fun i h1 h2 => by omega, by omega⟩⟩, rfl⟩
      case round =>
        obtain ⟨n, rfl, HI, rfl⟩ := hrel
        obtain ⟨hn1, hnl, hat, hkq⟩ := HI.out
        have hM := HM.out
        have p1 : (0 : Int) ≤ n := by omega
        have p2 : (1 : Int) ≤ n := by omega
        have p3 : (n : Int) ≤ (s.size : Int) := by omega
        have WR1 : Aside0 (wrap64 ((n : Int) + 1) = ((n + 1 : Nat) : Int)) := ⟨wrA (K := 1) n 1 rfl (by omega)⟩
        by_cases hd : n < s.size ∧ digitI (bt s n) = true
        · obtain ⟨hlt, hdd⟩ := hd
          have d1 : decide ((n : Int) < (s.size : Int)) = true := decide_eq_true (by omega)
          have d2 : decide (n < s.size) = true := decide_eq_true hlt
          have d3 : (n : Int) < (s.size : Int) := by omega
          have b1 := bt_at s n hlt
          have HX : Aside0 (1 ≤ n + 1 ∧ n + 1 ≤ s.size ∧ (∀ i, 1 ≤ i → i < n + 1 → digitI (bt s i) = true) ∧ (gk - 1) + (n + 1) = s.size + 1) := ⟨by omega, by omega, fun i h1 h2 => by
            by_cases e : i = n
            · rw [e]; exact hdd
            · exact hat i h1 (by omega), by omega⟩
          have HG : Aside0 (gk - 1 < gk) := ⟨by omega⟩
          clear hat hkq hM HI hn1 hnl
          have wr1 := WR1.out
          go_wp2_with (go_at_call 85; refine (isDigit_any _ _).mono ?_; rintro e w2 ⟨rfl, hw⟩; rw [hw, hdd])
          go_roundg (gk - 1)
          case measure => exact HG.out
          case rel => exact ⟨n + 1, by rw [wr1], HX, rfl⟩
        · have hdl := dig_at hn1 hnl hat hd
          have hsz : (s.extract 1 n).size = n - 1 := size_ext _ _ _ hnl
          have HAD : Aside0 (AllD (s.extract 1 n)) := ⟨fun i hi => by rw [bt_ext _ _ _ _ (by omega)]; exact hat _ (by omega) (by omega)⟩
          have HSP : Aside0 ((s.extract 1 n).size ≤ 1000000) := ⟨by omega⟩
          have hokx : okD (s.extract 1 s.size) (n - 1) = okD (s.extract 1 n) (s.extract 1 n).size := by
            rw [hsz]; unfold okD
            by_cases h : 1 ≤ n - 1
            · rw [bt_ext _ _ _ _ (by omega), bt_ext _ _ _ _ (by omega)]
            · rw [decide_eq_false h]; rfl
          by_cases hlt : n < s.size
          · have d1 : decide ((n : Int) < (s.size : Int)) = true := decide_eq_true (by omega)
            have d2 : decide (n < s.size) = true := decide_eq_true hlt
            have d3 : (n : Int) < (s.size : Int) := by omega
            have b1 := bt_at s n hlt
            have hdd : digitI (bt s n) = false := by cases h : digitI (bt s n) with | false => rfl | true => exact absurd ⟨hlt, h⟩ hd
            by_cases hx : bt s n = 93
            · have x1 : (bt s n == 93) = true := by rw [hx]; rfl
              cases hok : okD (s.extract 1 n) (s.extract 1 n).size with
              | true =>
                have hnn : numN (s.extract 1 s.size) = n - 1 := by unfold numN; rw [hdl, if_pos (by rw [hokx]; exact hok)]
                have hn2 : 1 ≤ n - 1 ∧ n - 1 ≤ 15 := by rw [hsz] at hok; unfold okD at hok; simp only [Bool.and_eq_true, decide_eq_true_eq] at hok; exact hok.1
                have hpl := place_num (s := s) (d := n - 1) h0e.out hnn (by omega) (by rw [show n - 1 + 1 = n by omega]; exact hx)
                rw [show n - 1 + 1 = n by omega, show n - 1 + 2 = n + 1 by omega] at hpl
                have HV := Aside0.mk (PlR_yes hpl)
                have H15 : Aside0 ((s.extract 1 n).size ≤ 15) := ⟨by omega⟩
                clear hat hkq hM HI hn1 hnl hdl hokx hsz hx hnn hn2 hpl hd
                have wr1 := WR1.out
                go_wp2_with first | (go_at_call 85; refine (isDigit_any _ _).mono ?_; rintro e w2 ⟨rfl, hw⟩; rw [hw, hdd]) | (go_at_call 87; refine (isNumber_any _ _ HSP.out HAD.out).mono ?_; rintro e w2 ⟨rfl, hw⟩; rw [hw, hok]) | (go_at_call 88; refine (rnumber_any _ _ HAD.out H15.out).mono ?_; rintro e w2 ⟨rfl, hw⟩; rw [hw])
                try rw [wr1]
                generalize hwf : storeNd WA w.heap.size 0 0 1 ⟨#[]⟩ (numV (s.extract 1 n) : Nat) (.slice none 0 0) = wf
                have hf2 := storeNd_zero HK.out 0 1 ⟨#[]⟩ (numV (s.extract 1 n) : Nat) (.slice none 0 0)
                rw [hwf] at hf2
                have h2 := hwf
                unfold storeNd at h2
                simp only [Nat.zero_add] at h2
                rw [h2]
                refine bodyPost_ret (results_nd2 rfl rfl rfl hf2) rfl ?_
                exact ⟨by rw [HV.out]; first | rfl | (rw [← wm3]; rfl), by rw [← hwf]; exact storeNd_below HB.out (Nat.le_refl _) _ _ _ _ _ _⟩
              | false =>
                have hF : ¬ (numN (s.extract 1 s.size) ≠ 0 ∧ bt s (numN (s.extract 1 s.size) + 1) = 93) := by
                  have : numN (s.extract 1 s.size) = 0 := by unfold numN; rw [hdl, if_neg (by rw [hokx, hok]; decide)]
                  rw [this]; exact fun h => h.1 rfl
                clear hd hx
                by_cases h36 : bt s 1 = 36
                · have f1 : (bt s 1 != 36) = false := by rw [h36]; rfl
                  have f0 : (bt s 1 == 36) = true := by rw [h36]; rfl
                  by_cases hm0 : m = 0
                  · have HV := Aside0.mk (PlR_no (place_else h0e.out hF HW.out (.inr (.inl hm0))))
                    have g1 : ((m : Int) == 0) = true := by rw [hm0]; rfl
                    have g2 : decide ((m : Int) = 0) = true := by rw [hm0]; rfl
                    have g3 : decide (m = 0) = true := decide_eq_true hm0
                    clear hat hkq hM HI hn1 hnl hdl hokx hsz hF hm0 h36
                    go_wp2_with first | (go_at_call 85; refine (isDigit_any _ _).mono ?_; rintro e w2 ⟨rfl, hw⟩; rw [hw, hdd]) | (go_at_call 87; refine (isNumber_any _ _ HSP.out HAD.out).mono ?_; rintro e w2 ⟨rfl, hw⟩; rw [hw, hok]) | (go_at_call 50; refine (word_any _ _ HS2.out).mono ?_; rintro e w2 ⟨rfl, hw⟩; rw [hw, HW.out])
                    generalize hwf : storeNd WA w.heap.size 0 0 0 ⟨#[]⟩ 0 (.slice none 0 0) = wf
                    have hf2 := storeNd_zero HK.out 0 0 ⟨#[]⟩ 0 (.slice none 0 0)
                    rw [hwf] at hf2
                    have h2 := hwf
                    unfold storeNd at h2
                    simp only [Nat.zero_add] at h2
                    rw [h2]
                    refine bodyPost_ret (results_nd2 rfl rfl rfl hf2) rfl ?_
                    exact ⟨by rw [HV.out]; first | rfl | (rw [← wm3]; rfl), by rw [← hwf]; exact storeNd_below HB.out (Nat.le_refl _) _ _ _ _ _ _⟩
                  · have g1 : ((m : Int) == 0) = false := by rw [beq_eq_false_iff_ne]; omega
                    have g2 : decide ((m : Int) = 0) = false := decide_eq_false (by omega)
                    have g3 : decide (m = 0) = false := decide_eq_false hm0
                    by_cases hl : m + 2 < s.size
                    · have l0 : decide ((s.size : Int) < ((m + 3 : Nat) : Int)) = false := decide_eq_false (by omega)
                      have l2 : decide ((s.size : Int) < (m : Int) + 3) = false := decide_eq_false (by omega)
                      have l3 : decide (s.size < m + 3) = false := decide_eq_false (by omega)
                      have n1 : (0 : Int) ≤ (m : Int) + 2 := by omega
                      have n2 : (m : Int) + 2 < (s.size : Int) := by omega
                      have n4 : (2 : Int) ≤ (m : Int) + 2 := by omega
                      have n5 : (m : Int) + 2 ≤ (s.size : Int) := by omega
                      have n6 : 2 ≤ m + 2 := by omega
                      have n7 : m + 3 ≤ 2000000 := by omega
                      have b2 := bt_at s (m + 2) hl
                      by_cases h93 : bt s (m + 2) = 93
                      · have r1 : (bt s (m + 2) != 93) = false := by rw [h93]; rfl
                        have r0 : (bt s (m + 2) == 93) = true := by rw [h93]; rfl
                        have HV := Aside0.mk (PlR_yes (place_word h0e.out (num_first (by rw [bt_ext _ _ _ _ (by omega)]; exact h36)) h36 HW.out hm0 h93))
                        obtain ⟨m1, m2, m3, m5, wm2, m4x⟩ := wrAll (K := 2) m 2 s.size rfl hl HM.out
                        have m4 : (2 : Int) ≤ wrap64 ((m : Int) + 2) := m4x 2 n6
                        have wm3 := wrA (K := 3) m 3 rfl n7
                        have l1 : decide ((s.size : Int) < wrap64 ((m : Int) + 3)) = false := by rw [wm3]; exact l0
                        clear m4x n6 n7 l0
                        clear hat hkq hM HI hn1 hnl hdl hokx hsz hF hm0 h36 h93
                        go_wp2_with first | (go_at_call 85; refine (isDigit_any _ _).mono ?_; rintro e w2 ⟨rfl, hw⟩; rw [hw, hdd]) | (go_at_call 87; refine (isNumber_any _ _ HSP.out HAD.out).mono ?_; rintro e w2 ⟨rfl, hw⟩; rw [hw, hok]) | (go_at_call 50; refine (word_any _ _ HS2.out).mono ?_; rintro e w2 ⟨rfl, hw⟩; rw [hw, HW.out])
                        generalize hwf : storeNd WA w.heap.size 0 0 5 (s.extract 2 (m + 2)) 0 (.slice none 0 0) = wf
                        have hf2 := storeNd_zero HK.out 0 5 (s.extract 2 (m + 2)) 0 (.slice none 0 0)
                        rw [hwf] at hf2
                        have h2 := hwf
                        unfold storeNd at h2
                        simp only [Nat.zero_add] at h2
                        rw [h2]
                        refine bodyPost_ret (results_nd2 rfl rfl rfl hf2) rfl ?_
                        exact ⟨by rw [HV.out]; first | rfl | (rw [← wm3]; rfl), by rw [← hwf]; exact storeNd_below HB.out (Nat.le_refl _) _ _ _ _ _ _⟩
                      · have r1 : (bt s (m + 2) != 93) = true := by simpa using h93
                        have r0 : (bt s (m + 2) == 93) = false := by simpa using h93
                        have HV := Aside0.mk (PlR_no (place_else h0e.out hF HW.out (.inr (.inr h93))))
                        obtain ⟨m1, m2, m3, m5, wm2, m4x⟩ := wrAll (K := 2) m 2 s.size rfl hl HM.out
                        have m4 : (2 : Int) ≤ wrap64 ((m : Int) + 2) := m4x 2 n6
                        have wm3 := wrA (K := 3) m 3 rfl n7
                        have l1 : decide ((s.size : Int) < wrap64 ((m : Int) + 3)) = false := by rw [wm3]; exact l0
                        clear m4x n6 n7 l0
                        clear hat hkq hM HI hn1 hnl hdl hokx hsz hF hm0 h36 h93
                        go_wp2_with first | (go_at_call 85; refine (isDigit_any _ _).mono ?_; rintro e w2 ⟨rfl, hw⟩; rw [hw, hdd]) | (go_at_call 87; refine (isNumber_any _ _ HSP.out HAD.out).mono ?_; rintro e w2 ⟨rfl, hw⟩; rw [hw, hok]) | (go_at_call 50; refine (word_any _ _ HS2.out).mono ?_; rintro e w2 ⟨rfl, hw⟩; rw [hw, HW.out])
                        generalize hwf : storeNd WA w.heap.size 0 0 0 ⟨#[]⟩ 0 (.slice none 0 0) = wf
                        have hf2 := storeNd_zero HK.out 0 0 ⟨#[]⟩ 0 (.slice none 0 0)
                        rw [hwf] at hf2
                        have h2 := hwf
                        unfold storeNd at h2
                        simp only [Nat.zero_add] at h2
                        rw [h2]
                        refine bodyPost_ret (results_nd2 rfl rfl rfl hf2) rfl ?_
                        exact ⟨by rw [HV.out]; first | rfl | (rw [← wm3]; rfl), by rw [← hwf]; exact storeNd_below HB.out (Nat.le_refl _) _ _ _ _ _ _⟩
                    · have l0 : decide ((s.size : Int) < ((m + 3 : Nat) : Int)) = true := decide_eq_true (by omega)
                      have n7 : m + 3 ≤ 2000000 := by have := HL.out; omega
                      have l2 : decide ((s.size : Int) < (m : Int) + 3) = true := decide_eq_true (by omega)
                      have l3 : decide (s.size < m + 3) = true := decide_eq_true (by omega)
                      have HV := Aside0.mk (PlR_no (place_else h0e.out hF HW.out (.inr (.inr (fun e => hl (bt_pos e (by decide)))))))
                      have wm3 := wrA (K := 3) m 3 rfl n7
                      have l1 : decide ((s.size : Int) < wrap64 ((m : Int) + 3)) = true := by rw [wm3]; exact l0
                      clear hat hkq hM HI hn1 hnl hdl hokx hsz hF hm0 h36 hl l0 n7
                      go_wp2_with first | (go_at_call 85; refine (isDigit_any _ _).mono ?_; rintro e w2 ⟨rfl, hw⟩; rw [hw, hdd]) | (go_at_call 87; refine (isNumber_any _ _ HSP.out HAD.out).mono ?_; rintro e w2 ⟨rfl, hw⟩; rw [hw, hok]) | (go_at_call 50; refine (word_any _ _ HS2.out).mono ?_; rintro e w2 ⟨rfl, hw⟩; rw [hw, HW.out])
                      generalize hwf : storeNd WA w.heap.size 0 0 0 ⟨#[]⟩ 0 (.slice none 0 0) = wf
                      have hf2 := storeNd_zero HK.out 0 0 ⟨#[]⟩ 0 (.slice none 0 0)
                      rw [hwf] at hf2
                      have h2 := hwf
                      unfold storeNd at h2
                      simp only [Nat.zero_add] at h2
                      rw [h2]
                      refine bodyPost_ret (results_nd2 rfl rfl rfl hf2) rfl ?_
                      exact ⟨by rw [HV.out]; first | rfl | (rw [← wm3]; rfl), by rw [← hwf]; exact storeNd_below HB.out (Nat.le_refl _) _ _ _ _ _ _⟩
                · have f1 : (bt s 1 != 36) = true := by simpa using h36
                  have f0 : (bt s 1 == 36) = false := by simpa using h36
                  have HV := Aside0.mk (PlR_no (place_else h0e.out hF HW.out (.inl h36)))
                  clear hat hkq hM HI hn1 hnl hdl hokx hsz hF h36
                  go_wp2_with first | (go_at_call 85; refine (isDigit_any _ _).mono ?_; rintro e w2 ⟨rfl, hw⟩; rw [hw, hdd]) | (go_at_call 87; refine (isNumber_any _ _ HSP.out HAD.out).mono ?_; rintro e w2 ⟨rfl, hw⟩; rw [hw, hok]) | (go_at_call 50; refine (word_any _ _ HS2.out).mono ?_; rintro e w2 ⟨rfl, hw⟩; rw [hw, HW.out])
                  generalize hwf : storeNd WA w.heap.size 0 0 0 ⟨#[]⟩ 0 (.slice none 0 0) = wf
                  have hf2 := storeNd_zero HK.out 0 0 ⟨#[]⟩ 0 (.slice none 0 0)
                  rw [hwf] at hf2
                  have h2 := hwf
                  unfold storeNd at h2
                  simp only [Nat.zero_add] at h2
                  rw [h2]
                  refine bodyPost_ret (results_nd2 rfl rfl rfl hf2) rfl ?_
                  exact ⟨by rw [HV.out]; first | rfl | (rw [← wm3]; rfl), by rw [← hwf]; exact storeNd_below HB.out (Nat.le_refl _) _ _ _ _ _ _⟩
            · have x1 : (bt s n == 93) = false := by simpa using hx
              have hF : ¬ (numN (s.extract 1 s.size) ≠ 0 ∧ bt s (numN (s.extract 1 s.size) + 1) = 93) := by
                rintro ⟨h1, h2⟩
                have : numN (s.extract 1 s.size) = n - 1 := by unfold numN at h1 ⊢; split; exact hdl; rename_i hc; rw [if_neg hc] at h1; exact absurd rfl h1
                rw [this, show n - 1 + 1 = n by omega] at h2; exact hx h2
              clear hd hx
              have hok : True := trivial
              by_cases h36 : bt s 1 = 36
              · have f1 : (bt s 1 != 36) = false := by rw [h36]; rfl
                have f0 : (bt s 1 == 36) = true := by rw [h36]; rfl
                by_cases hm0 : m = 0
                · have HV := Aside0.mk (PlR_no (place_else h0e.out hF HW.out (.inr (.inl hm0))))
                  have g1 : ((m : Int) == 0) = true := by rw [hm0]; rfl
                  have g2 : decide ((m : Int) = 0) = true := by rw [hm0]; rfl
                  have g3 : decide (m = 0) = true := decide_eq_true hm0
                  clear hat hkq hM HI hn1 hnl hdl hokx hsz hF hm0 h36
                  go_wp2_with first | (go_at_call 85; refine (isDigit_any _ _).mono ?_; rintro e w2 ⟨rfl, hw⟩; rw [hw, hdd]) | (go_at_call 87; refine (isNumber_any _ _ HSP.out HAD.out).mono ?_; rintro e w2 ⟨rfl, hw⟩; rw [hw, hok]) | (go_at_call 50; refine (word_any _ _ HS2.out).mono ?_; rintro e w2 ⟨rfl, hw⟩; rw [hw, HW.out])
                  generalize hwf : storeNd WA w.heap.size 0 0 0 ⟨#[]⟩ 0 (.slice none 0 0) = wf
                  have hf2 := storeNd_zero HK.out 0 0 ⟨#[]⟩ 0 (.slice none 0 0)
                  rw [hwf] at hf2
                  have h2 := hwf
                  unfold storeNd at h2
                  simp only [Nat.zero_add] at h2
                  rw [h2]
                  refine bodyPost_ret (results_nd2 rfl rfl rfl hf2) rfl ?_
                  exact ⟨by rw [HV.out]; first | rfl | (rw [← wm3]; rfl), by rw [← hwf]; exact storeNd_below HB.out (Nat.le_refl _) _ _ _ _ _ _⟩
                · have g1 : ((m : Int) == 0) = false := by rw [beq_eq_false_iff_ne]; omega
                  have g2 : decide ((m : Int) = 0) = false := decide_eq_false (by omega)
                  have g3 : decide (m = 0) = false := decide_eq_false hm0
                  by_cases hl : m + 2 < s.size
                  · have l0 : decide ((s.size : Int) < ((m + 3 : Nat) : Int)) = false := decide_eq_false (by omega)
                    have l2 : decide ((s.size : Int) < (m : Int) + 3) = false := decide_eq_false (by omega)
                    have l3 : decide (s.size < m + 3) = false := decide_eq_false (by omega)
                    have n1 : (0 : Int) ≤ (m : Int) + 2 := by omega
                    have n2 : (m : Int) + 2 < (s.size : Int) := by omega
                    have n4 : (2 : Int) ≤ (m : Int) + 2 := by omega
                    have n5 : (m : Int) + 2 ≤ (s.size : Int) := by omega
                    have n6 : 2 ≤ m + 2 := by omega
                    have n7 : m + 3 ≤ 2000000 := by omega
                    have b2 := bt_at s (m + 2) hl
                    by_cases h93 : bt s (m + 2) = 93
                    · have r1 : (bt s (m + 2) != 93) = false := by rw [h93]; rfl
                      have r0 : (bt s (m + 2) == 93) = true := by rw [h93]; rfl
                      have HV := Aside0.mk (PlR_yes (place_word h0e.out (num_first (by rw [bt_ext _ _ _ _ (by omega)]; exact h36)) h36 HW.out hm0 h93))
                      obtain ⟨m1, m2, m3, m5, wm2, m4x⟩ := wrAll (K := 2) m 2 s.size rfl hl HM.out
                      have m4 : (2 : Int) ≤ wrap64 ((m : Int) + 2) := m4x 2 n6
                      have wm3 := wrA (K := 3) m 3 rfl n7
                      have l1 : decide ((s.size : Int) < wrap64 ((m : Int) + 3)) = false := by rw [wm3]; exact l0
                      clear m4x n6 n7 l0
                      clear hat hkq hM HI hn1 hnl hdl hokx hsz hF hm0 h36 h93
                      go_wp2_with first | (go_at_call 85; refine (isDigit_any _ _).mono ?_; rintro e w2 ⟨rfl, hw⟩; rw [hw, hdd]) | (go_at_call 87; refine (isNumber_any _ _ HSP.out HAD.out).mono ?_; rintro e w2 ⟨rfl, hw⟩; rw [hw, hok]) | (go_at_call 50; refine (word_any _ _ HS2.out).mono ?_; rintro e w2 ⟨rfl, hw⟩; rw [hw, HW.out])
                      generalize hwf : storeNd WA w.heap.size 0 0 5 (s.extract 2 (m + 2)) 0 (.slice none 0 0) = wf
                      have hf2 := storeNd_zero HK.out 0 5 (s.extract 2 (m + 2)) 0 (.slice none 0 0)
                      rw [hwf] at hf2
                      have h2 := hwf
                      unfold storeNd at h2
                      simp only [Nat.zero_add] at h2
                      rw [h2]
                      refine bodyPost_ret (results_nd2 rfl rfl rfl hf2) rfl ?_
                      exact ⟨by rw [HV.out]; first | rfl | (rw [← wm3]; rfl), by rw [← hwf]; exact storeNd_below HB.out (Nat.le_refl _) _ _ _ _ _ _⟩
                    · have r1 : (bt s (m + 2) != 93) = true := by simpa using h93
                      have r0 : (bt s (m + 2) == 93) = false := by simpa using h93
                      have HV := Aside0.mk (PlR_no (place_else h0e.out hF HW.out (.inr (.inr h93))))
                      obtain ⟨m1, m2, m3, m5, wm2, m4x⟩ := wrAll (K := 2) m 2 s.size rfl hl HM.out
                      have m4 : (2 : Int) ≤ wrap64 ((m : Int) + 2) := m4x 2 n6
                      have wm3 := wrA (K := 3) m 3 rfl n7
                      have l1 : decide ((s.size : Int) < wrap64 ((m : Int) + 3)) = false := by rw [wm3]; exact l0
                      clear m4x n6 n7 l0
                      clear hat hkq hM HI hn1 hnl hdl hokx hsz hF hm0 h36 h93
                      go_wp2_with first | (go_at_call 85; refine (isDigit_any _ _).mono ?_; rintro e w2 ⟨rfl, hw⟩; rw [hw, hdd]) | (go_at_call 87; refine (isNumber_any _ _ HSP.out HAD.out).mono ?_; rintro e w2 ⟨rfl, hw⟩; rw [hw, hok]) | (go_at_call 50; refine (word_any _ _ HS2.out).mono ?_; rintro e w2 ⟨rfl, hw⟩; rw [hw, HW.out])
                      generalize hwf : storeNd WA w.heap.size 0 0 0 ⟨#[]⟩ 0 (.slice none 0 0) = wf
                      have hf2 := storeNd_zero HK.out 0 0 ⟨#[]⟩ 0 (.slice none 0 0)
                      rw [hwf] at hf2
                      have h2 := hwf
                      unfold storeNd at h2
                      simp only [Nat.zero_add] at h2
                      rw [h2]
                      refine bodyPost_ret (results_nd2 rfl rfl rfl hf2) rfl ?_
                      exact ⟨by rw [HV.out]; first | rfl | (rw [← wm3]; rfl), by rw [← hwf]; exact storeNd_below HB.out (Nat.le_refl _) _ _ _ _ _ _⟩
                  · have l0 : decide ((s.size : Int) < ((m + 3 : Nat) : Int)) = true := decide_eq_true (by omega)
                    have n7 : m + 3 ≤ 2000000 := by have := HL.out; omega
                    have l2 : decide ((s.size : Int) < (m : Int) + 3) = true := decide_eq_true (by omega)
                    have l3 : decide (s.size < m + 3) = true := decide_eq_true (by omega)
                    have HV := Aside0.mk (PlR_no (place_else h0e.out hF HW.out (.inr (.inr (fun e => hl (bt_pos e (by decide)))))))
                    have wm3 := wrA (K := 3) m 3 rfl n7
                    have l1 : decide ((s.size : Int) < wrap64 ((m : Int) + 3)) = true := by rw [wm3]; exact l0
                    clear hat hkq hM HI hn1 hnl hdl hokx hsz hF hm0 h36 hl l0 n7
                    go_wp2_with first | (go_at_call 85; refine (isDigit_any _ _).mono ?_; rintro e w2 ⟨rfl, hw⟩; rw [hw, hdd]) | (go_at_call 87; refine (isNumber_any _ _ HSP.out HAD.out).mono ?_; rintro e w2 ⟨rfl, hw⟩; rw [hw, hok]) | (go_at_call 50; refine (word_any _ _ HS2.out).mono ?_; rintro e w2 ⟨rfl, hw⟩; rw [hw, HW.out])
                    generalize hwf : storeNd WA w.heap.size 0 0 0 ⟨#[]⟩ 0 (.slice none 0 0) = wf
                    have hf2 := storeNd_zero HK.out 0 0 ⟨#[]⟩ 0 (.slice none 0 0)
                    rw [hwf] at hf2
                    have h2 := hwf
                    unfold storeNd at h2
                    simp only [Nat.zero_add] at h2
                    rw [h2]
                    refine bodyPost_ret (results_nd2 rfl rfl rfl hf2) rfl ?_
                    exact ⟨by rw [HV.out]; first | rfl | (rw [← wm3]; rfl), by rw [← hwf]; exact storeNd_below HB.out (Nat.le_refl _) _ _ _ _ _ _⟩
              · have f1 : (bt s 1 != 36) = true := by simpa using h36
                have f0 : (bt s 1 == 36) = false := by simpa using h36
                have HV := Aside0.mk (PlR_no (place_else h0e.out hF HW.out (.inl h36)))
                clear hat hkq hM HI hn1 hnl hdl hokx hsz hF h36
                go_wp2_with first | (go_at_call 85; refine (isDigit_any _ _).mono ?_; rintro e w2 ⟨rfl, hw⟩; rw [hw, hdd]) | (go_at_call 87; refine (isNumber_any _ _ HSP.out HAD.out).mono ?_; rintro e w2 ⟨rfl, hw⟩; rw [hw, hok]) | (go_at_call 50; refine (word_any _ _ HS2.out).mono ?_; rintro e w2 ⟨rfl, hw⟩; rw [hw, HW.out])
                generalize hwf : storeNd WA w.heap.size 0 0 0 ⟨#[]⟩ 0 (.slice none 0 0) = wf
                have hf2 := storeNd_zero HK.out 0 0 ⟨#[]⟩ 0 (.slice none 0 0)
                rw [hwf] at hf2
                have h2 := hwf
                unfold storeNd at h2
                simp only [Nat.zero_add] at h2
                rw [h2]
                refine bodyPost_ret (results_nd2 rfl rfl rfl hf2) rfl ?_
                exact ⟨by rw [HV.out]; first | rfl | (rw [← wm3]; rfl), by rw [← hwf]; exact storeNd_below HB.out (Nat.le_refl _) _ _ _ _ _ _⟩
          · have d1 : decide ((n : Int) < (s.size : Int)) = false := decide_eq_false (by omega)
            have d2 : decide (n < s.size) = false := decide_eq_false hlt
            have hF : ¬ (numN (s.extract 1 s.size) ≠ 0 ∧ bt s (numN (s.extract 1 s.size) + 1) = 93) := by
              rintro ⟨h1, h2⟩
              have : numN (s.extract 1 s.size) = n - 1 := by unfold numN at h1 ⊢; split; exact hdl; rename_i hc; rw [if_neg hc] at h1; exact absurd rfl h1
              rw [this, show n - 1 + 1 = n by omega] at h2; exact hlt (bt_pos h2 (by decide))
            clear hd
            have hok : True := trivial
            have hdd : True := trivial
            by_cases h36 : bt s 1 = 36
            · have f1 : (bt s 1 != 36) = false := by rw [h36]; rfl
              have f0 : (bt s 1 == 36) = true := by rw [h36]; rfl
              by_cases hm0 : m = 0
              · have HV := Aside0.mk (PlR_no (place_else h0e.out hF HW.out (.inr (.inl hm0))))
                have g1 : ((m : Int) == 0) = true := by rw [hm0]; rfl
                have g2 : decide ((m : Int) = 0) = true := by rw [hm0]; rfl
                have g3 : decide (m = 0) = true := decide_eq_true hm0
                clear hat hkq hM HI hn1 hnl hdl hokx hsz hF hm0 h36
                go_wp2_with first | (go_at_call 85; refine (isDigit_any _ _).mono ?_; rintro e w2 ⟨rfl, hw⟩; rw [hw, hdd]) | (go_at_call 87; refine (isNumber_any _ _ HSP.out HAD.out).mono ?_; rintro e w2 ⟨rfl, hw⟩; rw [hw, hok]) | (go_at_call 50; refine (word_any _ _ HS2.out).mono ?_; rintro e w2 ⟨rfl, hw⟩; rw [hw, HW.out])
                generalize hwf : storeNd WA w.heap.size 0 0 0 ⟨#[]⟩ 0 (.slice none 0 0) = wf
                have hf2 := storeNd_zero HK.out 0 0 ⟨#[]⟩ 0 (.slice none 0 0)
                rw [hwf] at hf2
                have h2 := hwf
                unfold storeNd at h2
                simp only [Nat.zero_add] at h2
                rw [h2]
                refine bodyPost_ret (results_nd2 rfl rfl rfl hf2) rfl ?_
                exact ⟨by rw [HV.out]; first | rfl | (rw [← wm3]; rfl), by rw [← hwf]; exact storeNd_below HB.out (Nat.le_refl _) _ _ _ _ _ _⟩
              · have g1 : ((m : Int) == 0) = false := by rw [beq_eq_false_iff_ne]; omega
                have g2 : decide ((m : Int) = 0) = false := decide_eq_false (by omega)
                have g3 : decide (m = 0) = false := decide_eq_false hm0
                by_cases hl : m + 2 < s.size
                · have l0 : decide ((s.size : Int) < ((m + 3 : Nat) : Int)) = false := decide_eq_false (by omega)
                  have l2 : decide ((s.size : Int) < (m : Int) + 3) = false := decide_eq_false (by omega)
                  have l3 : decide (s.size < m + 3) = false := decide_eq_false (by omega)
                  have n1 : (0 : Int) ≤ (m : Int) + 2 := by omega
                  have n2 : (m : Int) + 2 < (s.size : Int) := by omega
                  have n4 : (2 : Int) ≤ (m : Int) + 2 := by omega
                  have n5 : (m : Int) + 2 ≤ (s.size : Int) := by omega
                  have n6 : 2 ≤ m + 2 := by omega
                  have n7 : m + 3 ≤ 2000000 := by omega
                  have b2 := bt_at s (m + 2) hl
                  by_cases h93 : bt s (m + 2) = 93
                  · have r1 : (bt s (m + 2) != 93) = false := by rw [h93]; rfl
                    have r0 : (bt s (m + 2) == 93) = true := by rw [h93]; rfl
                    have HV := Aside0.mk (PlR_yes (place_word h0e.out (num_first (by rw [bt_ext _ _ _ _ (by omega)]; exact h36)) h36 HW.out hm0 h93))
                    obtain ⟨m1, m2, m3, m5, wm2, m4x⟩ := wrAll (K := 2) m 2 s.size rfl hl HM.out
                    have m4 : (2 : Int) ≤ wrap64 ((m : Int) + 2) := m4x 2 n6
                    have wm3 := wrA (K := 3) m 3 rfl n7
                    have l1 : decide ((s.size : Int) < wrap64 ((m : Int) + 3)) = false := by rw [wm3]; exact l0
                    clear m4x n6 n7 l0
                    clear hat hkq hM HI hn1 hnl hdl hokx hsz hF hm0 h36 h93
                    go_wp2_with first | (go_at_call 85; refine (isDigit_any _ _).mono ?_; rintro e w2 ⟨rfl, hw⟩; rw [hw, hdd]) | (go_at_call 87; refine (isNumber_any _ _ HSP.out HAD.out).mono ?_; rintro e w2 ⟨rfl, hw⟩; rw [hw, hok]) | (go_at_call 50; refine (word_any _ _ HS2.out).mono ?_; rintro e w2 ⟨rfl, hw⟩; rw [hw, HW.out])
                    generalize hwf : storeNd WA w.heap.size 0 0 5 (s.extract 2 (m + 2)) 0 (.slice none 0 0) = wf
                    have hf2 := storeNd_zero HK.out 0 5 (s.extract 2 (m + 2)) 0 (.slice none 0 0)
                    rw [hwf] at hf2
                    have h2 := hwf
                    unfold storeNd at h2
                    simp only [Nat.zero_add] at h2
                    rw [h2]
                    refine bodyPost_ret (results_nd2 rfl rfl rfl hf2) rfl ?_
                    exact ⟨by rw [HV.out]; first | rfl | (rw [← wm3]; rfl), by rw [← hwf]; exact storeNd_below HB.out (Nat.le_refl _) _ _ _ _ _ _⟩
                  · have r1 : (bt s (m + 2) != 93) = true := by simpa using h93
                    have r0 : (bt s (m + 2) == 93) = false := by simpa using h93
                    have HV := Aside0.mk (PlR_no (place_else h0e.out hF HW.out (.inr (.inr h93))))
                    obtain ⟨m1, m2, m3, m5, wm2, m4x⟩ := wrAll (K := 2) m 2 s.size rfl hl HM.out
                    have m4 : (2 : Int) ≤ wrap64 ((m : Int) + 2) := m4x 2 n6
                    have wm3 := wrA (K := 3) m 3 rfl n7
                    have l1 : decide ((s.size : Int) < wrap64 ((m : Int) + 3)) = false := by rw [wm3]; exact l0
                    clear m4x n6 n7 l0
                    clear hat hkq hM HI hn1 hnl hdl hokx hsz hF hm0 h36 h93
                    go_wp2_with first | (go_at_call 85; refine (isDigit_any _ _).mono ?_; rintro e w2 ⟨rfl, hw⟩; rw [hw, hdd]) | (go_at_call 87; refine (isNumber_any _ _ HSP.out HAD.out).mono ?_; rintro e w2 ⟨rfl, hw⟩; rw [hw, hok]) | (go_at_call 50; refine (word_any _ _ HS2.out).mono ?_; rintro e w2 ⟨rfl, hw⟩; rw [hw, HW.out])
                    generalize hwf : storeNd WA w.heap.size 0 0 0 ⟨#[]⟩ 0 (.slice none 0 0) = wf
                    have hf2 := storeNd_zero HK.out 0 0 ⟨#[]⟩ 0 (.slice none 0 0)
                    rw [hwf] at hf2
                    have h2 := hwf
                    unfold storeNd at h2
                    simp only [Nat.zero_add] at h2
                    rw [h2]
                    refine bodyPost_ret (results_nd2 rfl rfl rfl hf2) rfl ?_
                    exact ⟨by rw [HV.out]; first | rfl | (rw [← wm3]; rfl), by rw [← hwf]; exact storeNd_below HB.out (Nat.le_refl _) _ _ _ _ _ _⟩
                · have l0 : decide ((s.size : Int) < ((m + 3 : Nat) : Int)) = true := decide_eq_true (by omega)
                  have n7 : m + 3 ≤ 2000000 := by have := HL.out; omega
                  have l2 : decide ((s.size : Int) < (m : Int) + 3) = true := decide_eq_true (by omega)
                  have l3 : decide (s.size < m + 3) = true := decide_eq_true (by omega)
                  have HV := Aside0.mk (PlR_no (place_else h0e.out hF HW.out (.inr (.inr (fun e => hl (bt_pos e (by decide)))))))
                  have wm3 := wrA (K := 3) m 3 rfl n7
                  have l1 : decide ((s.size : Int) < wrap64 ((m : Int) + 3)) = true := by rw [wm3]; exact l0
                  clear hat hkq hM HI hn1 hnl hdl hokx hsz hF hm0 h36 hl l0 n7
                  go_wp2_with first | (go_at_call 85; refine (isDigit_any _ _).mono ?_; rintro e w2 ⟨rfl, hw⟩; rw [hw, hdd]) | (go_at_call 87; refine (isNumber_any _ _ HSP.out HAD.out).mono ?_; rintro e w2 ⟨rfl, hw⟩; rw [hw, hok]) | (go_at_call 50; refine (word_any _ _ HS2.out).mono ?_; rintro e w2 ⟨rfl, hw⟩; rw [hw, HW.out])
                  generalize hwf : storeNd WA w.heap.size 0 0 0 ⟨#[]⟩ 0 (.slice none 0 0) = wf
                  have hf2 := storeNd_zero HK.out 0 0 ⟨#[]⟩ 0 (.slice none 0 0)
                  rw [hwf] at hf2
                  have h2 := hwf
                  unfold storeNd at h2
                  simp only [Nat.zero_add] at h2
                  rw [h2]
                  refine bodyPost_ret (results_nd2 rfl rfl rfl hf2) rfl ?_
                  exact ⟨by rw [HV.out]; first | rfl | (rw [← wm3]; rfl), by rw [← hwf]; exact storeNd_below HB.out (Nat.le_refl _) _ _ _ _ _ _⟩
            · have f1 : (bt s 1 != 36) = true := by simpa using h36
              have f0 : (bt s 1 == 36) = false := by simpa using h36
              have HV := Aside0.mk (PlR_no (place_else h0e.out hF HW.out (.inl h36)))
              clear hat hkq hM HI hn1 hnl hdl hokx hsz hF h36
              go_wp2_with first | (go_at_call 85; refine (isDigit_any _ _).mono ?_; rintro e w2 ⟨rfl, hw⟩; rw [hw, hdd]) | (go_at_call 87; refine (isNumber_any _ _ HSP.out HAD.out).mono ?_; rintro e w2 ⟨rfl, hw⟩; rw [hw, hok]) | (go_at_call 50; refine (word_any _ _ HS2.out).mono ?_; rintro e w2 ⟨rfl, hw⟩; rw [hw, HW.out])
              generalize hwf : storeNd WA w.heap.size 0 0 0 ⟨#[]⟩ 0 (.slice none 0 0) = wf
              have hf2 := storeNd_zero HK.out 0 0 ⟨#[]⟩ 0 (.slice none 0 0)
              rw [hwf] at hf2
              have h2 := hwf
              unfold storeNd at h2
              simp only [Nat.zero_add] at h2
              rw [h2]
              refine bodyPost_ret (results_nd2 rfl rfl rfl hf2) rfl ?_
              exact ⟨by rw [HV.out]; first | rfl | (rw [← wm3]; rfl), by rw [← hwf]; exact storeNd_below HB.out (Nat.le_refl _) _ _ _ _ _ _⟩
end Go.Proofs.YtmifmmpbmcfmpaaGreatDoor.IW
