/-
  The bytes of a character: the reference's functions, the library's WriteRune.
-/
import Derived.Test.YtmifmmpbmcfmpaaGreatDoorJv
import Derived.Laws.OwnMore
import Derived.Lib.AppendStr
set_option linter.unusedVariables false
set_option linter.unusedSimpArgs false
namespace Go.Proofs.YtmifmmpbmcfmpaaGreatDoor.IW
open Go Go.RowKit
set_option maxRecDepth 100000

theorem byteCells_same (l : List UInt8) : byteCells l = Lib.byteCells l := rfl
theorem rune_cells (c : Int) : byteCells (Lib.encodeRune c) = Lib.runeCells c := by rw [byteCells_same, Lib.byteCells_encodeRune]
/-- What an appending has done. -/
structure AR (w w' : World) (base : Nat) (v : Value) (n : Nat) (xs : List Value) (more : List Value) (g cap : Nat) : Prop where
  own : w'.ownsRow base 5 1 (.slice (some ⟨g, 0, none⟩) (n + more.length) cap) (n + more.length) (xs ++ more)
  grown : ∃ o, (w.alloc o).grownBy w' v.ownBlock ∧ (v.ownBlock = some g ∨ (w.alloc o).heap.size ≤ g)
theorem conv_rune (c : Int) (w : World) (cells : List Value) (n : Nat) (h : Lib.runeCells c = cells) (hn : cells.length = n) :
    (convert 46 9 (.slice (some ⟨w.heap.size, 0, none⟩) n n)).run Tryz.prog (w.alloc (.cells cells.toArray 5)) = .ok (.string ⟨(Lib.encodeRune c).toArray⟩) (w.alloc (.cells cells.toArray 5)) := by
  have hl : (Lib.encodeRune c).length = n := by rw [← hn, ← h, Lib.runeCells_length]
  have hle := Lib.runeCells_le c
  rw [Lib.runeCells_length] at hle
  have ho := World.ownsRow_lit (base := w.heap.size) (e := 5) (size := 1) w cells.toArray n (Nat.le_refl _) (by simp only [maxLen]; omega) (by simpa using hn)
  have := conv_own (W := w.alloc (.cells cells.toArray 5)) (base := w.heap.size) (g := w.heap.size) (cap := n) (bs := Lib.encodeRune c) (by
    rw [rune_cells, h, hl]
    simpa using ho)
  rw [hl] at this
  exact this
theorem rune_cases {c : Int} (hc : isCh c = true) : (0 ≤ c ∧ c ≤ 127) ∨ (128 ≤ c ∧ c ≤ 2047) ∨ ((2048 ≤ c ∧ c < 55296) ∨ (57343 < c ∧ c ≤ 65535)) ∨ (65536 ≤ c ∧ c ≤ 1114111) := by
  have h : 0 ≤ c ∧ c ≤ 1114111 ∧ ¬ (55296 ≤ c ∧ c ≤ 57343) := of_decide_eq_true hc
  omega
theorem rune_c0 {c : Int} (h : 0 ≤ c ∧ c ≤ 127) : Lib.runeCells c = [.int .u8 c] := by unfold Lib.runeCells; rw [Lib.encodeRuneZ_one h.1 h.2]; rfl
theorem rune_c1 {c : Int} (h : 128 ≤ c ∧ c ≤ 2047) : Lib.runeCells c = [.int .u8 (192 + c / 64), .int .u8 (128 + c % 64)] := by unfold Lib.runeCells; rw [Lib.encodeRuneZ_two h.1 h.2]; rfl
theorem rune_c2 {c : Int} (h : (2048 ≤ c ∧ c < 55296) ∨ (57343 < c ∧ c ≤ 65535)) : Lib.runeCells c = [.int .u8 (224 + c / 4096), .int .u8 (128 + c / 64 % 64), .int .u8 (128 + c % 64)] := by unfold Lib.runeCells; rw [Lib.encodeRuneZ_three h]; rfl
theorem rune_c3 {c : Int} (h : 65536 ≤ c ∧ c ≤ 1114111) : Lib.runeCells c = [.int .u8 (240 + c / 262144), .int .u8 (128 + c / 4096 % 64), .int .u8 (128 + c / 64 % 64), .int .u8 (128 + c % 64)] := by unfold Lib.runeCells; rw [Lib.encodeRuneZ_four h.1 h.2]; rfl
set_option maxHeartbeats 1000000 in
theorem one_any (c : Int) (w : World) (hc : isCh c = true) : Calls Tryz.prog 83 #[.int .i64 c] w fun e w' => e = .returned (.string ⟨(Lib.encodeRune c).toArray⟩) ∧ Below w.heap.size w w' := by
  rcases rune_cases hc with h | h | h | h
  · have hcv := conv_rune c w _ 1 (rune_c0 h) rfl
    have HB := Aside0.mk (below_alloc w (.cells #[.int .u8 c] 5))
    have h0 : 0 ≤ c := by omega
    have h2 : c ≤ 1114111 := by omega
    go_enter Tryz.func83, Tryz.ntmps83
    go_wp2
    go_ret
    exact ⟨rfl, HB.out⟩
  · have hcv := conv_rune c w _ 2 (rune_c1 h) rfl
    have HB := Aside0.mk (below_alloc w (.cells #[.int .u8 (192 + c / 64), .int .u8 (128 + c % 64)] 5))
    have h0 : 0 ≤ c := by omega
    have h2 : c ≤ 1114111 := by omega
    go_enter Tryz.func83, Tryz.ntmps83
    go_wp2
    go_ret
    exact ⟨rfl, HB.out⟩
  · have hcv := conv_rune c w _ 3 (rune_c2 h) rfl
    have HB := Aside0.mk (below_alloc w (.cells #[.int .u8 (224 + c / 4096), .int .u8 (128 + c / 64 % 64), .int .u8 (128 + c % 64)] 5))
    have h0 : 0 ≤ c := by omega
    have h2 : c ≤ 1114111 := by omega
    have hh : 2048 ≤ c ∧ c ≤ 65535 := by omega
    clear h
    go_enter Tryz.func83, Tryz.ntmps83
    go_wp2
    go_ret
    exact ⟨rfl, HB.out⟩
  · have hcv := conv_rune c w _ 4 (rune_c3 h) rfl
    have HB := Aside0.mk (below_alloc w (.cells #[.int .u8 (240 + c / 262144), .int .u8 (128 + c / 4096 % 64), .int .u8 (128 + c / 64 % 64), .int .u8 (128 + c % 64)] 5))
    have h0 : 0 ≤ c := by omega
    have h2 : c ≤ 1114111 := by omega
    go_enter Tryz.func83, Tryz.ntmps83
    go_wp2
    go_ret
    exact ⟨rfl, HB.out⟩
set_option maxHeartbeats 2000000 in
theorem nonascii_1 (w : World) (base : Nat) (v : Value) (n : Nat) (xs : List Value) (c : Int) (hown : w.ownsRow base 5 1 v n xs) (hlen : n ≤ 200000) (hB : base ≤ w.heap.size) (h : 128 ≤ c ∧ c ≤ 2047) : Calls Tryz.prog 124 #[v, .int .i32 c] w fun e w' => ∃ g cap, e = .returned (.slice (some ⟨g, 0, none⟩) (n + (Lib.runeCells c).length) cap) ∧ AR w w' base v n xs (Lib.runeCells c) g cap := by
  obtain ⟨i5, z5, hi, hz, hsz, hby, hzs⟩ := info5
  have HO := Aside0.mk (hown.alloc (.cells #[.int .u8 (192 + c / 64), .int .u8 (128 + c % 64)] 5))
  have HC := Aside0.mk (rune_c1 h)
  have HM : Aside0 (n + 2 ≤ maxLen) := ⟨by simp only [maxLen]; omega⟩
  have HM2 : Aside0 ((n + 2) * 1 ≤ 140737488355328) := ⟨by omega⟩
  have HBS : Aside0 (base ≤ (w.alloc (.cells #[.int .u8 (192 + c / 64), .int .u8 (128 + c % 64)] 5)).heap.size) := ⟨by show base ≤ (w.heap.push _).size; simp; omega⟩
  clear hown hlen hB
  obtain ⟨hl, hu⟩ := h
  go_enter Tryz.func124, Tryz.ntmps124
  go_wp2_with (at_builtin; refine wpList_append_lies _ rfl (.tmp 14) (.tmp 23) 46 rfl base 5 i5 z5 1 1 Tryz.underlying46 hi hz hsz hby hzs (by decide) v n xs rfl HO.out ⟨w.heap.size, 0, none⟩ 2 2 [.int .u8 (192 + c / 64), .int .u8 (128 + c % 64)] rfl rfl (World.news_of_block (heap_alloc_new w _)) (by intro u hu; simp at hu; rcases hu with rfl | rfl <;> rfl) (by decide) HM.out HM2.out HBS.out _ rfl ?_; intro g cap w1 hown hgrow hat hlt; have HG := Aside0.mk (And.intro hown (And.intro hgrow hat)); clear hown hgrow hat hlt)
  go_ret
  obtain ⟨h1, h2, h3⟩ := HG.out
  refine ⟨g, cap, by rw [HC.out]; rfl, ⟨by rw [HC.out]; exact h1, ⟨_, h2, ?_⟩⟩⟩
  rcases h3 with h3 | h3
  · exact .inl h3
  · exact .inr (by omega)
set_option maxHeartbeats 2000000 in
theorem nonascii_2lo (w : World) (base : Nat) (v : Value) (n : Nat) (xs : List Value) (c : Int) (hown : w.ownsRow base 5 1 v n xs) (hlen : n ≤ 200000) (hB : base ≤ w.heap.size) (h0 : 2048 ≤ c ∧ c < 55296) : Calls Tryz.prog 124 #[v, .int .i32 c] w fun e w' => ∃ g cap, e = .returned (.slice (some ⟨g, 0, none⟩) (n + (Lib.runeCells c).length) cap) ∧ AR w w' base v n xs (Lib.runeCells c) g cap := by
  have h : (2048 ≤ c ∧ c < 55296) ∨ (57343 < c ∧ c ≤ 65535) := by omega
  obtain ⟨i5, z5, hi, hz, hsz, hby, hzs⟩ := info5
  have HO := Aside0.mk (hown.alloc (.cells #[.int .u8 (224 + c / 4096), .int .u8 (128 + c / 64 % 64), .int .u8 (128 + c % 64)] 5))
  have HC := Aside0.mk (rune_c2 h)
  have HM : Aside0 (n + 3 ≤ maxLen) := ⟨by simp only [maxLen]; omega⟩
  have HM2 : Aside0 ((n + 3) * 1 ≤ 140737488355328) := ⟨by omega⟩
  have HBS : Aside0 (base ≤ (w.alloc (.cells #[.int .u8 (224 + c / 4096), .int .u8 (128 + c / 64 % 64), .int .u8 (128 + c % 64)] 5)).heap.size) := ⟨by show base ≤ (w.heap.push _).size; simp; omega⟩
  clear hown hlen hB
  clear h
  obtain ⟨hl, hu⟩ := h0
  go_enter Tryz.func124, Tryz.ntmps124
  go_wp2_with (at_builtin; refine wpList_append_lies _ rfl (.tmp 34) (.tmp 48) 46 rfl base 5 i5 z5 1 1 Tryz.underlying46 hi hz hsz hby hzs (by decide) v n xs rfl HO.out ⟨w.heap.size, 0, none⟩ 3 3 [.int .u8 (224 + c / 4096), .int .u8 (128 + c / 64 % 64), .int .u8 (128 + c % 64)] rfl rfl (World.news_of_block (heap_alloc_new w _)) (by intro u hu; simp at hu; rcases hu with rfl | rfl | rfl <;> rfl) (by decide) HM.out HM2.out HBS.out _ rfl ?_; intro g cap w1 hown hgrow hat hlt; have HG := Aside0.mk (And.intro hown (And.intro hgrow hat)); clear hown hgrow hat hlt)
  go_ret
  obtain ⟨h1, h2, h3⟩ := HG.out
  refine ⟨g, cap, by rw [HC.out]; rfl, ⟨by rw [HC.out]; exact h1, ⟨_, h2, ?_⟩⟩⟩
  rcases h3 with h3 | h3
  · exact .inl h3
  · exact .inr (by omega)
set_option maxHeartbeats 2000000 in
theorem nonascii_2hi (w : World) (base : Nat) (v : Value) (n : Nat) (xs : List Value) (c : Int) (hown : w.ownsRow base 5 1 v n xs) (hlen : n ≤ 200000) (hB : base ≤ w.heap.size) (h0 : 57343 < c ∧ c ≤ 65535) : Calls Tryz.prog 124 #[v, .int .i32 c] w fun e w' => ∃ g cap, e = .returned (.slice (some ⟨g, 0, none⟩) (n + (Lib.runeCells c).length) cap) ∧ AR w w' base v n xs (Lib.runeCells c) g cap := by
  have h : (2048 ≤ c ∧ c < 55296) ∨ (57343 < c ∧ c ≤ 65535) := by omega
  obtain ⟨i5, z5, hi, hz, hsz, hby, hzs⟩ := info5
  have HO := Aside0.mk (hown.alloc (.cells #[.int .u8 (224 + c / 4096), .int .u8 (128 + c / 64 % 64), .int .u8 (128 + c % 64)] 5))
  have HC := Aside0.mk (rune_c2 h)
  have HM : Aside0 (n + 3 ≤ maxLen) := ⟨by simp only [maxLen]; omega⟩
  have HM2 : Aside0 ((n + 3) * 1 ≤ 140737488355328) := ⟨by omega⟩
  have HBS : Aside0 (base ≤ (w.alloc (.cells #[.int .u8 (224 + c / 4096), .int .u8 (128 + c / 64 % 64), .int .u8 (128 + c % 64)] 5)).heap.size) := ⟨by show base ≤ (w.heap.push _).size; simp; omega⟩
  clear hown hlen hB
  clear h
  obtain ⟨hl, hu⟩ := h0
  go_enter Tryz.func124, Tryz.ntmps124
  go_wp2_with (at_builtin; refine wpList_append_lies _ rfl (.tmp 34) (.tmp 48) 46 rfl base 5 i5 z5 1 1 Tryz.underlying46 hi hz hsz hby hzs (by decide) v n xs rfl HO.out ⟨w.heap.size, 0, none⟩ 3 3 [.int .u8 (224 + c / 4096), .int .u8 (128 + c / 64 % 64), .int .u8 (128 + c % 64)] rfl rfl (World.news_of_block (heap_alloc_new w _)) (by intro u hu; simp at hu; rcases hu with rfl | rfl | rfl <;> rfl) (by decide) HM.out HM2.out HBS.out _ rfl ?_; intro g cap w1 hown hgrow hat hlt; have HG := Aside0.mk (And.intro hown (And.intro hgrow hat)); clear hown hgrow hat hlt)
  go_ret
  obtain ⟨h1, h2, h3⟩ := HG.out
  refine ⟨g, cap, by rw [HC.out]; rfl, ⟨by rw [HC.out]; exact h1, ⟨_, h2, ?_⟩⟩⟩
  rcases h3 with h3 | h3
  · exact .inl h3
  · exact .inr (by omega)
set_option maxHeartbeats 2000000 in
theorem nonascii_3 (w : World) (base : Nat) (v : Value) (n : Nat) (xs : List Value) (c : Int) (hown : w.ownsRow base 5 1 v n xs) (hlen : n ≤ 200000) (hB : base ≤ w.heap.size) (h : 65536 ≤ c ∧ c ≤ 1114111) : Calls Tryz.prog 124 #[v, .int .i32 c] w fun e w' => ∃ g cap, e = .returned (.slice (some ⟨g, 0, none⟩) (n + (Lib.runeCells c).length) cap) ∧ AR w w' base v n xs (Lib.runeCells c) g cap := by
  obtain ⟨i5, z5, hi, hz, hsz, hby, hzs⟩ := info5
  have HO := Aside0.mk (hown.alloc (.cells #[.int .u8 (240 + c / 262144), .int .u8 (128 + c / 4096 % 64), .int .u8 (128 + c / 64 % 64), .int .u8 (128 + c % 64)] 5))
  have HC := Aside0.mk (rune_c3 h)
  have HM : Aside0 (n + 4 ≤ maxLen) := ⟨by simp only [maxLen]; omega⟩
  have HM2 : Aside0 ((n + 4) * 1 ≤ 140737488355328) := ⟨by omega⟩
  have HBS : Aside0 (base ≤ (w.alloc (.cells #[.int .u8 (240 + c / 262144), .int .u8 (128 + c / 4096 % 64), .int .u8 (128 + c / 64 % 64), .int .u8 (128 + c % 64)] 5)).heap.size) := ⟨by show base ≤ (w.heap.push _).size; simp; omega⟩
  clear hown hlen hB
  obtain ⟨hl, hu⟩ := h
  go_enter Tryz.func124, Tryz.ntmps124
  go_wp2_with (at_builtin; refine wpList_append_lies _ rfl (.tmp 57) (.tmp 76) 46 rfl base 5 i5 z5 1 1 Tryz.underlying46 hi hz hsz hby hzs (by decide) v n xs rfl HO.out ⟨w.heap.size, 0, none⟩ 4 4 [.int .u8 (240 + c / 262144), .int .u8 (128 + c / 4096 % 64), .int .u8 (128 + c / 64 % 64), .int .u8 (128 + c % 64)] rfl rfl (World.news_of_block (heap_alloc_new w _)) (by intro u hu; simp at hu; rcases hu with rfl | rfl | rfl | rfl <;> rfl) (by decide) HM.out HM2.out HBS.out _ rfl ?_; intro g cap w1 hown hgrow hat hlt; have HG := Aside0.mk (And.intro hown (And.intro hgrow hat)); clear hown hgrow hat hlt)
  go_ret
  obtain ⟨h1, h2, h3⟩ := HG.out
  refine ⟨g, cap, by rw [HC.out]; rfl, ⟨by rw [HC.out]; exact h1, ⟨_, h2, ?_⟩⟩⟩
  rcases h3 with h3 | h3
  · exact .inl h3
  · exact .inr (by omega)
set_option maxHeartbeats 2000000 in
theorem appendRune_any (w : World) (base : Nat) (v : Value) (n : Nat) (xs : List Value) (c : Int) (hown : w.ownsRow base 5 1 v n xs) (hlen : n ≤ 200000) (hB : base ≤ w.heap.size) (hc : isCh c = true) : Calls Tryz.prog 93 #[v, .int .i32 c] w fun e w' => ∃ g cap, e = .returned (.slice (some ⟨g, 0, none⟩) (n + (Lib.runeCells c).length) cap) ∧ AR w w' base v n xs (Lib.runeCells c) g cap := by
  by_cases h127 : c ≤ 127
  · have h : 0 ≤ c ∧ c ≤ 127 := ⟨(of_decide_eq_true hc : 0 ≤ c ∧ c ≤ 1114111 ∧ ¬ (55296 ≤ c ∧ c ≤ 57343)).1, h127⟩
    obtain ⟨i5, z5, hi, hz, hsz, hby, hzs⟩ := info5
    have HO := Aside0.mk (hown.alloc (.cells #[.int .u8 c] 5))
    have HC := Aside0.mk (rune_c0 h)
    have HM : Aside0 (n + 1 ≤ maxLen) := ⟨by simp only [maxLen]; omega⟩
    have HM2 : Aside0 ((n + 1) * 1 ≤ 140737488355328) := ⟨by omega⟩
    have HBS : Aside0 (base ≤ (w.alloc (.cells #[.int .u8 c] 5)).heap.size) := ⟨by show base ≤ (w.heap.push _).size; simp; omega⟩
    clear hown hlen hB
    obtain ⟨hl, hu⟩ := h
    clear hc h127
    go_enter Tryz.func93, Tryz.ntmps93
    go_wp2_with (at_builtin; refine wpList_append_lies _ rfl (.tmp 8) (.tmp 11) 46 rfl base 5 i5 z5 1 1 Tryz.underlying46 hi hz hsz hby hzs (by decide) v n xs rfl HO.out ⟨w.heap.size, 0, none⟩ 1 1 [.int .u8 c] rfl rfl (World.news_of_block (heap_alloc_new w _)) (by intro u hu; simp at hu; rcases hu with rfl <;> rfl) (by decide) HM.out HM2.out HBS.out _ rfl ?_; intro g cap w1 hown hgrow hat hlt; have HG := Aside0.mk (And.intro hown (And.intro hgrow hat)); clear hown hgrow hat hlt)
    go_ret
    obtain ⟨h1, h2, h3⟩ := HG.out
    refine ⟨g, cap, by rw [HC.out]; rfl, ⟨by rw [HC.out]; exact h1, ⟨_, h2, ?_⟩⟩⟩
    rcases h3 with h3 | h3
    · exact .inl h3
    · exact .inr (by omega)
  · have H : Calls Tryz.prog 124 #[v, .int .i32 c] w fun e w' => ∃ g cap, e = .returned (.slice (some ⟨g, 0, none⟩) (n + (Lib.runeCells c).length) cap) ∧ AR w w' base v n xs (Lib.runeCells c) g cap := by
      rcases rune_cases hc with h | h | h | h
      · omega
      · exact nonascii_1 w base v n xs c hown hlen hB h
      · rcases h with h | h
        · exact nonascii_2lo w base v n xs c hown hlen hB h
        · exact nonascii_2hi w base v n xs c hown hlen hB h
      · exact nonascii_3 w base v n xs c hown hlen hB h
    have HH := Aside0.mk H
    have h0 : 0 ≤ c ∧ c ≤ 1114111 ∧ ¬ (55296 ≤ c ∧ c ≤ 57343) := of_decide_eq_true hc
    have h1 : 128 ≤ c := by omega
    have h2 : c ≤ 1114111 := h0.2.1
    clear H hown hlen hB hc h127 h0
    go_enter Tryz.func93, Tryz.ntmps93
    go_wp2_with (go_at_call 124; refine HH.out.mono ?_; rintro e w2 ⟨g, cap, rfl, hA⟩; have HA := Aside0.mk hA; clear hA)
    go_ret
    exact ⟨g, cap, rfl, HA.out⟩
end Go.Proofs.YtmifmmpbmcfmpaaGreatDoor.IW
