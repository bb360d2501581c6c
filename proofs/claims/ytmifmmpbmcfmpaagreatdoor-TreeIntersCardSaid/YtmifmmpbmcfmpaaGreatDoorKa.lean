/-
  What stands behind a backslash: the reference's method.
-/
import Derived.Test.YtmifmmpbmcfmpaaGreatDoorJy
set_option linter.unusedVariables false
set_option linter.unusedSimpArgs false
namespace Go.Proofs.YtmifmmpbmcfmpaaGreatDoor.IW
open Go Go.RowKit Go.Proofs.YtmifmmpbmcfmpaaGreatDoor.MkW
set_option maxRecDepth 100000

/-- The state now, the text so far another one than at first. -/
structure Rt (w0 w : World) (base b : Nat) (e : TypeId) (s : ByteArray) (v1 tv0 tv : Value) (bs : List UInt8) (lv : Value) (nds : List Nd) (vs : List Value) : Prop where
  R : RI w base b e s v1 tv bs lv nds vs
  F : Fr w0 w b tv0 lv tv lv
theorem Rt.set {w0 w : World} {base b : Nat} {e : TypeId} {s : ByteArray} {v1 tv0 tv : Value} {bs : List UInt8} {lv : Value} {nds : List Nd} {vs : List Value} (h : Rt w0 w base b e s v1 tv0 tv bs lv nds vs) (v : Value) : Rt w0 (w.setCell ⟨b, 1, none⟩ v) base b e s v tv0 tv bs lv nds vs :=
  ⟨h.R.set1 v, h.F.trans ((Rs.refl h.R).set v).F⟩
/-- One byte is appended to the text. -/
theorem byte_Rt {w0 w w1 : World} {base b : Nat} {e : TypeId} {s : ByteArray} {v1 tv : Value} {bs : List UInt8} {lv : Value} {nds : List Nd} {vs : List Value} {g cap : Nat} {more : List UInt8} (o : Obj) (S : Rs w0 w base b e s v1 tv bs lv nds vs)
    (hown : w1.ownsRow base 5 1 (.slice (some ⟨g, 0, none⟩) (bs.length + more.length) cap) (bs.length + more.length) (byteCells bs ++ byteCells more)) (hgrow : (w.alloc o).grownBy w1 tv.ownBlock) (hat : tv.ownBlock = some g ∨ g = (w.alloc o).heap.size) (hm : more ≠ []) :
    Rt w0 (w1.setCell ⟨b, 2, none⟩ (.slice (some ⟨g, 0, none⟩) (bs.length + more.length) cap)) base b e s v1 tv (.slice (some ⟨g, 0, none⟩) (bs.length + more.length) cap) (bs ++ more) lv nds vs := by
  obtain ⟨h1, h2⟩ := text_RI (S.alloc o).R hown hgrow (by rcases hat with h | h; exact .inl h; exact .inr (by omega)) hm
  exact ⟨h1, (S.alloc o).F.trans h2⟩
theorem str_Rt {w0 w w1 : World} {base b : Nat} {e : TypeId} {s : ByteArray} {v1 tv : Value} {bs : List UInt8} {lv : Value} {nds : List Nd} {vs : List Value} {g cap : Nat} {more : List UInt8} (S : Rs w0 w base b e s v1 tv bs lv nds vs)
    (hown : w1.ownsRow base 5 1 (.slice (some ⟨g, 0, none⟩) (bs.length + more.length) cap) (bs.length + more.length) (byteCells bs ++ byteCells more)) (hgrow : w.grownBy w1 tv.ownBlock) (hat : tv.ownBlock = some g ∨ w.heap.size ≤ g) (hm : more ≠ []) :
    Rt w0 (w1.setCell ⟨b, 2, none⟩ (.slice (some ⟨g, 0, none⟩) (bs.length + more.length) cap)) base b e s v1 tv (.slice (some ⟨g, 0, none⟩) (bs.length + more.length) cap) (bs ++ more) lv nds vs := by
  obtain ⟨h1, h2⟩ := text_RI S.R hown hgrow hat hm
  exact ⟨h1, S.F.trans h2⟩
theorem blk_after {w w1 : World} {base b : Nat} {s : ByteArray} {v1 tv : Value} {bs : List UInt8} {lv : Value} {nds : List Nd} {vs : List Value} (R : RI w base b 48 s v1 tv bs lv nds vs) (hgrow : w.grownBy w1 tv.ownBlock) :
    w1.cell? ⟨b, 2, none⟩ = some tv ∧ w1.frozen? ⟨b, 2, none⟩ = false := by
  have hblk : w1.heap[b]? = some (.cells #[.string s, v1, tv, lv] 48 (0, 0)) := by
    rw [hgrow.block b (Array.getElem?_eq_some_iff.1 R.blk).1 (fun e => (R.tb b e.symm).1 rfl)]; exact R.blk
  exact ⟨by rw [cell_of_row _ b _ _ _ _ hblk]; rfl, by simp only [World.frozen?, hblk]; simp⟩

set_option maxHeartbeats 1000000 in
theorem rescape_nil (w : World) (base b : Nat) (s : ByteArray) (n : Nat) (tv lv : Value) (bs : List UInt8) (nds : List Nd) (vs : List Value) (R0 : RI w base b 48 s (.int .i64 n) tv bs lv nds vs) (hn : n + 1 ≤ s.size) (hs : s.size ≤ 1000000) (hlb : bs.length ≤ 100000) (u : ByteArray) (hu : s.extract (n + 1) s.size = u) (hu0 : u.size = 0) : Calls Tryz.prog 18 #[.pointer (some ⟨b, 0, none⟩)] w fun e w' => e = .returned (.tuple #[]) ∧ ∃ tv', RI w' base b 48 s (.int .i64 (n + 1 + 0 : Nat)) tv' (bs ++ [92]) lv nds vs ∧ Fr w w' b tv lv tv' lv := by
  obtain ⟨i5, z5, hi, hz, hsz, hby, hzs⟩ := info5
  have HU : Aside0 (u.size ≤ 1000000) := ⟨by rw [← hu, size_ext _ _ _ (Nat.le_refl _)]; omega⟩
  obtain ⟨A, c0, rfl⟩ := own_slice R0.txt
  have HS := Aside0.mk (Rs.refl R0)
  obtain ⟨x0, x1, x2, x3, xf⟩ := R0.cell
  have p1 : (0 : Int) ≤ (n : Int) + 1 := by omega
  have p2 : (n : Int) + 1 ≤ (s.size : Int) := by omega
  have HM : Aside0 (bs.length + 1 ≤ maxLen) := ⟨by simp only [maxLen]; omega⟩
  have HM2 : Aside0 ((bs.length + 1) * 1 ≤ 140737488355328) := ⟨by omega⟩
  have HBS : Aside0 (base ≤ w.heap.size) := ⟨by have := (Array.getElem?_eq_some_iff.1 R0.blk).1; have := R0.hb; omega⟩
  have b1 : n + 1 ≤ 2000000 := by omega
  have hue : u.toList.isEmpty = true := by rw [toList_nil.2 hu0]; rfl
  obtain ⟨q, hq⟩ : ∃ q, q = n + 1 := ⟨_, rfl⟩
  have HE : Aside0 (q = n + 1 + 0) := ⟨by omega⟩
  have wr1 : wrap64 ((n : Int) + 1) = (q : Int) := by rw [hq]; exact wrA (K := 1) n 1 rfl b1
  have hux : s.extract q s.size = u := by rw [hq]; exact hu
  have p3 : (0 : Int) ≤ (q : Int) := by omega
  have p4 : (q : Int) ≤ (s.size : Int) := by omega
  clear R0 hn hs hlb b1 hu0 hq hu
  go_enter Tryz.func18, Tryz.ntmps18
  go_wp2
  go_quiet (fail)
  have HS2 := Aside0.mk (HS.out.drewN nq)
  have HB2 : Aside0 (base ≤ (w.drewN nq).heap.size) := HBS
  clear x0 x1 x2 x3 xf
  generalize w.drewN nq = w2 at HS2 HB2 ⊢
  obtain ⟨x0, x1, x2, x3, xf⟩ := HS2.out.R.cell
  go_wp2_with first | (rw [← hW3]; clear hW3) | (at_builtin; refine wpList_append_lies _ rfl (.tmp 21) (.tmp 22) 46 rfl base 5 i5 z5 1 1 Tryz.underlying46 hi hz hsz hby hzs (by decide) (.slice A bs.length c0) bs.length (byteCells bs) rfl (HS2.out.alloc (.cells #[.int .u8 92] 5)).R.txt ⟨w2.heap.size, 0, none⟩ 1 1 [.int .u8 92] rfl rfl (World.news_of_block (heap_alloc_new w2 _)) (by intro u hu; simp at hu; subst hu; rfl) (by decide) HM.out HM2.out (by have := HB2.out; show base ≤ (w2.heap.push _).size; simp; omega) _ rfl ?_; intro g cap w1 hown hgrow hat hlt; obtain ⟨z2, zf⟩ := blk_after (HS2.out.alloc (.cells #[.int .u8 92] 5)).R hgrow; have hT := byte_Rt (more := [92]) (.cells #[.int .u8 92] 5) HS2.out hown hgrow hat (by simp); obtain ⟨W3, hW3⟩ : ∃ W3, W3 = w1.setCell ⟨b, 2, none⟩ (.slice (some ⟨g, 0, none⟩) (bs.length + 1) cap) := ⟨_, rfl⟩; have HT := Aside0.mk hT; rw [show ([92] : List UInt8).length = 1 from rfl, ← hW3] at HT; obtain ⟨y0, y1, y2, y3, yf⟩ := HT.out.R.cell; clear hown hgrow hat hlt hT x0 x1 x2 x3 xf)
  refine bodyPost_ret (results_none rfl _ _ _) rfl ?_
  have hF := HT.out.set (.int .i64 q)
  exact ⟨rfl, _, by rw [← HE.out]; exact hF.R, hF.F⟩

set_option maxHeartbeats 1000000 in
theorem rescape_n (w : World) (base b : Nat) (s : ByteArray) (n : Nat) (tv lv : Value) (bs : List UInt8) (nds : List Nd) (vs : List Value) (R0 : RI w base b 48 s (.int .i64 n) tv bs lv nds vs) (hn : n + 1 ≤ s.size) (hs : s.size ≤ 1000000) (hlb : bs.length ≤ 100000) (u : ByteArray) (hu : s.extract (n + 1) s.size = u) (hu0 : u.size ≠ 0) (h1 : bt u 0 = 110) : Calls Tryz.prog 18 #[.pointer (some ⟨b, 0, none⟩)] w fun e w' => e = .returned (.tuple #[]) ∧ ∃ tv', RI w' base b 48 s (.int .i64 (n + 1 + 1 : Nat)) tv' (bs ++ [10]) lv nds vs ∧ Fr w w' b tv lv tv' lv := by
  obtain ⟨i5, z5, hi, hz, hsz, hby, hzs⟩ := info5
  have HU : Aside0 (u.size ≤ 1000000) := ⟨by rw [← hu, size_ext _ _ _ (Nat.le_refl _)]; omega⟩
  obtain ⟨A, c0, rfl⟩ := own_slice R0.txt
  have HS := Aside0.mk (Rs.refl R0)
  obtain ⟨x0, x1, x2, x3, xf⟩ := R0.cell
  have p1 : (0 : Int) ≤ (n : Int) + 1 := by omega
  have p2 : (n : Int) + 1 ≤ (s.size : Int) := by omega
  have HM : Aside0 (bs.length + 1 ≤ maxLen) := ⟨by simp only [maxLen]; omega⟩
  have HM2 : Aside0 ((bs.length + 1) * 1 ≤ 140737488355328) := ⟨by omega⟩
  have HBS : Aside0 (base ≤ w.heap.size) := ⟨by have := (Array.getElem?_eq_some_iff.1 R0.blk).1; have := R0.hb; omega⟩
  have b1 : n + 1 ≤ 2000000 := by omega
  have hz0 : u.size ≠ 0 := hu0
  have hue : u.toList.isEmpty = false := isEmpty_no hu0
  have p0 : 0 < u.size := by omega
  have q0 : (0 : Int) < (u.size : Int) := by omega
  have b0 := bt_at u 0 p0
  have c110 : (bt u 0 == 110) = true := by rw [h1]; rfl
  have c116 : (bt u 0 == 116) = false := by rw [h1]; rfl
  have b2 : n + 2 ≤ 2000000 := by omega
  obtain ⟨q, hq⟩ : ∃ q, q = n + 2 := ⟨_, rfl⟩
  have HE : Aside0 (q = n + 1 + 1) := ⟨by omega⟩
  have wr1 := wrA (K := 1) n 1 rfl b1
  have wr2 : wrap64 ((n : Int) + 2) = (q : Int) := by rw [hq]; exact wrA (K := 2) n 2 rfl b2
  clear R0 hn hs hlb b1 b2 hu0 hz0 hq h1
  go_enter Tryz.func18, Tryz.ntmps18
  go_wp2
  go_quiet (fail)
  have HS2 := Aside0.mk (HS.out.drewN nq)
  have HB2 : Aside0 (base ≤ (w.drewN nq).heap.size) := HBS
  clear x0 x1 x2 x3 xf
  generalize w.drewN nq = w2 at HS2 HB2 ⊢
  obtain ⟨x0, x1, x2, x3, xf⟩ := HS2.out.R.cell
  go_wp2_with first | (rw [← hW3]; clear hW3) | (at_builtin; refine wpList_append_lies _ rfl (.tmp 79) (.tmp 80) 46 rfl base 5 i5 z5 1 1 Tryz.underlying46 hi hz hsz hby hzs (by decide) (.slice A bs.length c0) bs.length (byteCells bs) rfl (HS2.out.alloc (.cells #[.int .u8 10] 5)).R.txt ⟨w2.heap.size, 0, none⟩ 1 1 [.int .u8 10] rfl rfl (World.news_of_block (heap_alloc_new w2 _)) (by intro u hu; simp at hu; subst hu; rfl) (by decide) HM.out HM2.out (by have := HB2.out; show base ≤ (w2.heap.push _).size; simp; omega) _ rfl ?_; intro g cap w1 hown hgrow hat hlt; obtain ⟨z2, zf⟩ := blk_after (HS2.out.alloc (.cells #[.int .u8 10] 5)).R hgrow; have hT := byte_Rt (more := [10]) (.cells #[.int .u8 10] 5) HS2.out hown hgrow hat (by simp); obtain ⟨W3, hW3⟩ : ∃ W3, W3 = w1.setCell ⟨b, 2, none⟩ (.slice (some ⟨g, 0, none⟩) (bs.length + 1) cap) := ⟨_, rfl⟩; have HT := Aside0.mk hT; rw [show ([10] : List UInt8).length = 1 from rfl, ← hW3] at HT; obtain ⟨y0, y1, y2, y3, yf⟩ := HT.out.R.cell; clear hown hgrow hat hlt hT x0 x1 x2 x3 xf)
  go_end0
  have hF := HT.out.set (.int .i64 q)
  exact ⟨rfl, _, by rw [← HE.out]; exact hF.R, hF.F⟩

set_option maxHeartbeats 1000000 in
theorem rescape_t (w : World) (base b : Nat) (s : ByteArray) (n : Nat) (tv lv : Value) (bs : List UInt8) (nds : List Nd) (vs : List Value) (R0 : RI w base b 48 s (.int .i64 n) tv bs lv nds vs) (hn : n + 1 ≤ s.size) (hs : s.size ≤ 1000000) (hlb : bs.length ≤ 100000) (u : ByteArray) (hu : s.extract (n + 1) s.size = u) (hu0 : u.size ≠ 0) (h1 : bt u 0 = 116) : Calls Tryz.prog 18 #[.pointer (some ⟨b, 0, none⟩)] w fun e w' => e = .returned (.tuple #[]) ∧ ∃ tv', RI w' base b 48 s (.int .i64 (n + 1 + 1 : Nat)) tv' (bs ++ [9]) lv nds vs ∧ Fr w w' b tv lv tv' lv := by
  obtain ⟨i5, z5, hi, hz, hsz, hby, hzs⟩ := info5
  have HU : Aside0 (u.size ≤ 1000000) := ⟨by rw [← hu, size_ext _ _ _ (Nat.le_refl _)]; omega⟩
  obtain ⟨A, c0, rfl⟩ := own_slice R0.txt
  have HS := Aside0.mk (Rs.refl R0)
  obtain ⟨x0, x1, x2, x3, xf⟩ := R0.cell
  have p1 : (0 : Int) ≤ (n : Int) + 1 := by omega
  have p2 : (n : Int) + 1 ≤ (s.size : Int) := by omega
  have HM : Aside0 (bs.length + 1 ≤ maxLen) := ⟨by simp only [maxLen]; omega⟩
  have HM2 : Aside0 ((bs.length + 1) * 1 ≤ 140737488355328) := ⟨by omega⟩
  have HBS : Aside0 (base ≤ w.heap.size) := ⟨by have := (Array.getElem?_eq_some_iff.1 R0.blk).1; have := R0.hb; omega⟩
  have b1 : n + 1 ≤ 2000000 := by omega
  have hz0 : u.size ≠ 0 := hu0
  have hue : u.toList.isEmpty = false := isEmpty_no hu0
  have p0 : 0 < u.size := by omega
  have q0 : (0 : Int) < (u.size : Int) := by omega
  have b0 := bt_at u 0 p0
  have c110 : (bt u 0 == 110) = false := by rw [h1]; rfl
  have c116 : (bt u 0 == 116) = true := by rw [h1]; rfl
  have b2 : n + 2 ≤ 2000000 := by omega
  obtain ⟨q, hq⟩ : ∃ q, q = n + 2 := ⟨_, rfl⟩
  have HE : Aside0 (q = n + 1 + 1) := ⟨by omega⟩
  have wr1 := wrA (K := 1) n 1 rfl b1
  have wr2 : wrap64 ((n : Int) + 2) = (q : Int) := by rw [hq]; exact wrA (K := 2) n 2 rfl b2
  clear R0 hn hs hlb b1 b2 hu0 hz0 hq h1
  go_enter Tryz.func18, Tryz.ntmps18
  go_wp2
  go_quiet (fail)
  have HS2 := Aside0.mk (HS.out.drewN nq)
  have HB2 : Aside0 (base ≤ (w.drewN nq).heap.size) := HBS
  clear x0 x1 x2 x3 xf
  generalize w.drewN nq = w2 at HS2 HB2 ⊢
  obtain ⟨x0, x1, x2, x3, xf⟩ := HS2.out.R.cell
  go_wp2_with first | (rw [← hW3]; clear hW3) | (at_builtin; refine wpList_append_lies _ rfl (.tmp 90) (.tmp 91) 46 rfl base 5 i5 z5 1 1 Tryz.underlying46 hi hz hsz hby hzs (by decide) (.slice A bs.length c0) bs.length (byteCells bs) rfl (HS2.out.alloc (.cells #[.int .u8 9] 5)).R.txt ⟨w2.heap.size, 0, none⟩ 1 1 [.int .u8 9] rfl rfl (World.news_of_block (heap_alloc_new w2 _)) (by intro u hu; simp at hu; subst hu; rfl) (by decide) HM.out HM2.out (by have := HB2.out; show base ≤ (w2.heap.push _).size; simp; omega) _ rfl ?_; intro g cap w1 hown hgrow hat hlt; obtain ⟨z2, zf⟩ := blk_after (HS2.out.alloc (.cells #[.int .u8 9] 5)).R hgrow; have hT := byte_Rt (more := [9]) (.cells #[.int .u8 9] 5) HS2.out hown hgrow hat (by simp); obtain ⟨W3, hW3⟩ : ∃ W3, W3 = w1.setCell ⟨b, 2, none⟩ (.slice (some ⟨g, 0, none⟩) (bs.length + 1) cap) := ⟨_, rfl⟩; have HT := Aside0.mk hT; rw [show ([9] : List UInt8).length = 1 from rfl, ← hW3] at HT; obtain ⟨y0, y1, y2, y3, yf⟩ := HT.out.R.cell; clear hown hgrow hat hlt hT x0 x1 x2 x3 xf)
  go_end0
  have hF := HT.out.set (.int .i64 q)
  exact ⟨rfl, _, by rw [← HE.out]; exact hF.R, hF.F⟩

set_option maxHeartbeats 1000000 in
theorem rescape_else (w : World) (base b : Nat) (s : ByteArray) (n : Nat) (tv lv : Value) (bs : List UInt8) (nds : List Nd) (vs : List Value) (R0 : RI w base b 48 s (.int .i64 n) tv bs lv nds vs) (hn : n + 1 ≤ s.size) (hs : s.size ≤ 1000000) (hlb : bs.length ≤ 100000) (u : ByteArray) (hu : s.extract (n + 1) s.size = u) (hu0 : u.size ≠ 0) (h1 : bt u 0 ≠ 110) (h2 : bt u 0 ≠ 116) (hk : hexK u = 0) : Calls Tryz.prog 18 #[.pointer (some ⟨b, 0, none⟩)] w fun e w' => e = .returned (.tuple #[]) ∧ ∃ tv', RI w' base b 48 s (.int .i64 (n + 1 + 1 : Nat)) tv' (bs ++ [u8 (bt u 0)]) lv nds vs ∧ Fr w w' b tv lv tv' lv := by
  obtain ⟨i5, z5, hi, hz, hsz, hby, hzs⟩ := info5
  have HU : Aside0 (u.size ≤ 1000000) := ⟨by rw [← hu, size_ext _ _ _ (Nat.le_refl _)]; omega⟩
  obtain ⟨A, c0, rfl⟩ := own_slice R0.txt
  have HS := Aside0.mk (Rs.refl R0)
  obtain ⟨x0, x1, x2, x3, xf⟩ := R0.cell
  have p1 : (0 : Int) ≤ (n : Int) + 1 := by omega
  have p2 : (n : Int) + 1 ≤ (s.size : Int) := by omega
  have HM : Aside0 (bs.length + 1 ≤ maxLen) := ⟨by simp only [maxLen]; omega⟩
  have HM2 : Aside0 ((bs.length + 1) * 1 ≤ 140737488355328) := ⟨by omega⟩
  have HBS : Aside0 (base ≤ w.heap.size) := ⟨by have := (Array.getElem?_eq_some_iff.1 R0.blk).1; have := R0.hb; omega⟩
  have b1 : n + 1 ≤ 2000000 := by omega
  have hz0 : u.size ≠ 0 := hu0
  have hue : u.toList.isEmpty = false := isEmpty_no hu0
  have p0 : 0 < u.size := by omega
  have q0 : (0 : Int) < (u.size : Int) := by omega
  have b0 := bt_at u 0 p0
  have c110 : (bt u 0 == 110) = false := by simpa using h1
  have c116 : (bt u 0 == 116) = false := by simpa using h2
  obtain ⟨c, hc⟩ : ∃ c, hexC u = c := ⟨_, rfl⟩
  have HK : Aside0 ((Value.tuple #[.int .i64 (hexC u), .int .i64 (hexK u : Nat)]) = .tuple #[.int .i64 c, .int .i64 0]) := ⟨by rw [hk, hc]; rfl⟩
  have HX8 := Aside0.mk (u8_back u 0)
  have b2 : n + 2 ≤ 2000000 := by omega
  obtain ⟨q, hq⟩ : ∃ q, q = n + 2 := ⟨_, rfl⟩
  have HE : Aside0 (q = n + 1 + 1) := ⟨by omega⟩
  have wr1 := wrA (K := 1) n 1 rfl b1
  have wr2 : wrap64 ((n : Int) + 2) = (q : Int) := by rw [hq]; exact wrA (K := 2) n 2 rfl b2
  clear R0 hn hs hlb b1 b2 hu0 hz0 hq h1 h2 hk hc
  go_enter Tryz.func18, Tryz.ntmps18
  go_wp2
  go_quiet (fail)
  have HS2 := Aside0.mk (HS.out.drewN nq)
  have HB2 : Aside0 (base ≤ (w.drewN nq).heap.size) := HBS
  clear x0 x1 x2 x3 xf
  generalize w.drewN nq = w2 at HS2 HB2 ⊢
  obtain ⟨x0, x1, x2, x3, xf⟩ := HS2.out.R.cell
  go_wp2_with first | (go_at_call 47; refine (rhex_any _ _ HU.out).mono ?_; rintro e w3 ⟨rfl, hw⟩; rw [hw, HK.out])
  have HZ := Aside0.mk ((HS2.out.alloc (.cells #[.int .u8 (bt u 0)] 5)).drew)
  obtain ⟨y0, y1, y2, y3, yf⟩ := HZ.out.R.cell
  obtain ⟨j0, j1, j2, j3, jf⟩ := (HS2.out.drew).R.cell
  go_region_law (refine step_append_lies _ rfl (.tmp 66) (.tmp 69) 46 rfl base 5 i5 z5 1 1 Tryz.underlying46 hi hz hsz hby hzs (by decide) (.slice A bs.length c0) bs.length (byteCells bs) (by simp [Act.eval, Act.put]) HZ.out.R.txt ⟨w2.heap.size, 0, none⟩ 1 1 [.int .u8 (bt u 0)] (by simp [Act.eval, Act.put]) rfl (World.news_of_block (heap_alloc_new w2 _)) (by intro u2 hu2; simp at hu2; subst hu2; rfl) (by decide) HM.out HM2.out (by have := HB2.out; show base ≤ (w2.heap.push _).size; simp; omega) _ rfl ?_; intro g cap w1 hown hgrow hat hlt; obtain ⟨z2, zf⟩ := blk_after HZ.out.R hgrow)
  all_goals
    have hgrow2 : (w2.alloc (.cells #[.int .u8 (bt u 0)] 5)).grownBy w1 (Value.slice A bs.length c0).ownBlock := ⟨hgrow.os, hgrow.tape, hgrow.output, hgrow.size, hgrow.block⟩
    have hcells : byteCells [u8 (bt u 0)] = [.int .u8 (bt u 0)] := by unfold byteCells; rw [List.map_singleton, HX8.out]
    rw [← hcells] at hown
    have hT := byte_Rt (more := [u8 (bt u 0)]) (.cells #[.int .u8 (bt u 0)] 5) HS2.out hown hgrow2 hat (by simp)
    obtain ⟨W3, hW3⟩ : ∃ W3, W3 = w1.setCell ⟨b, 2, none⟩ (.slice (some ⟨g, 0, none⟩) (bs.length + 1) cap) := ⟨_, rfl⟩
    have HT := Aside0.mk hT
    rw [show ([u8 (bt u 0)] : List UInt8).length = 1 from rfl, ← hW3] at HT
    clear hown hgrow hgrow2 hat hlt hT hcells x0 x1 x2 x3 xf y0 y1 y2 y3 yf j0 j1 j2 j3 jf z2 zf
    rw [← hW3]
    clear hW3
    obtain ⟨y0, y1, y2, y3, yf⟩ := HT.out.R.cell
    go_wp2
    go_end0
    have hF := HT.out.set (.int .i64 q)
    exact ⟨rfl, _, by rw [← HE.out]; exact hF.R, hF.F⟩

set_option maxHeartbeats 1000000 in
theorem rescape_hex (w : World) (base b : Nat) (s : ByteArray) (n : Nat) (tv lv : Value) (bs : List UInt8) (nds : List Nd) (vs : List Value) (R0 : RI w base b 48 s (.int .i64 n) tv bs lv nds vs) (hn : n + 1 ≤ s.size) (hs : s.size ≤ 1000000) (hlb : bs.length ≤ 100000) (u : ByteArray) (hu : s.extract (n + 1) s.size = u) (k : Nat) (c : Int) (hk : hexK u = k) (hc : hexC u = c) (hk0 : k ≠ 0) : Calls Tryz.prog 18 #[.pointer (some ⟨b, 0, none⟩)] w fun e w' => e = .returned (.tuple #[]) ∧ ∃ tv', RI w' base b 48 s (.int .i64 (n + 1 + k : Nat)) tv' (bs ++ (Lib.encodeRune c)) lv nds vs ∧ Fr w w' b tv lv tv' lv := by
  obtain ⟨i5, z5, hi, hz, hsz, hby, hzs⟩ := info5
  have HU : Aside0 (u.size ≤ 1000000) := ⟨by rw [← hu, size_ext _ _ _ (Nat.le_refl _)]; omega⟩
  obtain ⟨A, c0, rfl⟩ := own_slice R0.txt
  have HS := Aside0.mk (Rs.refl R0)
  obtain ⟨x0, x1, x2, x3, xf⟩ := R0.cell
  have p1 : (0 : Int) ≤ (n : Int) + 1 := by omega
  have p2 : (n : Int) + 1 ≤ (s.size : Int) := by omega
  have HM : Aside0 (bs.length + 1 ≤ maxLen) := ⟨by simp only [maxLen]; omega⟩
  have HM2 : Aside0 ((bs.length + 1) * 1 ≤ 140737488355328) := ⟨by omega⟩
  have HBS : Aside0 (base ≤ w.heap.size) := ⟨by have := (Array.getElem?_eq_some_iff.1 R0.blk).1; have := R0.hb; omega⟩
  have b1 : n + 1 ≤ 2000000 := by omega
  have hok : HexOk u := by unfold hexK at hk; split at hk; assumption; exact absurd hk.symm hk0
  have hch : isCh c = true := by rw [← hc]; unfold hexC; rw [if_pos hok]; exact hok.2.2.2.2
  have hu0 : u.size ≠ 0 := by have := bt_pos hok.1 (by decide); omega
  have hz0 : u.size ≠ 0 := hu0
  have hue : u.toList.isEmpty = false := isEmpty_no hu0
  have p0 : 0 < u.size := by omega
  have q0 : (0 : Int) < (u.size : Int) := by omega
  have b0 := bt_at u 0 p0
  have c110 : (bt u 0 == 110) = false := by rw [hok.1]; rfl
  have c116 : (bt u 0 == 116) = false := by rw [hok.1]; rfl
  have hk9 := hexK_le9 u
  rw [hk] at hk9
  have HK : Aside0 ((Value.tuple #[.int .i64 (hexC u), .int .i64 (hexK u : Nat)]) = .tuple #[.int .i64 c, .int .i64 k]) := ⟨by rw [hk, hc]⟩
  have e1 : decide ((k : Int) > 0) = true := decide_eq_true (by omega)
  have e2 : decide (0 < k) = true := decide_eq_true (by omega)
  have HC := Aside0.mk hch
  have hl := rune_len c
  obtain ⟨S, hS⟩ : ∃ S : ByteArray, S = ⟨(Lib.encodeRune c).toArray⟩ := ⟨_, rfl⟩
  have hsz : S.size = (Lib.encodeRune c).length := by rw [hS]; exact rune_size c
  have HS0 : Aside0 (0 < S.size) := ⟨by omega⟩
  have HS1 : Aside0 (S.size ≤ 1000000) := ⟨by omega⟩
  have HSE := Aside0.mk hS
  have HSZ := Aside0.mk hsz
  have HLB : Aside0 (bs.length ≤ 200000) := ⟨by omega⟩
  obtain ⟨q, hq⟩ : ∃ q, q = n + 1 + k := ⟨_, rfl⟩
  have HE := Aside0.mk hq
  have b2 : q ≤ 2000000 := by omega
  have wr1 := wrA (K := 1) n 1 rfl b1
  obtain ⟨wr2, wr3⟩ := wr_q n k q hq b2
  clear R0 hn hs hlb b1 b2 hu0 hz0 hq hk hc hk0 hok hch hk9 hl hsz hS
  go_enter Tryz.func18, Tryz.ntmps18
  go_wp2
  go_quiet (fail)
  have HS2 := Aside0.mk (HS.out.drewN nq)
  have HB2 : Aside0 (base ≤ (w.drewN nq).heap.size) := HBS
  clear x0 x1 x2 x3 xf
  generalize w.drewN nq = w2 at HS2 HB2 ⊢
  obtain ⟨x0, x1, x2, x3, xf⟩ := HS2.out.R.cell
  go_wp2_with first | (go_at_call 47; refine (rhex_any _ _ HU.out).mono ?_; rintro e w3 ⟨rfl, hw⟩; rw [hw, HK.out])
  have HZ := Aside0.mk ((HS2.out.alloc (.cells #[.int .i64 c] 3)).drew)
  have HCELL : Aside0 (((w2.alloc (.cells #[.int .i64 c] 3)).drew).cell? ⟨w2.heap.size, 0, none⟩ = some (.int .i64 c)) := ⟨by rw [cell_of_row (w2.alloc (.cells #[.int .i64 c] 3)).drew w2.heap.size 0 _ _ _ (heap_alloc_new w2 _)]; rfl⟩
  obtain ⟨y0, y1, y2, y3, yf⟩ := HZ.out.R.cell
  obtain ⟨j0, j1, j2, j3, jf⟩ := (HS2.out.drew).R.cell
  go_region_law (first | (refine step_append_str rfl (.tmp 46) (.tmp 49) rfl base (.slice A bs.length c0) bs.length (byteCells bs) (by simp [Act.eval, Act.put]) HS5.out.R.txt S (by simp [Act.eval, Act.put]) HS0.out HS1.out HLB.out HB5.out ?_; intro g cap w1 hown hgrow hat; obtain ⟨z2, zf⟩ := blk_after HS5.out.R hgrow) | (go_simp; go_at_call 48; refine (write_any c w2.heap.size _ HC.out HCELL.out).mono ?_; rintro e w5 ⟨rfl, hB5⟩; rw [← HSE.out]; have HS5 := Aside0.mk (HZ.out.below hB5); have HB5 : Aside0 (base ≤ w5.heap.size) := ⟨by have := (Array.getElem?_eq_some_iff.1 HS5.out.R.blk).1; have := HS5.out.R.hb; omega⟩; obtain ⟨k0, k1, k2, k3, kf⟩ := HS5.out.R.cell; clear hB5))
  all_goals
    have hown2 := hown
    rw [HSE.out, rune_str, rune_size] at hown2
    have hT := str_Rt HS5.out hown2 hgrow hat (by intro h; have := rune_len c; rw [h] at this; simp at this)
    rw [← HSZ.out] at hT
    obtain ⟨W3, hW3⟩ : ∃ W3, W3 = w1.setCell ⟨b, 2, none⟩ (.slice (some ⟨g, 0, none⟩) (bs.length + S.size) cap) := ⟨_, rfl⟩
    rw [← hW3] at hT
    have HT := Aside0.mk hT
    clear hown hown2 hgrow hat hT x0 x1 x2 x3 xf y0 y1 y2 y3 yf j0 j1 j2 j3 jf z2 zf k0 k1 k2 k3 kf
    rw [← hW3]
    clear hW3
    obtain ⟨y0, y1, y2, y3, yf⟩ := HT.out.R.cell
    go_wp2
    refine bodyPost_ret (results_none rfl _ _ _) rfl ?_
    have hF := HT.out.set (.int .i64 q)
    exact ⟨rfl, _, by rw [← HE.out]; exact hF.R, hF.F⟩

theorem rescape_any (w : World) (base b : Nat) (s : ByteArray) (n : Nat) (tv lv : Value) (bs : List UInt8) (nds : List Nd) (vs : List Value) (R0 : RI w base b 48 s (.int .i64 n) tv bs lv nds vs) (hn : n + 1 ≤ s.size) (hs : s.size ≤ 1000000) (hlb : bs.length ≤ 100000) (u : ByteArray) (hu : s.extract (n + 1) s.size = u) : Calls Tryz.prog 18 #[.pointer (some ⟨b, 0, none⟩)] w fun e w' => e = .returned (.tuple #[]) ∧ ∃ tv', RI w' base b 48 s (.int .i64 (n + 1 + (escOf u).1 : Nat)) tv' (bs ++ (escOf u).2) lv nds vs ∧ Fr w w' b tv lv tv' lv := by
  by_cases hk : hexK u = 0
  · by_cases h0 : u.size = 0
    · rw [esc_nil h0]; exact rescape_nil w base b s n tv lv bs nds vs R0 hn hs hlb u hu h0
    · by_cases h1 : bt u 0 = 110
      · rw [esc_n h0 h1]; exact rescape_n w base b s n tv lv bs nds vs R0 hn hs hlb u hu h0 h1
      · by_cases h2 : bt u 0 = 116
        · rw [esc_t h0 h2]; exact rescape_t w base b s n tv lv bs nds vs R0 hn hs hlb u hu h0 h2
        · rw [esc_else h0 h1 h2 hk]; exact rescape_else w base b s n tv lv bs nds vs R0 hn hs hlb u hu h0 h1 h2 hk
  · rw [(esc_hex hk).1]; exact rescape_hex w base b s n tv lv bs nds vs R0 hn hs hlb u hu (hexK u) (hexC u) rfl rfl hk
end Go.Proofs.YtmifmmpbmcfmpaaGreatDoor.IW
