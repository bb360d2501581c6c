/-
  The reference's reader: put.
-/
import Derived.Test.YtmifmmpbmcfmpaaGreatDoorIb
set_option linter.unusedVariables false
set_option linter.unusedSimpArgs false
namespace Go.Proofs.YtmifmmpbmcfmpaaGreatDoor.IW
open Go Go.RowKit Go.Proofs.YtmifmmpbmcfmpaaGreatDoor.MkW
set_option maxRecDepth 100000

theorem Sub.form {w : World} {base : Nat} {v : Value} {l : List Lf} (h : Sub w base v l) : ∃ A n c, v = .slice A n c := by
  rcases h with ⟨_, rfl⟩ | ⟨g, _, rfl, _⟩
  · exact ⟨none, 0, 0, rfl⟩
  · exact ⟨_, _, _, rfl⟩

theorem Sub.congr {w w' : World} {base : Nat} {v : Value} {l : List Lf} (h : Sub w base v l) (hh : ∀ k o, v.ownBlock = some k → w.heap[k]? = some o → w'.heap[k]? = some o) : Sub w' base v l := by
  rcases h with h | ⟨g, h1, rfl, h2, h3⟩
  · exact .inl h
  · exact .inr ⟨g, h1, rfl, h2, hh g _ rfl h3⟩

set_option maxHeartbeats 1000000 in
theorem put_any (w : World) (base b : Nat) (s : ByteArray) (v1 tv lv : Value) (bs : List UInt8) (nds : List Nd) (vs : List Value) (R0 : RI w base b 48 s v1 tv bs lv nds vs) (hlen : nds.length ≤ 90000)
    (x : Nd) (v4 : Value) (hsub : Sub w base v4 x.l) (hv4 : ∀ k, v4.ownBlock = some k → k ≠ b ∧ tv.ownBlock ≠ some k ∧ lv.ownBlock ≠ some k) :
    Calls Tryz.prog 52 #[.pointer (some ⟨b, 0, none⟩), .agg #[.int .i64 x.op, .string x.s, .string ⟨#[]⟩, .int .i64 x.n, v4]] w fun e w' => e = .returned (.tuple #[]) ∧ ∃ lv' vs', RI w' base b 48 s v1 (.slice none 0 0) [] lv' (fl bs nds ++ [x]) vs' ∧ Fr w w' b tv lv (.slice none 0 0) lv' := by
  have hL2 : (fl bs nds).length ≤ 100000 := by
    unfold fl
    split
    · omega
    · rw [List.length_append, List.length_singleton]; omega
  have hbs0 : b < w.heap.size := (Array.getElem?_eq_some_iff.1 R0.blk).1
  have htl : ∀ k, tv.ownBlock = some k → k < w.heap.size := fun k hk => (R0.txt.lt k hk).2
  have hll : ∀ k, lv.ownBlock = some k → k < w.heap.size := fun k hk => (R0.out.lt k hk).2
  have hs4 : ∀ k, v4.ownBlock = some k → k < w.heap.size := fun k hk => by
    rcases hsub with ⟨_, rfl⟩ | ⟨g, _, rfl, _, h3⟩
    · cases hk
    · cases hk; exact (Array.getElem?_eq_some_iff.1 h3).1
  have R1 := R0.alloc (.cells #[.int .i64 x.op, .string x.s, .string ⟨#[]⟩, .int .i64 x.n, v4] 25)
  obtain ⟨A4, n4, c4, e4⟩ := hsub.form
  subst e4
  obtain ⟨i25, z25, hi, hz, hsz, hby, hzs⟩ := info25
  have HR1 := Aside0.mk R1
  have HS := Aside0.mk hsub
  have HV := Aside0.mk hv4
  have HT := Aside0.mk htl
  have HLL := Aside0.mk hll
  have H4 := Aside0.mk hs4
  have HB0 := Aside0.mk hbs0
  generalize hns : fl bs nds = ns at hL2 ⊢
  have HNS := Aside0.mk hns
  have HL := Aside0.mk hL2
  have HL0 := Aside0.mk hlen
  clear R0 R1 hlen hsub hv4 htl hll hs4 hbs0 hns hL2
  go_enter Tryz.func52, Tryz.ntmps52
  go_wp2_with (go_at_call 21; refine (flush_any _ base b s v1 tv lv bs nds vs HR1.out (by have := HL0.out; omega)).mono ?_; rintro e w2 ⟨rfl, lv', us, hR, hF⟩; obtain ⟨A, c, rfl⟩ := own_slice hR.out; rw [HNS.out] at hR hF; have HF := Aside0.mk hF; have HW := Aside0.mk hR; have HZ := Aside0.mk (hR.alloc (.cells zeroNd 25)).drew; obtain ⟨x0, x1, x2, x3, xf⟩ := hR.cell; obtain ⟨y0, y1, y2, y3, yf⟩ := (hR.alloc (.cells zeroNd 25)).cell; clear hR hF)
  have hsz0 : (w.alloc (.cells #[.int .i64 x.op, .string x.s, .string ⟨#[]⟩, .int .i64 x.n, .slice A4 n4 c4] 25)).heap.size = w.heap.size + 1 := by show (w.heap.push _).size = _; simp
  have hbox : w2.heap[w.heap.size]? = some (.cells #[.int .i64 x.op, .string x.s, .string ⟨#[]⟩, .int .i64 x.n, .slice A4 n4 c4] 25 (0, 0)) := by
    rw [HF.out.block w.heap.size (by omega) (by have := HB0.out; omega) (fun e => by have := HT.out _ e; omega) (fun e => by have := HLL.out _ e; omega)]
    exact heap_alloc_new w _
  obtain ⟨b0, b1, b2, b3, b4⟩ : w2.cell? ⟨w.heap.size, 0, none⟩ = some (.int .i64 x.op) ∧ w2.cell? ⟨w.heap.size, 1, none⟩ = some (.string x.s) ∧ w2.cell? ⟨w.heap.size, 2, none⟩ = some (.string ⟨#[]⟩) ∧ w2.cell? ⟨w.heap.size, 3, none⟩ = some (.int .i64 x.n) ∧ w2.cell? ⟨w.heap.size, 4, none⟩ = some (.slice A4 n4 c4) := by
    refine ⟨?_, ?_, ?_, ?_, ?_⟩ <;> (rw [cell_of_row w2 _ _ _ _ _ hbox]; rfl)
  have hbox2 : (w2.alloc (.cells zeroNd 25)).heap[w.heap.size]? = some (.cells #[.int .i64 x.op, .string x.s, .string ⟨#[]⟩, .int .i64 x.n, .slice A4 n4 c4] 25 (0, 0)) := by
    show (w2.heap.push _)[w.heap.size]? = _
    rw [Array.getElem?_push, if_neg (by have := (Array.getElem?_eq_some_iff.1 hbox).1; omega)]
    exact hbox
  obtain ⟨a0, a1, a2, a3, a4⟩ : (w2.alloc (.cells zeroNd 25)).cell? ⟨w.heap.size, 0, none⟩ = some (.int .i64 x.op) ∧ (w2.alloc (.cells zeroNd 25)).cell? ⟨w.heap.size, 1, none⟩ = some (.string x.s) ∧ (w2.alloc (.cells zeroNd 25)).cell? ⟨w.heap.size, 2, none⟩ = some (.string ⟨#[]⟩) ∧ (w2.alloc (.cells zeroNd 25)).cell? ⟨w.heap.size, 3, none⟩ = some (.int .i64 x.n) ∧ (w2.alloc (.cells zeroNd 25)).cell? ⟨w.heap.size, 4, none⟩ = some (.slice A4 n4 c4) := by
    refine ⟨?_, ?_, ?_, ?_, ?_⟩ <;> (rw [cell_of_row _ _ _ _ _ _ hbox2]; rfl)
  clear hbox hbox2
  refine wp_region_make (w2 := (w2.alloc (.cells zeroNd 25)).drew) 7 6 (by kernel_rfl) (by kernel_rfl) (by decide) ?_
  simp only [List.take_succ_cons, List.take_zero]
  change wpMl _ _ (fam1 w2.drew _ _) _ _ _ _
  iterate 6
    apply wpMl_two (by decide)
    · intro K hK
      go_simp
      exact ⟨rfl, hK⟩
    · intro K hK
      go_simp
      exact ⟨rfl, hK⟩
  apply wpMl_make
  · intro K hK
    go_simp
    exact ⟨rfl, hK⟩
  refine wpMl_nil ?_
  refine wpAny_one rfl (by kernel_rfl) (by kernel_rfl) (fun K hK => ⟨rfl, ?_⟩)
  refine wp_append_lies _ (.tmp 9) (.tmp 12) 23 rfl base 25 i25 z25 5 72 Tryz.underlying23 hi hz hsz hby hzs (by decide) (.slice A ns.length c) ns.length (ndCells ns us) (by simp [Act.eval, Act.put]) HZ.out.out ⟨w2.heap.size, 0, none⟩ 1 1 zeroNd.toList (by simp [Act.eval, Act.put]) rfl ?nw ?one (by decide) ?l1 ?l2 ?l3 _ rfl ?_
  case nw => exact World.news_of_block (heap_alloc_new w2 _)
  case one => intro u hu; simp [zeroNd] at hu; rcases hu with rfl | rfl | rfl | rfl <;> rfl
  case l1 => have := HL.out; have hm : (200000 : Nat) ≤ maxLen := by decide
             omega
  case l2 => have := HL.out; omega
  case l3 => have := (Array.getElem?_eq_some_iff.1 HW.out.blk).1; have := HW.out.hb; show base ≤ (w2.heap.push _).size; simp; omega
  intro g1 cap1 w1 hown hgrow hat hlt
  refine hK _ _ ?_
  clear hK
  have hbs : b < w2.heap.size := (Array.getElem?_eq_some_iff.1 HW.out.blk).1
  have hb1 : g1 ≠ b := by
    rcases hat with h | h
    · exact HW.out.lb _ h
    · have : g1 = w2.heap.size + 1 := by rw [h]; show (w2.heap.push _).size = _; simp
      omega
  have hx1 : ((ns.length : Int) < (ns.length : Int) + 1) = True := eq_true (by omega)
  have hblk : w1.heap[b]? = some (.cells #[.string s, v1, .slice none 0 0, .slice A ns.length c] 48 (0, 0)) := by
    rw [hgrow.block b (by show b < (w2.heap.push _).size; simp; omega) (fun e => HW.out.lb b e.symm rfl)]
    exact HZ.out.blk
  obtain ⟨cur, hcur, hcs, htk⟩ : ∃ cur, w1.heap[g1]? = some (.cells cur 25 (0, 0)) ∧ ns.length * 5 + 5 ≤ cur.size ∧ cur.toList.take ((ndCells ns us).length + 5) = ndCells ns us ++ zeroNd.toList := by
    obtain ⟨_, h2⟩ := hown
    rcases h2 with ⟨h2, _⟩ | ⟨g', cap', cur, e1, e2, e3, e4, e5, e6, e7⟩
    · cases h2
    · cases e1
      have hl := ndCells_length ns us HW.out.len
      refine ⟨cur, e3, by omega, ?_⟩
      rw [← e7, hl]; congr 1; omega
  have hcell : ∀ j, j < 5 → ∀ u, zeroNd.toList[j]? = some u → cur[ns.length * 5 + j]? = some u := fun j hj u hu => by
    have hl := ndCells_length ns us HW.out.len
    have h1 : (cur.toList.take ((ndCells ns us).length + 5))[ns.length * 5 + j]? = some u := by
      rw [htk, List.getElem?_append_right (by omega), hl, Nat.add_sub_cancel_left]; exact hu
    rw [List.getElem?_take, if_pos (by omega)] at h1
    simpa using h1
  obtain ⟨⟨q0, q1, q2, q3, q4⟩, fq⟩ : (w1.cell? ⟨g1, ns.length * 5, none⟩ = some (.int .i64 0) ∧ w1.cell? ⟨g1, ns.length * 5 + 1, none⟩ = some (.string ⟨#[]⟩) ∧ w1.cell? ⟨g1, ns.length * 5 + 2, none⟩ = some (.string ⟨#[]⟩) ∧ w1.cell? ⟨g1, ns.length * 5 + 3, none⟩ = some (.int .i64 0) ∧ w1.cell? ⟨g1, ns.length * 5 + 4, none⟩ = some (.slice none 0 0)) ∧ ∀ o, w1.frozen? ⟨g1, o, none⟩ = false := by
    refine ⟨⟨?_, ?_, ?_, ?_, ?_⟩, fun o => by simp only [World.frozen?, hcur]; simp⟩
    · rw [cell_of_row w1 g1 _ _ _ _ hcur]; exact hcell 0 (by decide) _ rfl
    · rw [cell_of_row w1 g1 _ _ _ _ hcur]; exact hcell 1 (by decide) _ rfl
    · rw [cell_of_row w1 g1 _ _ _ _ hcur]; exact hcell 2 (by decide) _ rfl
    · rw [cell_of_row w1 g1 _ _ _ _ hcur]; exact hcell 3 (by decide) _ rfl
    · rw [cell_of_row w1 g1 _ _ _ _ hcur]; exact hcell 4 (by decide) _ rfl
  have hc3 : w1.cell? ⟨b, 3, none⟩ = some (.slice A ns.length c) := by rw [cell_of_row w1 b _ _ _ _ hblk]; rfl
  have hf3 : w1.frozen? ⟨b, 3, none⟩ = false := by simp only [World.frozen?, hblk]; simp
  obtain ⟨⟨r0, r1, r2, r3, r4⟩, fr⟩ : ((w1.setCell ⟨b, 3, none⟩ (.slice (some ⟨g1, 0, none⟩) (ns.length + 1) cap1)).cell? ⟨g1, ns.length * 5, none⟩ = some (.int .i64 0) ∧ (w1.setCell ⟨b, 3, none⟩ (.slice (some ⟨g1, 0, none⟩) (ns.length + 1) cap1)).cell? ⟨g1, ns.length * 5 + 1, none⟩ = some (.string ⟨#[]⟩) ∧ (w1.setCell ⟨b, 3, none⟩ (.slice (some ⟨g1, 0, none⟩) (ns.length + 1) cap1)).cell? ⟨g1, ns.length * 5 + 2, none⟩ = some (.string ⟨#[]⟩) ∧ (w1.setCell ⟨b, 3, none⟩ (.slice (some ⟨g1, 0, none⟩) (ns.length + 1) cap1)).cell? ⟨g1, ns.length * 5 + 3, none⟩ = some (.int .i64 0) ∧ (w1.setCell ⟨b, 3, none⟩ (.slice (some ⟨g1, 0, none⟩) (ns.length + 1) cap1)).cell? ⟨g1, ns.length * 5 + 4, none⟩ = some (.slice none 0 0)) ∧ ∀ o, (w1.setCell ⟨b, 3, none⟩ (.slice (some ⟨g1, 0, none⟩) (ns.length + 1) cap1)).frozen? ⟨g1, o, none⟩ = false := by
    have e : ∀ o, (w1.setCell ⟨b, 3, none⟩ (.slice (some ⟨g1, 0, none⟩) (ns.length + 1) cap1)).cell? ⟨g1, o, none⟩ = w1.cell? ⟨g1, o, none⟩ := fun o => World.cell?_of_block (heap_other hb1)
    refine ⟨⟨?_, ?_, ?_, ?_, ?_⟩, fun o => ?_⟩
    · rw [e]; exact q0
    · rw [e]; exact q1
    · rw [e]; exact q2
    · rw [e]; exact q3
    · rw [e]; exact q4
    · rw [World.frozen?_of_block (w := w1) (heap_other hb1)]; exact fq o
  apply wpAny_pair (k := 8) (p := 9) (q := 12) (w01 := w1.setCell ⟨b, 3, none⟩ (.slice (some ⟨g1, 0, none⟩) (ns.length + 1) cap1)) (by kernel_rfl)
  simp only [List.drop_succ_cons, List.drop_zero]
  apply wpMl_four (by decide) (by decide)
  · intro wq K hK
    go_simp
    exact ⟨rfl, hK⟩
  apply wpMl_first
  · intro K hK
    go_simp
    exact ⟨rfl, hK⟩
  · intro K hK
    go_simp
    exact ⟨rfl, hK⟩
  iterate 2
    apply wpMl_four (by decide) (by decide)
    · intro wq K hK
      go_simp
      exact ⟨rfl, hK⟩
  have hstb : (storeNd w1 g1 (ns.length * 5) 0 x.op x.s x.n (.slice A4 n4 c4)).heap[b]? = some (.cells #[.string s, v1, .slice none 0 0, .slice A ns.length c] 48 (0, 0)) := by rw [storeNd_other (Ne.symm hb1)]; exact hblk
  have k3 : (storeNd w1 g1 (ns.length * 5) 0 x.op x.s x.n (.slice A4 n4 c4)).cell? ⟨b, 3, none⟩ = some (.slice A ns.length c) := by rw [cell_of_row _ b _ _ _ _ hstb]; rfl
  have kf3 : (storeNd w1 g1 (ns.length * 5) 0 x.op x.s x.n (.slice A4 n4 c4)).frozen? ⟨b, 3, none⟩ = false := by simp only [World.frozen?, hstb]; simp
  have hcm := storeNd_comm (w := w1) (g := g1) (o := ns.length * 5) (op := 0) (x := x.op) (t := x.s) (n := x.n) (v4 := .slice A4 n4 c4) (c := ⟨b, 3, none⟩) (v := .slice (some ⟨g1, 0, none⟩) (ns.length + 1) cap1) hb1
  unfold storeNd at k3 kf3 hcm
  apply wpMl_second (by decide)
  · intro K hK
    go_simp
    exact ⟨rfl, hK⟩
  · intro K hK
    go_simp
    exact ⟨rfl, hK⟩
  refine wpMl_nil ?_
  clear k3 kf3 hcm hstb r0 r1 r2 r3 r4 fr hc3 hf3 q0 q1 q2 q3 q4 fq x0 x1 x2 x3 xf y0 y1 y2 y3 yf a0 a1 a2 a3 a4 b0 b1 b2 b3 b4
  have hst3 : (w1.setCell ⟨b, 3, none⟩ (.slice (some ⟨g1, 0, none⟩) (ns.length + 1) cap1)).heap[b]? = some (.cells #[.string s, v1, .slice none 0 0, .slice (some ⟨g1, 0, none⟩) (ns.length + 1) cap1] 48 (0, 0)) := heap_here hblk
  have hst4 : (w1.setCell ⟨b, 3, none⟩ (.slice (some ⟨g1, 0, none⟩) (ns.length + 1) cap1)).heap[g1]? = some (.cells cur 25 (0, 0)) := by rw [heap_other (by exact hb1)]; exact hcur
  generalize hwf : storeNd (w1.setCell ⟨b, 3, none⟩ (.slice (some ⟨g1, 0, none⟩) (ns.length + 1) cap1)) g1 (ns.length * 5) 0 x.op x.s x.n (.slice A4 n4 c4) = wf
  have hwf2 := hwf
  unfold storeNd at hwf2
  rw [hwf2]
  clear hwf2
  have e2 : wf.heap[b]? = some (.cells #[.string s, v1, .slice none 0 0, .slice (some ⟨g1, 0, none⟩) (ns.length + 1) cap1] 48 (0, 0)) := by
    rw [← hwf, storeNd_other (Ne.symm hb1)]; exact hst3
  have e4 : ∀ k, k ≠ b → k ≠ g1 → wf.heap[k]? = w1.heap[k]? := fun k h1 h2 => by
    rw [← hwf, storeNd_other h2, heap_other (by exact h1)]
  have e5 : Rest w1 wf := by rw [← hwf]; exact (setCell_rest _ _ _).trans (storeNd_rest _ _ _ _ _ _ _ _)
  have e6 := storeNd_here (op := 0) (o := ns.length * 5) (x := x.op) (t := x.s) (n := x.n) (v4 := .slice A4 n4 c4) hst4
  rw [hwf] at e6
  have HE := Aside0.mk (And.intro e2 (And.intro e4 (And.intro e5 e6)))
  clear hwf e2 e4 e5 e6 hst3 hst4
  go_wp2
  go_end0
  obtain ⟨e2, e4, e5, e6⟩ := HE.out
  have hszz : (w2.alloc (.cells zeroNd 25)).drew.heap.size = w2.heap.size + 1 := by show (w2.heap.push _).size = _; simp
  have hlv : ∀ k, (Value.slice A4 n4 c4).ownBlock = some k → (Value.slice A ns.length c).ownBlock ≠ some k := fun k hk e => by
    rcases HF.out.lv k e with e | e
    · exact (HV.out k hk).2.2 e
    · have := H4.out k hk; omega
  have hsz2 : w.heap.size ≤ w2.heap.size := by have := HF.out.size; omega
  refine ⟨rfl, .slice (some ⟨g1, 0, none⟩) (ns.length + 1) cap1, ⟨us ++ [.slice A4 n4 c4], ?_⟩, ?_⟩
  · refine push_RI (w1 := w1) HZ.out.ro hown hgrow (by rcases hat with h | h; exact .inl h; exact .inr (by rw [h])) x (.slice A4 n4 c4) (HS.out.congr fun k o hk ho => ?_) (fun k hk => ⟨(HV.out k hk).1, hlv k hk⟩) e2 (fun cur' hc' => ?_) e4
    · have h1 := (Array.getElem?_eq_some_iff.1 ho).1
      show (w2.heap.push _)[k]? = _
      rw [Array.getElem?_push, if_neg (by omega), HF.out.block k (by omega) (HV.out k hk).1 (HV.out k hk).2.1 (HV.out k hk).2.2]
      show (w.heap.push _)[k]? = _
      rw [Array.getElem?_push, if_neg (by omega)]
      exact ho
    · rw [hcur] at hc'
      cases hc'
      exact e6
  · have F2 : Fr w2 wf b (.slice none 0 0) (.slice A ns.length c) (.slice none 0 0) (.slice (some ⟨g1, 0, none⟩) (ns.length + 1) cap1) := by
      refine ⟨e5.os.trans hgrow.os, e5.tape.trans hgrow.tape, e5.output.trans hgrow.output, by have := hgrow.size; rw [e5.size]; omega, fun k hk h1 h2 h3 => ?_, (fun k hk => by cases hk), fun k hk => ?_⟩
      · have hkg : k ≠ g1 := by
          rintro rfl
          rcases hat with h | h
          · exact h3 h
          · omega
        rw [e4 k h1 hkg, hgrow.block k (by omega) (Ne.symm h3)]
        show (w2.heap.push _)[k]? = _
        rw [Array.getElem?_push, if_neg (by omega)]
      · have hk' : g1 = k := by simpa [Value.ownBlock] using hk
        subst hk'
        rcases hat with h | h
        · exact .inl h
        · exact .inr (by omega)
    have F := HF.out.trans F2
    refine ⟨F.os, F.tape, F.output, by have := F.size; omega, fun k hk h1 h2 h3 => ?_, (fun k hk => by cases hk), fun k hk => ?_⟩
    · rw [F.block k (by omega) h1 h2 h3]
      show (w.heap.push _)[k]? = _
      rw [Array.getElem?_push, if_neg (by omega)]
    · rcases F.lv k hk with h | h
      · exact .inl h
      · exact .inr (by omega)
end Go.Proofs.YtmifmmpbmcfmpaaGreatDoor.IW
