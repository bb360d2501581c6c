/-
  The program's reader: flush.
-/
import Derived.Test.YtmifmmpbmcfmpaaGreatDoorIf
import Derived.Test.YtmifmmpbmcfmpaaGreatDoorMz
set_option linter.unusedVariables false
set_option linter.unusedSimpArgs false
namespace Go.Proofs.YtmifmmpbmcfmpaaGreatDoor.IW
open Go Go.RowKit Go.Proofs.YtmifmmpbmcfmpaaGreatDoor.MkW
set_option maxRecDepth 100000

theorem freeze_other {w : World} {a : Addr} {n k : Nat} (h : k ≠ a.block) : (w.freeze a n).heap[k]? = w.heap[k]? := by
  unfold World.freeze
  split
  · rfl
  · simp only
    rw [Array.getElem?_modify, if_neg (Ne.symm h)]
theorem freeze_rest (w : World) (a : Addr) (n : Nat) : Rest w (w.freeze a n) := by
  unfold World.freeze
  split
  · exact ⟨rfl, rfl, rfl, rfl⟩
  · exact ⟨rfl, rfl, rfl, by simp⟩
theorem freeze_alloc {w : World} {a : Addr} {n : Nat} {o : Obj} (h : a.block < w.heap.size) : (w.alloc o).freeze a n = (w.freeze a n).alloc o := by
  unfold World.freeze World.alloc
  split
  · rfl
  · simp only
    congr 1
    apply Array.ext_getElem?
    intro k
    rw [Array.getElem?_modify, Array.getElem?_push, Array.getElem?_push, Array.getElem?_modify]
    simp only [Array.size_modify]
    by_cases h1 : a.block = k
    · subst h1
      rw [if_pos rfl, if_neg (by omega), if_neg (by omega), if_pos rfl]
    · rw [if_neg h1, if_neg h1]

/-- Behind a freezing of the text. -/
theorem RI.froze {w W : World} {base b : Nat} {e : TypeId} {s : ByteArray} {v1 tv : Value} {bs : List UInt8} {lv : Value} {nds : List Nd} {vs : List Value} (R : RI w base b e s v1 tv bs lv nds vs)
    (hW : ∀ k, k < w.heap.size → tv.ownBlock ≠ some k → W.heap[k]? = w.heap[k]?) (hsz : w.heap.size ≤ W.heap.size) :
    W.ownsRow base 25 5 lv nds.length (ndCells nds vs) ∧ RO W base b lv nds vs ∧ W.heap[b]? = some (.cells #[.string s, v1, tv, lv] e (0, 0)) := by
  have far : ∀ {k : Nat} {o : Obj}, w.heap[k]? = some o → tv.ownBlock ≠ some k → W.heap[k]? = some o := fun {k o} hk h2 => by
    rw [hW k (Array.getElem?_eq_some_iff.1 hk).1 h2]; exact hk
  refine ⟨?_, ⟨R.hb, Nat.lt_of_lt_of_le (Array.getElem?_eq_some_iff.1 R.blk).1 hsz, R.len, fun i nd v hi hv => ?_, R.lb, fun v hv k hk => ⟨(R.vb v hv k hk).1, (R.vb v hv k hk).2.2⟩⟩, far R.blk (fun h => (R.tb b h).1 rfl)⟩
  · obtain ⟨h1, h2⟩ := R.out
    refine ⟨h1, ?_⟩
    rcases h2 with h2 | ⟨g', cap', cur, rfl, k2, k3, k4⟩
    · exact .inl h2
    · exact .inr ⟨g', cap', cur, rfl, k2, far k3 (fun h => (R.tb g' h).2 rfl), k4⟩
  · rcases R.sub i nd v hi hv with h2 | ⟨g', k1, rfl, k3, k4⟩
    · exact .inl h2
    · exact .inr ⟨g', k1, rfl, k3, far k4 (R.vb _ (List.mem_of_getElem? hv) g' rfl).2.1⟩

/-- String of a text so far that holds something. -/
theorem string_RI {w : World} {base b g cap : Nat} {s : ByteArray} {v1 lv : Value} {bs : List UInt8} {nds : List Nd} {vs : List Value} (hn : 0 < bs.length) (hm : bs.length ≤ 100000) (R : RI w base b 54 s v1 (.slice (some ⟨g, 0, none⟩) bs.length cap) bs lv nds vs) :
    Calls Tryz.prog 26 #[.pointer (some ⟨b, 1, none⟩)] w fun e w' => e = .returned (.string ⟨bs.toArray⟩) ∧ w' = w.drew.freeze ⟨g, 0, none⟩ bs.length := by
  obtain ⟨x0, x1, x2, x3, xf⟩ := R.cell
  have h2 := R.txt.2
  rcases h2 with ⟨h2, _⟩ | ⟨g', cap', cur, e1, e2, e3, e4, e5, e6, e7⟩
  · cases h2
  · cases e1
    obtain ⟨c', rfl⟩ : ∃ c', cap = c' + 1 := ⟨cap - 1, by omega⟩
    refine string_some w b g c' cur.size bs (fun e => by rw [e] at hn; simp at hn) x2 (by simp [World.shape?, e3]) (by rw [e6]; omega) hm (fun j x hj => ?_)
    exact R.txt.cells (g := g) rfl j _ (by simp [byteCells, hj])

set_option maxHeartbeats 1000000 in
theorem tflush_some (w : World) (base b : Nat) (s : ByteArray) (v1 : Value) (g cap : Nat) (A : Option Addr) (c : Nat) (bs : List UInt8) (nds : List Nd) (vs : List Value) (hn : 0 < bs.length) (hm : bs.length ≤ 100000)
    (R0 : RI w base b 54 s v1 (.slice (some ⟨g, 0, none⟩) bs.length cap) bs (.slice A nds.length c) nds vs) (hlen : nds.length ≤ 100000) :
    Calls Tryz.prog 27 #[.pointer (some ⟨b, 0, none⟩)] w fun e w' => e = .returned (.tuple #[]) ∧ ∃ lv' vs', RI w' base b 54 s (.pointer none) (.slice none 0 0) [] lv' (nds ++ [⟨2, ⟨bs.toArray⟩, 0, []⟩]) vs' ∧
      Fr w w' b (.slice (some ⟨g, 0, none⟩) bs.length cap) (.slice A nds.length c) (.slice none 0 0) lv' := by
  have c1 : decide ((bs.length : Int) > 0) = true := decide_eq_true (by omega)
  have c2 : decide (0 < bs.length) = true := decide_eq_true hn
  obtain ⟨x0, x1, x2, x3, xf⟩ := R0.cell
  have R1 := (R0.alloc (.cells zeroNd 25)).drew
  obtain ⟨y0, y1, y2, y3, yf⟩ := (R0.alloc (.cells zeroNd 25)).cell
  have hg : g < w.heap.size := (R0.txt.lt g rfl).2
  have hc0 := string_RI hn hm R0.drew
  have hc1 := string_RI hn hm R1
  obtain ⟨W10, hW⟩ : ∃ W, w.drew.drew.freeze ⟨g, 0, none⟩ bs.length = W := ⟨_, rfl⟩
  have e11 : (w.alloc (.cells zeroNd 25)).drew.drew.freeze ⟨g, 0, none⟩ bs.length = W10.alloc (.cells zeroNd 25) := by
    rw [← hW]; exact freeze_alloc (w := w.drew.drew) hg
  rw [hW] at hc0
  rw [e11] at hc1
  have rW : Rest w W10 := by
    rw [← hW]
    have r := freeze_rest w.drew.drew ⟨g, 0, none⟩ bs.length
    exact ⟨r.os, r.tape, r.output, r.size⟩
  have oW : ∀ k, k < w.heap.size → (Value.slice (some ⟨g, 0, none⟩) bs.length cap).ownBlock ≠ some k → W10.heap[k]? = w.heap[k]? := fun k hk h => by
    rw [← hW]; exact freeze_other (w := w.drew.drew) (fun e => h (by rw [e]; rfl))
  have zW : W10.heap.size = w.heap.size := rW.size
  obtain ⟨_, _, bW⟩ := R0.froze oW (Nat.le_of_eq zW.symm)
  have a3 : W10.cell? ⟨b, 3, none⟩ = some (.slice A nds.length c) := by rw [cell_of_row _ b _ _ _ _ bW]; rfl
  obtain ⟨o1, o2, o3⟩ := R0.froze (W := W10.alloc (.cells zeroNd 25)) (fun k hk h => by
    show (W10.heap.push _)[k]? = _
    rw [Array.getElem?_push, if_neg (by omega)]; exact oW k hk h) (by show _ ≤ (W10.heap.push _).size; simp; omega)
  have b3 : (W10.alloc (.cells zeroNd 25)).cell? ⟨b, 3, none⟩ = some (.slice A nds.length c) := by rw [cell_of_row _ b _ _ _ _ o3]; rfl
  have HO := Aside0.mk o1
  have HP := Aside0.mk o2
  have HQ := Aside0.mk o3
  obtain ⟨i25, z25, hi, hz, hsz, hby, hzs⟩ := info25
  have HR := Aside0.mk R0
  have HW := Aside0.mk rW
  have HK := Aside0.mk oW
  have HL := Aside0.mk hlen
  have HC0 := Aside0.mk hc0
  have HC1 := Aside0.mk hc1
  clear R0 R1 hn hm hlen hW e11 rW oW bW o1 o2 o3 hc0 hc1 hg
  go_enter Tryz.func27, Tryz.ntmps27
  go_wp2_with (go_at_call 64; refine (len_any _ b bs.length cap (some ⟨g, 0, none⟩) x2).mono ?_; rintro e w1 ⟨rfl, hw⟩; rw [hw]; clear hw w1)
  refine wp_region_make2 (w10 := W10) (w01 := (w.alloc (.cells zeroNd 25)).drew) (w11 := W10.alloc (.cells zeroNd 25)) 11 7 10 (by kernel_rfl) (by kernel_rfl) (by decide) (by decide) (by decide) ?_
  simp only [List.take_succ_cons, List.take_zero]
  change wpMl _ _ (fam2 w.drew _ _ _ _ _) _ _ _ _
  iterate 7
    apply wpMl_quad (by decide) (by decide)
    · intro K hK
      go_simp
      exact ⟨rfl, hK⟩
    · intro K hK
      go_simp
      exact ⟨rfl, hK⟩
    · intro K hK
      go_simp
      exact ⟨rfl, hK⟩
    · intro K hK
      go_simp
      exact ⟨rfl, hK⟩
  refine wpMl_firstC (v := .string ⟨bs.toArray⟩) (yieldsTo_call (f := 26) (args := #[.pointer (some ⟨b, 1, none⟩)]) rfl ?_ HC0.out) (yieldsTo_call (f := 26) (args := #[.pointer (some ⟨b, 1, none⟩)]) rfl ?_ HC1.out) ?_
  · go_simp
  · go_simp
  iterate 2
    apply wpMl_quad (by decide) (by decide)
    · intro K hK
      go_simp
      exact ⟨rfl, hK⟩
    · intro K hK
      go_simp
      exact ⟨rfl, hK⟩
    · intro K hK
      go_simp
      exact ⟨rfl, hK⟩
    · intro K hK
      go_simp
      exact ⟨rfl, hK⟩
  apply wpMl_second (by decide)
  · intro K hK
    go_simp
    exact ⟨rfl, hK⟩
  · intro K hK
    go_simp
    exact ⟨rfl, hK⟩
  refine wpMl_nil ?_
  refine wpAny_one rfl (by kernel_rfl) (by kernel_rfl) (fun K hK => ⟨rfl, ?_⟩)
  refine wp_append_lies _ (.tmp 10) (.tmp 17) 23 rfl base 25 i25 z25 5 72 Tryz.underlying23 hi hz hsz hby hzs (by decide) (.slice A nds.length c) nds.length (ndCells nds vs) (by simp [Act.eval, Act.put]) HO.out ⟨w.heap.size, 0, none⟩ 1 1 zeroNd.toList (by simp [Act.eval, Act.put]) rfl ?nw ?one (by decide) ?l1 ?l2 ?l3 _ rfl ?_
  case nw => rw [← zW]; exact World.news_of_block (heap_alloc_new W10 _)
  case one => intro u hu; simp [zeroNd] at hu; rcases hu with rfl | rfl | rfl | rfl <;> rfl
  case l1 => have := HL.out; have hm : (200000 : Nat) ≤ maxLen := by decide
             omega
  case l2 => have := HL.out; omega
  case l3 => have := (Array.getElem?_eq_some_iff.1 HR.out.blk).1; have := HR.out.hb; show base ≤ (W10.heap.push _).size; simp; omega
  intro g1 cap1 w1 hown hgrow hat hlt
  refine hK _ _ ?_
  clear hK
  have hbs : b < w.heap.size := (Array.getElem?_eq_some_iff.1 HR.out.blk).1
  have hb1 : g1 ≠ b := by
    rcases hat with h | h
    · exact HR.out.lb _ h
    · have : g1 = W10.heap.size + 1 := by rw [h]; show (W10.heap.push _).size = _; simp
      omega
  have hx1 : ((nds.length : Int) < (nds.length : Int) + 1) = True := eq_true (by omega)
  have hblk : w1.heap[b]? = some (.cells #[.string s, v1, .slice (some ⟨g, 0, none⟩) bs.length cap, .slice A nds.length c] 54 (0, 0)) := by
    rw [hgrow.block b (by show b < (W10.heap.push _).size; simp; omega) (fun e => HR.out.lb b e.symm rfl)]
    exact HQ.out
  obtain ⟨cur, hcur, hcs, htk⟩ : ∃ cur, w1.heap[g1]? = some (.cells cur 25 (0, 0)) ∧ nds.length * 5 + 5 ≤ cur.size ∧ cur.toList.take ((ndCells nds vs).length + 5) = ndCells nds vs ++ zeroNd.toList := by
    obtain ⟨_, h2⟩ := hown
    rcases h2 with ⟨h2, _⟩ | ⟨g', cap', cur, e1, e2, e3, e4, e5, e6, e7⟩
    · cases h2
    · cases e1
      have hl := ndCells_length nds vs HR.out.len
      refine ⟨cur, e3, by omega, ?_⟩
      rw [← e7, hl]; congr 1; omega
  have hcell : ∀ j, j < 5 → ∀ u, zeroNd.toList[j]? = some u → cur[nds.length * 5 + j]? = some u := fun j hj u hu => by
    have hl := ndCells_length nds vs HR.out.len
    have h1 : (cur.toList.take ((ndCells nds vs).length + 5))[nds.length * 5 + j]? = some u := by
      rw [htk, List.getElem?_append_right (by omega), hl, Nat.add_sub_cancel_left]; exact hu
    rw [List.getElem?_take, if_pos (by omega)] at h1
    simpa using h1
  obtain ⟨⟨q0, q1, q2, q3, q4⟩, fq⟩ : (w1.cell? ⟨g1, nds.length * 5, none⟩ = some (.int .i64 0) ∧ w1.cell? ⟨g1, nds.length * 5 + 1, none⟩ = some (.string ⟨#[]⟩) ∧ w1.cell? ⟨g1, nds.length * 5 + 2, none⟩ = some (.string ⟨#[]⟩) ∧ w1.cell? ⟨g1, nds.length * 5 + 3, none⟩ = some (.int .i64 0) ∧ w1.cell? ⟨g1, nds.length * 5 + 4, none⟩ = some (.slice none 0 0)) ∧ ∀ o, w1.frozen? ⟨g1, o, none⟩ = false := by
    refine ⟨⟨?_, ?_, ?_, ?_, ?_⟩, fun o => by simp only [World.frozen?, hcur]; simp⟩
    · rw [cell_of_row w1 g1 _ _ _ _ hcur]; exact hcell 0 (by decide) _ rfl
    · rw [cell_of_row w1 g1 _ _ _ _ hcur]; exact hcell 1 (by decide) _ rfl
    · rw [cell_of_row w1 g1 _ _ _ _ hcur]; exact hcell 2 (by decide) _ rfl
    · rw [cell_of_row w1 g1 _ _ _ _ hcur]; exact hcell 3 (by decide) _ rfl
    · rw [cell_of_row w1 g1 _ _ _ _ hcur]; exact hcell 4 (by decide) _ rfl
  have hc3 : w1.cell? ⟨b, 3, none⟩ = some (.slice A nds.length c) := by rw [cell_of_row w1 b _ _ _ _ hblk]; rfl
  have hf3 : w1.frozen? ⟨b, 3, none⟩ = false := by simp only [World.frozen?, hblk]; simp
  obtain ⟨⟨r0, r1, r2, r3, r4⟩, fr⟩ : ((w1.setCell ⟨b, 3, none⟩ (.slice (some ⟨g1, 0, none⟩) (nds.length + 1) cap1)).cell? ⟨g1, nds.length * 5, none⟩ = some (.int .i64 0) ∧ (w1.setCell ⟨b, 3, none⟩ (.slice (some ⟨g1, 0, none⟩) (nds.length + 1) cap1)).cell? ⟨g1, nds.length * 5 + 1, none⟩ = some (.string ⟨#[]⟩) ∧ (w1.setCell ⟨b, 3, none⟩ (.slice (some ⟨g1, 0, none⟩) (nds.length + 1) cap1)).cell? ⟨g1, nds.length * 5 + 2, none⟩ = some (.string ⟨#[]⟩) ∧ (w1.setCell ⟨b, 3, none⟩ (.slice (some ⟨g1, 0, none⟩) (nds.length + 1) cap1)).cell? ⟨g1, nds.length * 5 + 3, none⟩ = some (.int .i64 0) ∧ (w1.setCell ⟨b, 3, none⟩ (.slice (some ⟨g1, 0, none⟩) (nds.length + 1) cap1)).cell? ⟨g1, nds.length * 5 + 4, none⟩ = some (.slice none 0 0)) ∧ ∀ o, (w1.setCell ⟨b, 3, none⟩ (.slice (some ⟨g1, 0, none⟩) (nds.length + 1) cap1)).frozen? ⟨g1, o, none⟩ = false := by
    have e : ∀ o, (w1.setCell ⟨b, 3, none⟩ (.slice (some ⟨g1, 0, none⟩) (nds.length + 1) cap1)).cell? ⟨g1, o, none⟩ = w1.cell? ⟨g1, o, none⟩ := fun o => World.cell?_of_block (heap_other hb1)
    refine ⟨⟨?_, ?_, ?_, ?_, ?_⟩, fun o => ?_⟩
    · rw [e]; exact q0
    · rw [e]; exact q1
    · rw [e]; exact q2
    · rw [e]; exact q3
    · rw [e]; exact q4
    · rw [World.frozen?_of_block (w := w1) (heap_other hb1)]; exact fq o
  apply wpAny_pair (k := 12) (p := 13) (q := 16) (w01 := w1.setCell ⟨b, 3, none⟩ (.slice (some ⟨g1, 0, none⟩) (nds.length + 1) cap1)) (by kernel_rfl)
  simp only [List.drop_succ_cons, List.drop_zero]
  apply wpMl_four (by decide) (by decide)
  · intro wq K hK
    go_simp
    exact ⟨rfl, hK⟩
  apply wpMl_first
  · intro K hK
    go_simp
    exact ⟨rfl, hK⟩
  · intro K hK
    go_simp
    exact ⟨rfl, hK⟩
  iterate 2
    apply wpMl_four (by decide) (by decide)
    · intro wq K hK
      go_simp
      exact ⟨rfl, hK⟩
  have hstb : (storeNd w1 g1 (nds.length * 5) 0 2 ⟨bs.toArray⟩ 0 (.slice none 0 0)).heap[b]? = some (.cells #[.string s, v1, .slice (some ⟨g, 0, none⟩) bs.length cap, .slice A nds.length c] 54 (0, 0)) := by rw [storeNd_other (Ne.symm hb1)]; exact hblk
  have k3 : (storeNd w1 g1 (nds.length * 5) 0 2 ⟨bs.toArray⟩ 0 (.slice none 0 0)).cell? ⟨b, 3, none⟩ = some (.slice A nds.length c) := by rw [cell_of_row _ b _ _ _ _ hstb]; rfl
  have kf3 : (storeNd w1 g1 (nds.length * 5) 0 2 ⟨bs.toArray⟩ 0 (.slice none 0 0)).frozen? ⟨b, 3, none⟩ = false := by simp only [World.frozen?, hstb]; simp
  have hcm := storeNd_comm (w := w1) (g := g1) (o := nds.length * 5) (op := 0) (x := 2) (t := ⟨bs.toArray⟩) (n := 0) (v4 := .slice none 0 0) (c := ⟨b, 3, none⟩) (v := .slice (some ⟨g1, 0, none⟩) (nds.length + 1) cap1) hb1
  unfold storeNd at k3 kf3 hcm
  apply wpMl_second (by decide)
  · intro K hK
    go_simp
    exact ⟨rfl, hK⟩
  · intro K hK
    go_simp
    exact ⟨rfl, hK⟩
  refine wpMl_nil ?_
  clear k3 kf3 hcm hstb r0 r1 r2 r3 r4 fr hc3 hf3 q0 q1 q2 q3 q4 fq x0 x1 x2 x3 xf y0 y1 y2 y3 yf a3 b3
  have hst3 : (w1.setCell ⟨b, 3, none⟩ (.slice (some ⟨g1, 0, none⟩) (nds.length + 1) cap1)).heap[b]? = some (.cells #[.string s, v1, .slice (some ⟨g, 0, none⟩) bs.length cap, .slice (some ⟨g1, 0, none⟩) (nds.length + 1) cap1] 54 (0, 0)) := heap_here hblk
  have hst4 : (w1.setCell ⟨b, 3, none⟩ (.slice (some ⟨g1, 0, none⟩) (nds.length + 1) cap1)).heap[g1]? = some (.cells cur 25 (0, 0)) := by rw [heap_other (by exact hb1)]; exact hcur
  generalize hwf : storeNd (w1.setCell ⟨b, 3, none⟩ (.slice (some ⟨g1, 0, none⟩) (nds.length + 1) cap1)) g1 (nds.length * 5) 0 2 ⟨bs.toArray⟩ 0 (.slice none 0 0) = wf
  have hwf2 := hwf
  unfold storeNd at hwf2
  rw [hwf2]
  clear hwf2
  have e2 : wf.heap[b]? = some (.cells #[.string s, v1, .slice (some ⟨g, 0, none⟩) bs.length cap, .slice (some ⟨g1, 0, none⟩) (nds.length + 1) cap1] 54 (0, 0)) := by
    rw [← hwf, storeNd_other (Ne.symm hb1)]; exact hst3
  have e4 : ∀ k, k ≠ b → k ≠ g1 → wf.heap[k]? = w1.heap[k]? := fun k h1 h2 => by
    rw [← hwf, storeNd_other h2, heap_other (by exact h1)]
  have e5 : Rest w1 wf := by rw [← hwf]; exact (setCell_rest _ _ _).trans (storeNd_rest _ _ _ _ _ _ _ _)
  have e6 := storeNd_here (op := 0) (o := nds.length * 5) (x := 2) (t := ⟨bs.toArray⟩) (n := 0) (v4 := .slice none 0 0) hst4
  rw [hwf] at e6
  have xc1 : wf.cell? ⟨b, 1, none⟩ = some v1 := by rw [cell_of_row _ b _ _ _ _ e2]; rfl
  have xc2 : wf.cell? ⟨b, 2, none⟩ = some (.slice (some ⟨g, 0, none⟩) bs.length cap) := by rw [cell_of_row _ b _ _ _ _ e2]; rfl
  have xff : ∀ o, wf.frozen? ⟨b, o, none⟩ = false := fun o => by simp only [World.frozen?, e2]; simp
  have XC := Aside0.mk (And.intro xc1 (And.intro xc2 xff))
  clear xc1 xc2 xff
  have HE := Aside0.mk (And.intro e2 (And.intro e4 (And.intro e5 e6)))
  clear hwf e2 e4 e5 e6 hst3 hst4
  go_wp2_with (go_at_call 65; refine (reset_any _ b _ _ XC.out.1 XC.out.2.1 (XC.out.2.2 1) (XC.out.2.2 2)).mono ?_; rintro e wr ⟨rfl, hwr⟩; have HX := Aside0.mk hwr; clear hwr)
  go_end0
  obtain ⟨e2, e4, e5, e6⟩ := HE.out
  have e7 := HX.out
  subst e7
  have r7 : Rest wf ((wf.setCell ⟨b, 1, none⟩ (.pointer none)).setCell ⟨b, 2, none⟩ (.slice none 0 0)) := (setCell_rest _ _ _).trans (setCell_rest _ _ _)
  have o7 : ∀ k, k ≠ b → ((wf.setCell ⟨b, 1, none⟩ (.pointer none)).setCell ⟨b, 2, none⟩ (.slice none 0 0)).heap[k]? = wf.heap[k]? := fun k h => by rw [heap_other (by exact h), heap_other (by exact h)]
  have f7 : ((wf.setCell ⟨b, 1, none⟩ (.pointer none)).setCell ⟨b, 2, none⟩ (.slice none 0 0)).heap[b]? = some (.cells #[.string s, .pointer none, .slice none 0 0, .slice (some ⟨g1, 0, none⟩) (nds.length + 1) cap1] 54 (0, 0)) := heap_here (heap_here e2)
  have hszz : (W10.alloc (.cells zeroNd 25)).heap.size = w.heap.size + 1 := by show (W10.heap.push _).size = _; simp [zW]
  refine ⟨rfl, .slice (some ⟨g1, 0, none⟩) (nds.length + 1) cap1, vs ++ [.slice none 0 0], ?_, ?_⟩
  · refine push_RI (w1 := w1) HP.out hown hgrow (by rcases hat with h | h; exact .inl h; exact .inr (by rw [h])) ⟨2, ⟨bs.toArray⟩, 0, []⟩ (.slice none 0 0) (.inl ⟨rfl, rfl⟩) (fun k hk => by cases hk) f7 (fun cur' hc' => ?_) (fun k h1 h2 => ?_)
    · rw [hcur] at hc'
      cases hc'
      rw [o7 g1 hb1]
      exact e6
    · rw [o7 k h1]; exact e4 k h1 h2
  · refine ⟨((r7.os.trans e5.os).trans hgrow.os).trans HW.out.os, ((r7.tape.trans e5.tape).trans hgrow.tape).trans HW.out.tape, ((r7.output.trans e5.output).trans hgrow.output).trans HW.out.output, ?_, fun k hk h1 h2 h3 => ?_, (fun k hk => by cases hk), fun k hk => ?_⟩
    · have := hgrow.size
      rw [r7.size, e5.size]; omega
    · have hkg : k ≠ g1 := by
        rintro rfl
        rcases hat with h | h
        · exact h3 h
        · omega
      rw [o7 k h1, e4 k h1 hkg, hgrow.block k (by omega) (Ne.symm h3)]
      show (W10.heap.push _)[k]? = _
      rw [Array.getElem?_push, if_neg (by omega)]
      exact HK.out k hk h2
    · have hk' : g1 = k := by simpa [Value.ownBlock] using hk
      subst hk'
      rcases hat with h | h
      · exact .inl h
      · exact .inr (by omega)
end Go.Proofs.YtmifmmpbmcfmpaaGreatDoor.IW
