/-
  The reference's reader: flush and put.
-/
import Derived.Test.YtmifmmpbmcfmpaaGreatDoorIa
set_option linter.unusedVariables false
set_option linter.unusedSimpArgs false
namespace Go.Proofs.YtmifmmpbmcfmpaaGreatDoor.IW
open Go Go.RowKit Go.Proofs.YtmifmmpbmcfmpaaGreatDoor.MkW
set_option maxRecDepth 100000

/-- What a method has left as it was. -/
structure Fr (w w' : World) (b : Nat) (tv lv tv' lv' : Value) : Prop where
  os : w'.os = w.os
  tape : w'.tape = w.tape
  output : w'.output = w.output
  size : w.heap.size ≤ w'.heap.size
  block : ∀ k, k < w.heap.size → k ≠ b → tv.ownBlock ≠ some k → lv.ownBlock ≠ some k → w'.heap[k]? = w.heap[k]?
  tv : ∀ k, tv'.ownBlock = some k → tv.ownBlock = some k ∨ w.heap.size ≤ k
  lv : ∀ k, lv'.ownBlock = some k → lv.ownBlock = some k ∨ w.heap.size ≤ k

theorem Fr.refl (w : World) (b : Nat) (tv lv : Value) : Fr w w b tv lv tv lv := ⟨rfl, rfl, rfl, Nat.le_refl _, fun _ _ _ _ _ => rfl, fun _ h => .inl h, fun _ h => .inl h⟩
theorem Fr.trans {w w1 w2 : World} {b : Nat} {tv lv tv1 lv1 tv2 lv2 : Value} (h : Fr w w1 b tv lv tv1 lv1) (k : Fr w1 w2 b tv1 lv1 tv2 lv2) : Fr w w2 b tv lv tv2 lv2 := by
  refine ⟨k.os.trans h.os, k.tape.trans h.tape, k.output.trans h.output, Nat.le_trans h.size k.size, fun j hj h1 h2 h3 => ?_, fun j hj => ?_, fun j hj => ?_⟩
  · rw [k.block j (Nat.lt_of_lt_of_le hj h.size) h1 (fun e => ?_) (fun e => ?_), h.block j hj h1 h2 h3]
    · rcases h.tv j e with e | e
      · exact h2 e
      · omega
    · rcases h.lv j e with e | e
      · exact h3 e
      · omega
  · rcases k.tv j hj with e | e
    · exact h.tv j e
    · exact .inr (Nat.le_trans h.size e)
  · rcases k.lv j hj with e | e
    · exact h.lv j e
    · exact .inr (Nat.le_trans h.size e)

theorem foldl_push : ∀ (l : List UInt8) (acc : ByteArray), (l.map fun b => (b.toNat : Int)).foldl (fun r n => r.push (UInt8.ofNat n.toNat)) acc = ⟨acc.data ++ l.toArray⟩
  | [], acc => by simp
  | x :: l, acc => by
    simp only [List.map_cons, List.foldl_cons, Int.toNat_natCast]
    rw [foldl_push l]
    have : UInt8.ofNat x.toNat = x := by simp
    rw [this]
    congr 1
    apply Array.ext'
    simp [ByteArray.push]

theorem conv_own {W : World} {base g cap : Nat} {bs : List UInt8} (h : W.ownsRow base 5 1 (.slice (some ⟨g, 0, none⟩) bs.length cap) bs.length (byteCells bs)) :
    (convert 46 9 (.slice (some ⟨g, 0, none⟩) bs.length cap)).run Tryz.prog W = .ok (.string ⟨bs.toArray⟩) W := by
  rw [run_convert_bytes_string W 46 9 5 _ _ _ Tryz.underlying46 Tryz.underlying5 Tryz.underlying9]
  have hl : (loadCells ⟨g, 0, none⟩ bs.length).run Tryz.prog W = .ok ((bs.map fun b => (b.toNat : Int)).map (Value.int .u8)).toArray W := by
    have := run_loadCells_list (P := Tryz.prog) W ⟨g, 0, none⟩ (byteCells bs) (fun j v hv => h.cells (g := g) rfl j v hv)
    rw [show (byteCells bs).length = bs.length by simp [byteCells]] at this
    rw [this]
    simp [byteCells, Function.comp_def]
  rw [run_bytesToString W _ _ _ _ hl, foldl_push]
  congr 3
  simp [ByteArray.empty, ByteArray.emptyWithCapacity]
  rfl

theorem setCell_comm {w : World} {a c : Addr} {u v : Value} (h : a.block ≠ c.block) : (w.setCell a u).setCell c v = (w.setCell c v).setCell a u := by
  unfold World.setCell
  simp only
  congr 1
  apply Array.ext_getElem?
  intro k
  simp only [Array.getElem?_modify]
  by_cases h1 : a.block = k
  · have h2 : ¬ c.block = k := fun e => h (h1.trans e.symm)
    simp [h1, h2]
  · by_cases h2 : c.block = k
    · simp [h1, h2]
    · simp [h1, h2]
theorem storeNd_comm {w : World} {g o op : Nat} {x : Int} {t : ByteArray} {n : Int} {v4 : Value} {c : Addr} {v : Value} (h : g ≠ c.block) : (storeNd w g o op x t n v4).setCell c v = storeNd (w.setCell c v) g o op x t n v4 := by
  unfold storeNd
  rw [setCell_comm (a := ⟨g, o + 4, none⟩) h, setCell_comm (a := ⟨g, o + 3, none⟩) h, setCell_comm (a := ⟨g, o + 2, none⟩) h, setCell_comm (a := ⟨g, o + 1, none⟩) h, setCell_comm (a := ⟨g, o, none⟩) h]
theorem storeNd_other {w : World} {g o op : Nat} {x : Int} {t : ByteArray} {n : Int} {v4 : Value} {k : Nat} (h : k ≠ g) : (storeNd w g o op x t n v4).heap[k]? = w.heap[k]? := by
  unfold storeNd
  rw [heap_other (by exact h), heap_other (by exact h), heap_other (by exact h), heap_other (by exact h), heap_other (by exact h)]
theorem storeNd_here {w : World} {g o op : Nat} {x : Int} {t : ByteArray} {n : Int} {v4 : Value} {cur : Array Value} (h : w.heap[g]? = some (.cells cur 25 (0, 0))) :
    (storeNd w g o op x t n v4).heap[g]? = some (.cells (((((cur.setIfInBounds o (.int .i64 x)).setIfInBounds (o + 1) (.string t)).setIfInBounds (o + 2) (.string ⟨#[]⟩)).setIfInBounds (o + 3) (.int .i64 n)).setIfInBounds (o + 4) v4) 25 (0, 0)) := by
  unfold storeNd
  exact heap_here (heap_here (heap_here (heap_here (heap_here h))))

structure Rest (w w' : World) : Prop where
  os : w'.os = w.os
  tape : w'.tape = w.tape
  output : w'.output = w.output
  size : w'.heap.size = w.heap.size
theorem Rest.trans {a b c : World} (h : Rest a b) (k : Rest b c) : Rest a c := ⟨k.os.trans h.os, k.tape.trans h.tape, k.output.trans h.output, k.size.trans h.size⟩
theorem setCell_rest (w : World) (a : Addr) (v : Value) : Rest w (w.setCell a v) := ⟨rfl, rfl, rfl, by simp [World.setCell]⟩
theorem storeNd_rest (w : World) (g o op : Nat) (x : Int) (t : ByteArray) (n : Int) (v4 : Value) : Rest w (storeNd w g o op x t n v4) := by
  unfold storeNd
  exact ((((setCell_rest _ _ _).trans (setCell_rest _ _ _)).trans (setCell_rest _ _ _)).trans (setCell_rest _ _ _)).trans (setCell_rest _ _ _)

def fl (bs : List UInt8) (nds : List Nd) : List Nd := if bs = [] then nds else nds ++ [⟨2, ⟨bs.toArray⟩, 0, []⟩]

set_option maxHeartbeats 1000000 in
theorem flush_some (w : World) (base b : Nat) (s : ByteArray) (v1 : Value) (g cap : Nat) (A : Option Addr) (c : Nat) (bs : List UInt8) (nds : List Nd) (vs : List Value) (hn : 0 < bs.length)
    (R0 : RI w base b 48 s v1 (.slice (some ⟨g, 0, none⟩) bs.length cap) bs (.slice A nds.length c) nds vs) (hlen : nds.length ≤ 100000) :
    Calls Tryz.prog 21 #[.pointer (some ⟨b, 0, none⟩)] w fun e w' => e = .returned (.tuple #[]) ∧ ∃ lv' vs', RI w' base b 48 s v1 (.slice none 0 0) [] lv' (nds ++ [⟨2, ⟨bs.toArray⟩, 0, []⟩]) vs' ∧
      Fr w w' b (.slice (some ⟨g, 0, none⟩) bs.length cap) (.slice A nds.length c) (.slice none 0 0) lv' := by
  have c1 : decide ((bs.length : Int) > 0) = true := decide_eq_true (by omega)
  have c2 : decide (0 < bs.length) = true := decide_eq_true hn
  obtain ⟨x0, x1, x2, x3, xf⟩ := R0.cell
  have R2 := (R0.alloc (.cells zeroNd 25)).drew
  obtain ⟨y0, y1, y2, y3, yf⟩ := (R0.alloc (.cells zeroNd 25)).cell
  have z0 := conv_own R0.drew.txt
  have z1 := conv_own R2.txt
  obtain ⟨i25, z25, hi, hz, hsz, hby, hzs⟩ := info25
  have HR := Aside0.mk R0
  have HR2 := Aside0.mk R2
  have HN := Aside0.mk hn
  have HL := Aside0.mk hlen
  clear R0 R2 hn hlen
  go_enter Tryz.func21, Tryz.ntmps21
  go_wp2
  refine wp_region_make (w2 := (w.alloc (.cells zeroNd 25)).drew) 12 11 (by kernel_rfl) (by kernel_rfl) (by decide) ?_
  simp only [List.take_succ_cons, List.take_zero]
  change wpMl _ _ (fam1 w.drew _ _) _ _ _ _
  iterate 11
    apply wpMl_two (by decide)
    · intro K hK
      go_simp
      exact ⟨rfl, hK⟩
    · intro K hK
      go_simp
      exact ⟨rfl, hK⟩
  apply wpMl_make
  · intro K hK
    go_simp
    exact ⟨rfl, hK⟩
  refine wpMl_nil ?_
  refine wpAny_one rfl (by kernel_rfl) (by kernel_rfl) (fun K hK => ⟨rfl, ?_⟩)
  refine wp_append_lies _ (.tmp 11) (.tmp 19) 23 rfl base 25 i25 z25 5 72 Tryz.underlying23 hi hz hsz hby hzs (by decide) (.slice A nds.length c) nds.length (ndCells nds vs) (by simp [Act.eval, Act.put]) HR2.out.out ⟨w.heap.size, 0, none⟩ 1 1 zeroNd.toList (by simp [Act.eval, Act.put]) rfl ?nw ?one (by decide) ?l1 ?l2 ?l3 _ rfl ?_
  case nw => exact World.news_of_block (heap_alloc_new w _)
  case one => intro u hu; simp [zeroNd] at hu; rcases hu with rfl | rfl | rfl | rfl <;> rfl
  case l1 => have := HL.out; have hm : (200000 : Nat) ≤ maxLen := by decide
             omega
  case l2 => have := HL.out; omega
  case l3 => have := (Array.getElem?_eq_some_iff.1 HR.out.blk).1; have := HR.out.hb; show base ≤ (w.heap.push _).size; simp; omega
  intro g1 cap1 w1 hown hgrow hat hlt
  refine hK _ _ ?_
  clear hK
  have hbs : b < w.heap.size := (Array.getElem?_eq_some_iff.1 HR.out.blk).1
  have hb1 : g1 ≠ b := by
    rcases hat with h | h
    · exact HR.out.lb _ h
    · have : g1 = w.heap.size + 1 := by rw [h]; show (w.heap.push _).size = _; simp
      omega
  have hx1 : ((nds.length : Int) < (nds.length : Int) + 1) = True := eq_true (by omega)
  have hblk : w1.heap[b]? = some (.cells #[.string s, v1, .slice (some ⟨g, 0, none⟩) bs.length cap, .slice A nds.length c] 48 (0, 0)) := by
    rw [hgrow.block b (by show b < (w.heap.push _).size; simp; omega) (fun e => HR.out.lb b e.symm rfl)]
    exact HR2.out.blk
  obtain ⟨cur, hcur, hcs, htk⟩ : ∃ cur, w1.heap[g1]? = some (.cells cur 25 (0, 0)) ∧ nds.length * 5 + 5 ≤ cur.size ∧ cur.toList.take ((ndCells nds vs).length + 5) = ndCells nds vs ++ zeroNd.toList := by
    obtain ⟨_, h2⟩ := hown
    rcases h2 with ⟨h2, _⟩ | ⟨g', cap', cur, e1, e2, e3, e4, e5, e6, e7⟩
    · cases h2
    · cases e1
      have hl := ndCells_length nds vs HR.out.len
      refine ⟨cur, e3, by omega, ?_⟩
      rw [← e7, hl]; congr 1; omega
  have hcell : ∀ j, j < 5 → ∀ u, zeroNd.toList[j]? = some u → cur[nds.length * 5 + j]? = some u := fun j hj u hu => by
    have hl := ndCells_length nds vs HR.out.len
    have h1 : (cur.toList.take ((ndCells nds vs).length + 5))[nds.length * 5 + j]? = some u := by
      rw [htk, List.getElem?_append_right (by omega), hl, Nat.add_sub_cancel_left]; exact hu
    rw [List.getElem?_take, if_pos (by omega)] at h1
    simpa using h1
  obtain ⟨⟨q0, q1, q2, q3, q4⟩, fq⟩ : (w1.cell? ⟨g1, nds.length * 5, none⟩ = some (.int .i64 0) ∧ w1.cell? ⟨g1, nds.length * 5 + 1, none⟩ = some (.string ⟨#[]⟩) ∧ w1.cell? ⟨g1, nds.length * 5 + 2, none⟩ = some (.string ⟨#[]⟩) ∧ w1.cell? ⟨g1, nds.length * 5 + 3, none⟩ = some (.int .i64 0) ∧ w1.cell? ⟨g1, nds.length * 5 + 4, none⟩ = some (.slice none 0 0)) ∧ ∀ o, w1.frozen? ⟨g1, o, none⟩ = false := by
    refine ⟨⟨?_, ?_, ?_, ?_, ?_⟩, fun o => by simp only [World.frozen?, hcur]; simp⟩
    · rw [cell_of_row w1 g1 _ _ _ _ hcur]; exact hcell 0 (by decide) _ rfl
    · rw [cell_of_row w1 g1 _ _ _ _ hcur]; exact hcell 1 (by decide) _ rfl
    · rw [cell_of_row w1 g1 _ _ _ _ hcur]; exact hcell 2 (by decide) _ rfl
    · rw [cell_of_row w1 g1 _ _ _ _ hcur]; exact hcell 3 (by decide) _ rfl
    · rw [cell_of_row w1 g1 _ _ _ _ hcur]; exact hcell 4 (by decide) _ rfl
  have hc3 : w1.cell? ⟨b, 3, none⟩ = some (.slice A nds.length c) := by rw [cell_of_row w1 b _ _ _ _ hblk]; rfl
  have hf3 : w1.frozen? ⟨b, 3, none⟩ = false := by simp only [World.frozen?, hblk]; simp
  obtain ⟨⟨r0, r1, r2, r3, r4⟩, fr⟩ : ((w1.setCell ⟨b, 3, none⟩ (.slice (some ⟨g1, 0, none⟩) (nds.length + 1) cap1)).cell? ⟨g1, nds.length * 5, none⟩ = some (.int .i64 0) ∧ (w1.setCell ⟨b, 3, none⟩ (.slice (some ⟨g1, 0, none⟩) (nds.length + 1) cap1)).cell? ⟨g1, nds.length * 5 + 1, none⟩ = some (.string ⟨#[]⟩) ∧ (w1.setCell ⟨b, 3, none⟩ (.slice (some ⟨g1, 0, none⟩) (nds.length + 1) cap1)).cell? ⟨g1, nds.length * 5 + 2, none⟩ = some (.string ⟨#[]⟩) ∧ (w1.setCell ⟨b, 3, none⟩ (.slice (some ⟨g1, 0, none⟩) (nds.length + 1) cap1)).cell? ⟨g1, nds.length * 5 + 3, none⟩ = some (.int .i64 0) ∧ (w1.setCell ⟨b, 3, none⟩ (.slice (some ⟨g1, 0, none⟩) (nds.length + 1) cap1)).cell? ⟨g1, nds.length * 5 + 4, none⟩ = some (.slice none 0 0)) ∧ ∀ o, (w1.setCell ⟨b, 3, none⟩ (.slice (some ⟨g1, 0, none⟩) (nds.length + 1) cap1)).frozen? ⟨g1, o, none⟩ = false := by
    have e : ∀ o, (w1.setCell ⟨b, 3, none⟩ (.slice (some ⟨g1, 0, none⟩) (nds.length + 1) cap1)).cell? ⟨g1, o, none⟩ = w1.cell? ⟨g1, o, none⟩ := fun o => World.cell?_of_block (heap_other hb1)
    refine ⟨⟨?_, ?_, ?_, ?_, ?_⟩, fun o => ?_⟩
    · rw [e]; exact q0
    · rw [e]; exact q1
    · rw [e]; exact q2
    · rw [e]; exact q3
    · rw [e]; exact q4
    · rw [World.frozen?_of_block (w := w1) (heap_other hb1)]; exact fq o
  apply wpAny_pair (k := 13) (p := 14) (q := 17) (w01 := w1.setCell ⟨b, 3, none⟩ (.slice (some ⟨g1, 0, none⟩) (nds.length + 1) cap1)) (by kernel_rfl)
  simp only [List.drop_succ_cons, List.drop_zero]
  apply wpMl_four (by decide) (by decide)
  · intro w K hK
    go_simp
    exact ⟨rfl, hK⟩
  apply wpMl_first
  · intro K hK
    go_simp
    exact ⟨rfl, hK⟩
  · intro K hK
    go_simp
    exact ⟨rfl, hK⟩
  iterate 2
    apply wpMl_four (by decide) (by decide)
    · intro w K hK
      go_simp
      exact ⟨rfl, hK⟩
  have hstb : (storeNd w1 g1 (nds.length * 5) 0 2 ⟨bs.toArray⟩ 0 (.slice none 0 0)).heap[b]? = some (.cells #[.string s, v1, .slice (some ⟨g, 0, none⟩) bs.length cap, .slice A nds.length c] 48 (0, 0)) := by rw [storeNd_other (Ne.symm hb1)]; exact hblk
  have k3 : (storeNd w1 g1 (nds.length * 5) 0 2 ⟨bs.toArray⟩ 0 (.slice none 0 0)).cell? ⟨b, 3, none⟩ = some (.slice A nds.length c) := by rw [cell_of_row _ b _ _ _ _ hstb]; rfl
  have kf3 : (storeNd w1 g1 (nds.length * 5) 0 2 ⟨bs.toArray⟩ 0 (.slice none 0 0)).frozen? ⟨b, 3, none⟩ = false := by simp only [World.frozen?, hstb]; simp
  have hcm := storeNd_comm (w := w1) (g := g1) (o := nds.length * 5) (op := 0) (x := 2) (t := ⟨bs.toArray⟩) (n := 0) (v4 := .slice none 0 0) (c := ⟨b, 3, none⟩) (v := .slice (some ⟨g1, 0, none⟩) (nds.length + 1) cap1) hb1
  unfold storeNd at k3 kf3 hcm
  apply wpMl_second (by decide)
  · intro K hK
    go_simp
    exact ⟨rfl, hK⟩
  · intro K hK
    go_simp
    exact ⟨rfl, hK⟩
  refine wpMl_nil ?_
  clear k3 kf3 hcm hstb r0 r1 r2 r3 r4 fr hc3 hf3 q0 q1 q2 q3 q4 fq x0 x1 x2 x3 xf y0 y1 y2 y3 yf z0 z1
  have hst3 : (w1.setCell ⟨b, 3, none⟩ (.slice (some ⟨g1, 0, none⟩) (nds.length + 1) cap1)).heap[b]? = some (.cells #[.string s, v1, .slice (some ⟨g, 0, none⟩) bs.length cap, .slice (some ⟨g1, 0, none⟩) (nds.length + 1) cap1] 48 (0, 0)) := heap_here hblk
  have hst4 : (w1.setCell ⟨b, 3, none⟩ (.slice (some ⟨g1, 0, none⟩) (nds.length + 1) cap1)).heap[g1]? = some (.cells cur 25 (0, 0)) := by rw [heap_other (by exact hb1)]; exact hcur
  generalize hwf : storeNd (w1.setCell ⟨b, 3, none⟩ (.slice (some ⟨g1, 0, none⟩) (nds.length + 1) cap1)) g1 (nds.length * 5) 0 2 ⟨bs.toArray⟩ 0 (.slice none 0 0) = wf
  have hwf2 := hwf
  unfold storeNd at hwf2
  rw [hwf2]
  clear hwf2
  have e2 : wf.heap[b]? = some (.cells #[.string s, v1, .slice (some ⟨g, 0, none⟩) bs.length cap, .slice (some ⟨g1, 0, none⟩) (nds.length + 1) cap1] 48 (0, 0)) := by
    rw [← hwf, storeNd_other (Ne.symm hb1)]; exact hst3
  have e4 : ∀ k, k ≠ b → k ≠ g1 → wf.heap[k]? = w1.heap[k]? := fun k h1 h2 => by
    rw [← hwf, storeNd_other h2, heap_other (by exact h1)]
  have e5 : Rest w1 wf := by rw [← hwf]; exact (setCell_rest _ _ _).trans (storeNd_rest _ _ _ _ _ _ _ _)
  have e6 := storeNd_here (op := 0) (o := nds.length * 5) (x := 2) (t := ⟨bs.toArray⟩) (n := 0) (v4 := .slice none 0 0) hst4
  rw [hwf] at e6
  have xc2 : wf.cell? ⟨b, 2, none⟩ = some (.slice (some ⟨g, 0, none⟩) bs.length cap) := by rw [cell_of_row _ b _ _ _ _ e2]; rfl
  have xf2 : wf.frozen? ⟨b, 2, none⟩ = false := by simp only [World.frozen?, e2]; simp
  have HE := Aside0.mk (And.intro e2 (And.intro e4 (And.intro e5 e6)))
  clear hwf e2 e4 e5 e6 hst3 hst4
  go_wp2
  go_end0
  obtain ⟨e2, e4, e5, e6⟩ := HE.out
  refine ⟨rfl, .slice (some ⟨g1, 0, none⟩) (nds.length + 1) cap1, vs ++ [.slice none 0 0], ?_, ?_⟩
  · refine push_RI (w1 := w1) HR2.out.ro hown hgrow (by rcases hat with h | h; exact .inl h; exact .inr (by rw [h])) ⟨2, ⟨bs.toArray⟩, 0, []⟩ (.slice none 0 0) (.inl ⟨rfl, rfl⟩) (fun k hk => by cases hk) (heap_here e2) (fun cur' hc' => ?_) (fun k h1 h2 => ?_)
    · rw [hcur] at hc'
      cases hc'
      rw [heap_other (by exact hb1)]
      exact e6
    · rw [heap_other (by exact h1)]; exact e4 k h1 h2
  · have hsz : (w.alloc (.cells zeroNd 25)).drew.heap.size = w.heap.size + 1 := by show (w.heap.push _).size = _; simp
    refine ⟨((setCell_rest _ _ _).os.trans e5.os).trans hgrow.os, ((setCell_rest _ _ _).tape.trans e5.tape).trans hgrow.tape, ((setCell_rest _ _ _).output.trans e5.output).trans hgrow.output, ?_, fun k hk h1 h2 h3 => ?_, (fun k hk => by cases hk), fun k hk => ?_⟩
    · have := hgrow.size
      rw [(setCell_rest _ _ _).size, e5.size]; omega
    · have hkg : k ≠ g1 := by
        rintro rfl
        rcases hat with h | h
        · exact h3 h
        · omega
      rw [heap_other (by exact h1), e4 k h1 hkg, hgrow.block k (by omega) (Ne.symm h3)]
      show (w.heap.push _)[k]? = _
      rw [Array.getElem?_push, if_neg (by omega)]
    · have hk' : g1 = k := by simpa [Value.ownBlock] using hk
      subst hk'
      rcases hat with h | h
      · exact .inl h
      · exact .inr (by omega)

theorem own_slice {w : World} {base : Nat} {e : TypeId} {size : Nat} {v : Value} {n : Nat} {xs : List Value} (h : w.ownsRow base e size v n xs) : ∃ A c, v = .slice A n c := by
  rcases h.2 with ⟨rfl, rfl⟩ | ⟨g, cap, cur, rfl, _⟩
  · exact ⟨none, 0, rfl⟩
  · exact ⟨some ⟨g, 0, none⟩, cap, rfl⟩

set_option maxHeartbeats 1000000 in
theorem flush_none (w : World) (b : Nat) (h2 : w.cell? ⟨b, 2, none⟩ = some (.slice none 0 0)) : Calls Tryz.prog 21 #[.pointer (some ⟨b, 0, none⟩)] w fun e w' => e = .returned (.tuple #[]) ∧ w' = w := by
  go_enter Tryz.func21, Tryz.ntmps21
  go_wp2
  go_end0
  exact ⟨rfl, rfl⟩

theorem flush_any (w : World) (base b : Nat) (s : ByteArray) (v1 tv lv : Value) (bs : List UInt8) (nds : List Nd) (vs : List Value)
    (R0 : RI w base b 48 s v1 tv bs lv nds vs) (hlen : nds.length ≤ 100000) :
    Calls Tryz.prog 21 #[.pointer (some ⟨b, 0, none⟩)] w fun e w' => e = .returned (.tuple #[]) ∧ ∃ lv' vs', RI w' base b 48 s v1 (.slice none 0 0) [] lv' (fl bs nds) vs' ∧ Fr w w' b tv lv (.slice none 0 0) lv' := by
  by_cases hb : bs = []
  · subst hb
    obtain rfl := R0.tnil rfl
    refine (flush_none w b R0.cell.2.2.1).mono ?_
    rintro e w' ⟨rfl, rfl⟩
    exact ⟨rfl, lv, vs, by simpa [fl] using R0, Fr.refl _ _ _ _⟩
  · have hn : 0 < bs.length := Nat.pos_of_ne_zero fun e => hb (List.eq_nil_of_length_eq_zero e)
    obtain ⟨g, cap, rfl, _, _⟩ := R0.txt.form hn
    obtain ⟨A, c, rfl⟩ := own_slice R0.out
    refine (flush_some w base b s v1 g cap A c bs nds vs hn R0 hlen).mono ?_
    rintro e w' ⟨rfl, lv', vs', h1, h2⟩
    exact ⟨rfl, lv', vs', by unfold fl; rw [if_neg hb]; exact h1, h2⟩
end Go.Proofs.YtmifmmpbmcfmpaaGreatDoor.IW
