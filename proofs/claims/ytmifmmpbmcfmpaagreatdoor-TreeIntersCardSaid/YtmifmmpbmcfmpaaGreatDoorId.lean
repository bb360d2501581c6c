/-
  strings.Builder inside a struct: copyCheck, Len, Reset, WriteByte.
-/
import Derived.Test.YtmifmmpbmcfmpaaGreatDoorIc
import Derived.Lib.Builder
import Derived.Lib.UnsafeStr
set_option linter.unusedVariables false
set_option linter.unusedSimpArgs false
namespace Go.Proofs.YtmifmmpbmcfmpaaGreatDoor.IW
open Go Go.RowKit Go.Proofs.YtmifmmpbmcfmpaaGreatDoor.MkW
set_option maxRecDepth 100000

theorem info52 : ∃ i z, Tryz.prog.info? 52 = some i ∧ i.zero = some z ∧ i.size = 2 ∧ i.bytes = 32 ∧ z.cells.size = 2 := info_of (by kernel_rfl)
theorem lies52 : liesAt Tryz.prog Tryz.prog.depth 54 (4 / Tryz.prog.cellsOf 54) 1 52 1 = true := by kernel_rfl

set_option maxHeartbeats 1000000 in
theorem copyCheck_nil (w : World) (b : Nat) (cs : Array Value) (fr : Nat × Nat) (hb : w.heap[b]? = some (.cells cs 54 fr)) (h4 : cs.size = 4) (h1 : w.cell? ⟨b, 1, none⟩ = some (.pointer none)) (hf : w.frozen? ⟨b, 1, none⟩ = false) :
    Calls Tryz.prog 63 #[.pointer (some ⟨b, 1, none⟩)] w fun e w' => e = .returned (.tuple #[]) ∧ w' = w.setCell ⟨b, 1, none⟩ (.pointer (some ⟨b, 1, none⟩)) := by
  obtain ⟨i, z, hi, _, hsz, _⟩ := info52
  have hsh : w.shape? b = some (54, 4) := by simp [World.shape?, hb, h4]
  have c1 : (convert 50 128 (.pointer (some ⟨b, 1, none⟩))).run Tryz.prog w = .ok (.pointer (some ⟨b, 1, none⟩)) w := Lib.run_to_unsafe w ⟨b, 1, none⟩ Tryz.underlying50 Tryz.underlying128 hi (by omega) hsh (by show (1 : Nat) < 4; decide)
  have c2 : (convert 128 50 (.pointer (some ⟨b, 1, none⟩))).run Tryz.prog w = .ok (.pointer (some ⟨b, 1, none⟩)) w := Lib.run_from_unsafe w ⟨b, 1, none⟩ Tryz.underlying128 Tryz.underlying50 hi hsh lies52
  have c3 : (callFunc 100 #[.pointer (some ⟨b, 1, none⟩)]).run Tryz.prog w = .ok (.value (.pointer (some ⟨b, 1, none⟩))) w := by
    rw [run_callFunc_extern Tryz.func100 (by kernel_rfl) (by kernel_rfl) (by kernel_rfl) (e := Extern.AbiNoEscape.same) (by kernel_rfl), Lib.run_noEscape]
    rfl
  clear hsh hi hsz hb
  go_enter Tryz.func63, Tryz.ntmps63
  go_wp2
  go_end0
  exact ⟨rfl, rfl⟩

set_option maxHeartbeats 1000000 in
theorem copyCheck_set (w : World) (b : Nat) (h1 : w.cell? ⟨b, 1, none⟩ = some (.pointer (some ⟨b, 1, none⟩))) :
    Calls Tryz.prog 63 #[.pointer (some ⟨b, 1, none⟩)] w fun e w' => e = .returned (.tuple #[]) ∧ w' = w := by
  obtain ⟨i, z, hi, _, hsz, _⟩ := info52
  have hq := Lib.run_neq_ptr_same w ⟨b, 1, none⟩ Tryz.underlying50 hi
  go_enter Tryz.func63, Tryz.ntmps63
  go_wp2
  go_end0
  exact ⟨rfl, rfl⟩

set_option maxHeartbeats 1000000 in
theorem len_any (w : World) (b n c : Nat) (A : Option Addr) (h2 : w.cell? ⟨b, 2, none⟩ = some (.slice A n c)) : Calls Tryz.prog 64 #[.pointer (some ⟨b, 1, none⟩)] w fun e w' => e = .returned (.int .i64 n) ∧ w' = w := by
  go_enter Tryz.func64, Tryz.ntmps64
  go_wp2
  go_ret
  exact ⟨rfl, rfl⟩

set_option maxHeartbeats 1000000 in
theorem reset_any (w : World) (b : Nat) (u v : Value) (h1 : w.cell? ⟨b, 1, none⟩ = some u) (h2 : w.cell? ⟨b, 2, none⟩ = some v) (f1 : w.frozen? ⟨b, 1, none⟩ = false) (f2 : w.frozen? ⟨b, 2, none⟩ = false) :
    Calls Tryz.prog 65 #[.pointer (some ⟨b, 1, none⟩)] w fun e w' => e = .returned (.tuple #[]) ∧ w' = (w.setCell ⟨b, 1, none⟩ (.pointer none)).setCell ⟨b, 2, none⟩ (.slice none 0 0) := by
  go_enter Tryz.func65, Tryz.ntmps65
  go_wp2
  go_end0
  exact ⟨rfl, rfl⟩

/-- The address a Builder bears: none, or its own. -/
def okA (b : Nat) (v : Value) : Prop := v = .pointer none ∨ v = .pointer (some ⟨b, 1, none⟩)

theorem RI.addr {w : World} {base b : Nat} {s : ByteArray} {v1 tv : Value} {bs : List UInt8} {lv : Value} {nds : List Nd} {vs : List Value} (h : RI w base b 54 s v1 tv bs lv nds vs) (v : Value) : RI (w.setCell ⟨b, 1, none⟩ v) base b 54 s v tv bs lv nds vs := by
  have hb := h.blk
  have far : ∀ {k : Nat} {o : Obj}, w.heap[k]? = some o → k ≠ b → (w.setCell ⟨b, 1, none⟩ v).heap[k]? = some o := fun {k o} hk hkb => by rw [heap_other (by exact hkb)]; exact hk
  have own : ∀ {e size u n xs}, w.ownsRow base e size u n xs → (∀ k, u.ownBlock = some k → k ≠ b) → (w.setCell ⟨b, 1, none⟩ v).ownsRow base e size u n xs := by
    rintro e size u n xs ⟨h1, h2⟩ hu
    refine ⟨h1, ?_⟩
    rcases h2 with h2 | ⟨g, cap, cur, rfl, k2, k3, k4⟩
    · exact .inl h2
    · exact .inr ⟨g, cap, cur, rfl, k2, far k3 (hu g rfl), k4⟩
  refine ⟨heap_here hb, h.hb, own h.txt (fun k hk => (h.tb k hk).1), own h.out h.lb, h.len, fun i nd u hi hu => ?_, h.tb, h.lb, h.vb, h.tnil⟩
  rcases h.sub i nd u hi hu with h2 | ⟨g, k1, rfl, k3, k4⟩
  · exact .inl h2
  · exact .inr ⟨g, k1, rfl, k3, far k4 (h.vb _ (List.mem_of_getElem? hu) g rfl).1⟩

theorem copyCheck_any (w : World) (base b : Nat) (s : ByteArray) (v1 tv : Value) (bs : List UInt8) (lv : Value) (nds : List Nd) (vs : List Value) (R : RI w base b 54 s v1 tv bs lv nds vs) (ha : okA b v1) :
    Calls Tryz.prog 63 #[.pointer (some ⟨b, 1, none⟩)] w fun e w' => e = .returned (.tuple #[]) ∧ RI w' base b 54 s (.pointer (some ⟨b, 1, none⟩)) tv bs lv nds vs ∧ Fr w w' b tv lv tv lv := by
  obtain ⟨x0, x1, x2, x3, xf⟩ := R.cell
  rcases ha with rfl | rfl
  · refine (copyCheck_nil w b _ _ R.blk rfl x1 (xf 1)).mono ?_
    rintro e w' ⟨rfl, rfl⟩
    refine ⟨rfl, R.addr _, ?_⟩
    have r := setCell_rest w ⟨b, 1, none⟩ (.pointer (some ⟨b, 1, none⟩))
    exact ⟨r.os, r.tape, r.output, Nat.le_of_eq r.size.symm, fun k _ h1 _ _ => heap_other (by exact h1), fun _ h => .inl h, fun _ h => .inl h⟩
  · refine (copyCheck_set w b x1).mono ?_
    rintro e w' ⟨rfl, rfl⟩
    exact ⟨rfl, R, Fr.refl _ _ _ _⟩

/-- A text so far that is longer by some bytes. -/
theorem text_RI {w w1 : World} {base b : Nat} {e : TypeId} {s : ByteArray} {v1 tv : Value} {bs : List UInt8} {lv : Value} {nds : List Nd} {vs : List Value} {g cap : Nat} {more : List UInt8} (R : RI w base b e s v1 tv bs lv nds vs)
    (hown : w1.ownsRow base 5 1 (.slice (some ⟨g, 0, none⟩) (bs.length + more.length) cap) (bs.length + more.length) (byteCells bs ++ byteCells more)) (hgrow : w.grownBy w1 tv.ownBlock) (hat : tv.ownBlock = some g ∨ w.heap.size ≤ g) (hm : more ≠ []) :
    RI (w1.setCell ⟨b, 2, none⟩ (.slice (some ⟨g, 0, none⟩) (bs.length + more.length) cap)) base b e s v1 (.slice (some ⟨g, 0, none⟩) (bs.length + more.length) cap) (bs ++ more) lv nds vs ∧
      Fr w (w1.setCell ⟨b, 2, none⟩ (.slice (some ⟨g, 0, none⟩) (bs.length + more.length) cap)) b tv lv (.slice (some ⟨g, 0, none⟩) (bs.length + more.length) cap) lv := by
  have hbs : b < w.heap.size := (Array.getElem?_eq_some_iff.1 R.blk).1
  have hgb : g ≠ b := by
    rcases hat with h | h
    · exact (R.tb _ h).1
    · omega
  have keep : ∀ {k : Nat} {o : Obj}, w.heap[k]? = some o → tv.ownBlock ≠ some k → w1.heap[k]? = some o ∧ k ≠ g := fun {k o} hk h2 => by
    have hks := (Array.getElem?_eq_some_iff.1 hk).1
    refine ⟨by rw [hgrow.block k hks (Ne.symm h2)]; exact hk, ?_⟩
    rintro rfl
    rcases hat with h | h
    · exact h2 h
    · omega
  have hblk := (keep R.blk (fun e => (R.tb b e).1 rfl)).1
  have far : ∀ {k : Nat} {o : Obj}, w.heap[k]? = some o → tv.ownBlock ≠ some k → k ≠ b → (w1.setCell ⟨b, 2, none⟩ (.slice (some ⟨g, 0, none⟩) (bs.length + more.length) cap)).heap[k]? = some o := fun {k o} hk h2 h3 => by
    rw [heap_other (by exact h3)]; exact (keep hk h2).1
  have lg : ∀ k, lv.ownBlock = some k → k ≠ g ∧ tv.ownBlock ≠ some k := fun k hk => by
    have h2 : tv.ownBlock ≠ some k := fun h => (R.tb k h).2 hk
    refine ⟨?_, h2⟩
    rintro rfl
    rcases hat with h | h
    · exact h2 h
    · have := (R.out.lt k hk).2; omega
  refine ⟨⟨heap_here hblk, R.hb, ?_, ?_, R.len, fun i nd v hi hv => ?_, fun k hk => ?_, R.lb, fun v hv k hk => ?_, fun h => ?_⟩, ?_⟩
  · obtain ⟨h1, h2⟩ := hown
    refine ⟨by simp [byteCells], ?_⟩
    rcases h2 with ⟨h2, _⟩ | ⟨g', cap', cur, e1, e2, e3, e4, e5, e6, e7⟩
    · cases h2
    · cases e1
      exact .inr ⟨g, cap, cur, by simp, e2, by rw [heap_other (by exact hgb)]; exact e3, by simpa using e4, e5, e6, by simpa [byteCells] using e7⟩
  · obtain ⟨h1, h2⟩ := R.out
    refine ⟨h1, ?_⟩
    rcases h2 with h2 | ⟨g', cap', cur, rfl, k2, k3, k4⟩
    · exact .inl h2
    · exact .inr ⟨g', cap', cur, rfl, k2, far k3 (lg g' rfl).2 (R.lb g' rfl), k4⟩
  · rcases R.sub i nd v hi hv with h2 | ⟨g', k1, rfl, k3, k4⟩
    · exact .inl h2
    · obtain ⟨m1, m2, m3⟩ := R.vb _ (List.mem_of_getElem? hv) g' rfl
      exact .inr ⟨g', k1, rfl, k3, far k4 m2 m1⟩
  · have hk' : g = k := by simpa [Value.ownBlock] using hk
    subst hk'
    exact ⟨hgb, fun h => (lg g h).1 rfl⟩
  · obtain ⟨m1, m2, m3⟩ := R.vb v hv k hk
    refine ⟨m1, fun h => ?_, m3⟩
    have hk' : g = k := by simpa [Value.ownBlock] using h
    subst hk'
    rcases hat with h | h
    · exact m2 h
    · obtain ⟨i, hi⟩ := List.getElem?_of_mem hv
      have hil : i < nds.length := by rw [← R.len]; exact (List.getElem?_eq_some_iff.1 hi).1
      rcases R.sub i _ v (List.getElem?_eq_getElem hil) hi with ⟨_, rfl⟩ | ⟨g', _, rfl, _, k4⟩
      · cases hk
      · have hgg : g' = g := by simpa [Value.ownBlock] using hk
        subst hgg
        have := (Array.getElem?_eq_some_iff.1 k4).1; omega
  · simp [hm] at h
  · have r := setCell_rest w1 ⟨b, 2, none⟩ (.slice (some ⟨g, 0, none⟩) (bs.length + more.length) cap)
    refine ⟨r.os.trans hgrow.os, r.tape.trans hgrow.tape, r.output.trans hgrow.output, by rw [r.size]; exact hgrow.size, fun k hk h1 h2 h3 => ?_, fun k hk => ?_, fun _ h => .inl h⟩
    · rw [heap_other (by exact h1), hgrow.block k hk (Ne.symm h2)]
    · have hk' : g = k := by simpa [Value.ownBlock] using hk
      subst hk'
      exact hat
end Go.Proofs.YtmifmmpbmcfmpaaGreatDoor.IW
