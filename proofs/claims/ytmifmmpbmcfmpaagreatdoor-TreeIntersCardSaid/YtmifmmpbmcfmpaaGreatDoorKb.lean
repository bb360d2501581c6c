/-
  The reference's reader: its loop.
-/
import Derived.Test.YtmifmmpbmcfmpaaGreatDoorKa
set_option linter.unusedVariables false
set_option linter.unusedSimpArgs false
namespace Go.Proofs.YtmifmmpbmcfmpaaGreatDoor.IW
open Go Go.RowKit Go.Proofs.YtmifmmpbmcfmpaaGreatDoor.MkW
set_option maxRecDepth 100000

theorem Fr.below {w w' : World} {base b : Nat} {e : TypeId} {s : ByteArray} {v1 tv tv' : Value} {bs : List UInt8} {lv lv' : Value} {nds : List Nd} {vs : List Value} (R : RI w base b e s v1 tv bs lv nds vs) (F : Fr w w' b tv lv tv' lv') : Below base w w' := by
  have hb := (Array.getElem?_eq_some_iff.1 R.blk).1
  refine ⟨F.os, F.tape, F.output, F.size, fun k hk => F.block k (by have := R.hb; omega) (by have := R.hb; omega) (fun h => ?_) (fun h => ?_)⟩
  · have := (R.txt.lt k h).1; omega
  · have := (R.out.lt k h).1; omega
theorem start_RI (w : World) (e : TypeId) (raw : ByteArray) (v1 : Value) : RI (w.alloc (.cells #[.string raw, v1, .slice none 0 0, .slice none 0 0] e)) w.heap.size w.heap.size e raw v1 (.slice none 0 0) [] (.slice none 0 0) [] [] :=
  ⟨heap_alloc_new w _, Nat.le_refl _, World.ownsRow_nil _ _ _ _, World.ownsRow_nil _ _ _ _, rfl, fun i nd v h => by simp at h, (fun k h => by cases h), (fun k h => by cases h), (fun v h => by simp at h), fun _ => rfl⟩

theorem step_esc {raw : ByteArray} {p : Nat} {bs : List UInt8} {nds : List Nd} {u : ByteArray} (h : bt raw p = 92) (hu : raw.extract (p + 1) raw.size = u) : step raw p (bs, nds) = (p + 1 + (escOf u).1, (bs ++ (escOf u).2, nds)) := by
  unfold step; rw [if_pos h, hu]
theorem step_scalar {raw : ByteArray} {p : Nat} {bs : List UInt8} {nds : List Nd} {u : ByteArray} (h : bt raw p = 36) (hu : raw.extract (p + 1) raw.size = u) (hj : (scalarOf u).1 ≠ 0) : step raw p (bs, nds) = (p + 1 + (scalarOf u).1, ([], fl bs nds ++ [(scalarOf u).2])) := by
  unfold step; rw [if_neg (by rw [h]; decide), hu, if_pos ⟨h, hj⟩]
theorem step_array {raw : ByteArray} {p : Nat} {bs : List UInt8} {nds : List Nd} {u : ByteArray} (h : bt raw p = 64) (hu : raw.extract (p + 1) raw.size = u) (hj : (arrayOf u).1 ≠ 0) : step raw p (bs, nds) = (p + 1 + (arrayOf u).1, ([], fl bs nds ++ [(arrayOf u).2])) := by
  unfold step; rw [if_neg (by rw [h]; decide), hu, if_neg (by rw [h]; exact fun h => absurd h.1 (by decide)), if_pos ⟨h, hj⟩]
theorem step_byte {raw : ByteArray} {p : Nat} {bs : List UInt8} {nds : List Nd} {u : ByteArray} (h : bt raw p ≠ 92) (hu : raw.extract (p + 1) raw.size = u) (h1 : ¬ (bt raw p = 36 ∧ (scalarOf u).1 ≠ 0)) (h2 : ¬ (bt raw p = 64 ∧ (arrayOf u).1 ≠ 0)) : step raw p (bs, nds) = (p + 1, (bs ++ [u8 (bt raw p)], nds)) := by
  unfold step; rw [if_neg h, hu, if_neg h1, if_neg h2]

/-! ### What comes out -/
def topOp (raw : ByteArray) : Int := if (readOf raw).2 = [] then 2 else 3
def topS (raw : ByteArray) : ByteArray := if (readOf raw).2 = [] then ⟨(readOf raw).1.toArray⟩ else ⟨#[]⟩
def topL (raw : ByteArray) : List Nd := if (readOf raw).2 = [] then [] else fl (readOf raw).1 (readOf raw).2
/-- A list of nodes in memory. -/
def Lst (w : World) (base : Nat) (v : Value) (l : List Nd) : Prop := ∃ vs, w.ownsRow base 25 5 v l.length (ndCells l vs) ∧ vs.length = l.length ∧ ∀ (i : Nat) (nd : Nd) (u : Value), l[i]? = some nd → vs[i]? = some u → Sub w base u nd.l
theorem Lst.congr {w w' : World} {base : Nat} {v : Value} {l : List Nd} (h : Lst w base v l) (hh : ∀ k, k < w.heap.size → w'.heap[k]? = w.heap[k]?) : Lst w' base v l := by
  obtain ⟨vs, h1, h2, h3⟩ := h
  have lt : ∀ {k : Nat} {o : Obj}, w.heap[k]? = some o → w'.heap[k]? = some o := fun {k o} hk => by rw [hh k (Array.getElem?_eq_some_iff.1 hk).1]; exact hk
  refine ⟨vs, ?_, h2, fun i nd u hi hu => ?_⟩
  · obtain ⟨k1, k2⟩ := h1
    refine ⟨k1, ?_⟩
    rcases k2 with k2 | ⟨g, cap, cur, e1, e2, e3, e4⟩
    · exact .inl k2
    · exact .inr ⟨g, cap, cur, e1, e2, lt e3, e4⟩
  · rcases h3 i nd u hi hu with h | ⟨g, k1, k2, k3, k4⟩
    · exact .inl h
    · exact .inr ⟨g, k1, k2, k3, lt k4⟩
theorem Lst.ge {w w' : World} {base base' : Nat} {v : Value} {l : List Nd} (h : Lst w base v l) (hb : base' ≤ base) (hh : ∀ k, base ≤ k → w'.heap[k]? = w.heap[k]?) : Lst w' base' v l := by
  obtain ⟨vs, h1, h2, h3⟩ := h
  refine ⟨vs, ?_, h2, fun i nd u hi hu => ?_⟩
  · obtain ⟨k1, k2⟩ := h1
    refine ⟨k1, ?_⟩
    rcases k2 with k2 | ⟨g, cap, cur, e1, e2, e3, e4⟩
    · exact .inl k2
    · exact .inr ⟨g, cap, cur, e1, by omega, by rw [hh g e2]; exact e3, e4⟩
  · rcases h3 i nd u hi hu with h | ⟨g, k1, k2, k3, k4⟩
    · exact .inl h
    · exact .inr ⟨g, k1, k2, by omega, by rw [hh g k3]; exact k4⟩
theorem Lst.nil (w : World) (base : Nat) : Lst w base (.slice none 0 0) [] := ⟨[], World.ownsRow_nil _ _ _ _, rfl, fun i nd u h => by simp at h⟩
theorem RI.lst {w : World} {base b : Nat} {e : TypeId} {s : ByteArray} {v1 tv : Value} {bs : List UInt8} {lv : Value} {nds : List Nd} {vs : List Value} (R : RI w base b e s v1 tv bs lv nds vs) : Lst w base lv nds := ⟨vs, R.out, R.len, R.sub⟩
theorem top_nil {raw : ByteArray} (h : (readOf raw).2 = []) : topOp raw = 2 ∧ topS raw = ⟨(readOf raw).1.toArray⟩ ∧ topL raw = [] := by
  unfold topOp topS topL; rw [if_pos h, if_pos h, if_pos h]; exact ⟨rfl, rfl, rfl⟩
theorem top_some {raw : ByteArray} (h : (readOf raw).2 ≠ []) : topOp raw = 3 ∧ topS raw = ⟨#[]⟩ ∧ topL raw = fl (readOf raw).1 (readOf raw).2 := by
  unfold topOp topS topL; rw [if_neg h, if_neg h, if_neg h]; exact ⟨rfl, rfl, rfl⟩
end Go.Proofs.YtmifmmpbmcfmpaaGreatDoor.IW
