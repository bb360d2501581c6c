/-
  The reader's state from step to step.
-/
import Derived.Test.YtmifmmpbmcfmpaaGreatDoorJm
set_option linter.unusedVariables false
set_option linter.unusedSimpArgs false
namespace Go.Proofs.YtmifmmpbmcfmpaaGreatDoor.IW
open Go Go.RowKit
set_option maxRecDepth 100000

theorem RI.set1 {w : World} {base b : Nat} {e : TypeId} {s : ByteArray} {v1 tv : Value} {bs : List UInt8} {lv : Value} {nds : List Nd} {vs : List Value} (h : RI w base b e s v1 tv bs lv nds vs) (v : Value) : RI (w.setCell ⟨b, 1, none⟩ v) base b e s v tv bs lv nds vs := by
  have hb := h.blk
  have far : ∀ {k : Nat} {o : Obj}, w.heap[k]? = some o → k ≠ b → (w.setCell ⟨b, 1, none⟩ v).heap[k]? = some o := fun {k o} hk hkb => by rw [heap_other (by exact hkb)]; exact hk
  have own : ∀ {e size u n xs}, w.ownsRow base e size u n xs → (∀ k, u.ownBlock = some k → k ≠ b) → (w.setCell ⟨b, 1, none⟩ v).ownsRow base e size u n xs := by
    rintro e size u n xs ⟨h1, h2⟩ hu
    refine ⟨h1, ?_⟩
    rcases h2 with h2 | ⟨g, cap, cur, rfl, k2, k3, k4⟩
    · exact .inl h2
    · exact .inr ⟨g, cap, cur, rfl, k2, far k3 (hu g rfl), k4⟩
  refine ⟨heap_here hb, h.hb, own h.txt (fun k hk => (h.tb k hk).1), own h.out h.lb, h.len, fun i nd u hi hu => ?_, h.tb, h.lb, h.vb, h.tnil⟩
  rcases h.sub i nd u hi hu with h2 | ⟨g, k1, rfl, k3, k4⟩
  · exact .inl h2
  · exact .inr ⟨g, k1, rfl, k3, far k4 (h.vb _ (List.mem_of_getElem? hu) g rfl).1⟩

theorem setCell_same {w : World} {b o : Nat} {c : Array Value} {e : TypeId} {fr : Nat × Nat} {v : Value} (h : w.heap[b]? = some (.cells c e fr)) (hv : c[o]? = some v) : w.setCell ⟨b, o, none⟩ v = w := by
  have hc : c.setIfInBounds o v = c := by
    apply Array.ext_getElem?
    intro i
    rw [Array.getElem?_setIfInBounds]
    split
    · rename_i e; subst e
      split
      · exact hv.symm
      · rename_i h2; rw [Array.getElem?_eq_none (by omega)] at hv; cases hv
    · rfl
  have hh : (w.setCell ⟨b, o, none⟩ v).heap = w.heap := by
    apply Array.ext_getElem?
    intro i
    by_cases hi : i = b
    · subst hi; rw [heap_here h, hc, h]
    · exact heap_other (by exact hi)
  unfold World.setCell at hh ⊢
  simp only at hh ⊢
  rw [hh]
theorem storeNd_same {W : World} {g : Nat} {x : Int} {t : ByteArray} {n : Int} {v4 : Value} (h : W.heap[g]? = some (.cells #[.int .i64 x, .string t, .string ⟨#[]⟩, .int .i64 n, v4] 25 (0, 0))) :
    (((((W.setCell ⟨g, 0, none⟩ (.int .i64 x)).setCell ⟨g, 1, none⟩ (.string t)).setCell ⟨g, 2, none⟩ (.string ⟨#[]⟩)).setCell ⟨g, 3, none⟩ (.int .i64 n)).setCell ⟨g, 4, none⟩ v4) = W := by
  rw [setCell_same h rfl, setCell_same h rfl, setCell_same h rfl, setCell_same h rfl, setCell_same h rfl]

/-- The state now, and what is as it was at first. -/
structure Rs (w0 w : World) (base b : Nat) (e : TypeId) (s : ByteArray) (v1 tv : Value) (bs : List UInt8) (lv : Value) (nds : List Nd) (vs : List Value) : Prop where
  R : RI w base b e s v1 tv bs lv nds vs
  F : Fr w0 w b tv lv tv lv

section
variable {w0 w w' : World} {base b : Nat} {e : TypeId} {s : ByteArray} {v1 tv : Value} {bs : List UInt8} {lv : Value} {nds : List Nd} {vs : List Value}
theorem Rs.refl (h : RI w base b e s v1 tv bs lv nds vs) : Rs w w base b e s v1 tv bs lv nds vs := ⟨h, Fr.refl _ _ _ _⟩
theorem Rs.set (h : Rs w0 w base b e s v1 tv bs lv nds vs) (v : Value) : Rs w0 (w.setCell ⟨b, 1, none⟩ v) base b e s v tv bs lv nds vs := by
  refine ⟨h.R.set1 v, h.F.trans ?_⟩
  have hr := setCell_rest w ⟨b, 1, none⟩ v
  exact ⟨hr.os, hr.tape, hr.output, Nat.le_of_eq hr.size.symm, fun k hk h1 h2 h3 => heap_other (by exact h1), fun _ h => .inl h, fun _ h => .inl h⟩
theorem Rs.below (h : Rs w0 w base b e s v1 tv bs lv nds vs) (hB : Below w.heap.size w w') : Rs w0 w' base b e s v1 tv bs lv nds vs :=
  ⟨h.R.congr fun k hk => hB.block k hk, h.F.trans ⟨hB.os, hB.tape, hB.output, hB.size, fun k hk _ _ _ => hB.block k hk, fun _ h => .inl h, fun _ h => .inl h⟩⟩
theorem Rs.drewN (h : Rs w0 w base b e s v1 tv bs lv nds vs) (n : Nat) : Rs w0 (w.drewN n) base b e s v1 tv bs lv nds vs :=
  ⟨h.R.congr fun _ _ => rfl, h.F.trans ⟨rfl, rfl, rfl, Nat.le_refl _, fun _ _ _ _ _ => rfl, fun _ h => .inl h, fun _ h => .inl h⟩⟩
theorem Rs.alloc (h : Rs w0 w base b e s v1 tv bs lv nds vs) (o : Obj) : Rs w0 (w.alloc o) base b e s v1 tv bs lv nds vs := h.below (below_alloc w o)
end

def pairCells (x y : Lf) : Array Value := #[.int .i64 x.op, .string x.s, .string ⟨#[]⟩, .int .i64 x.n, .slice none 0 0, .int .i64 y.op, .string y.s, .string ⟨#[]⟩, .int .i64 y.n, .slice none 0 0]
theorem pair_sub {w : World} {base b : Nat} {e : TypeId} {s : ByteArray} {v1 tv : Value} {bs : List UInt8} {lv : Value} {nds : List Nd} {vs : List Value} (R : RI w base b e s v1 tv bs lv nds vs) (x y : Lf) :
    Sub (w.alloc (.cells (pairCells x y) 25)) base (.slice (some ⟨w.heap.size, 0, none⟩) 2 2) [x, y] ∧ ∀ k, (Value.slice (some ⟨w.heap.size, 0, none⟩) 2 2).ownBlock = some k → k ≠ b ∧ tv.ownBlock ≠ some k ∧ lv.ownBlock ≠ some k := by
  have hbs : b < w.heap.size := (Array.getElem?_eq_some_iff.1 R.blk).1
  refine ⟨.inr ⟨w.heap.size, by simp, rfl, by have := R.hb; omega, heap_alloc_new w _⟩, fun k hk => ?_⟩
  have hk' : w.heap.size = k := by simpa [Value.ownBlock] using hk
  subst hk'
  exact ⟨by omega, fun e => by have := (R.txt.lt _ e).2; omega, fun e => by have := (R.out.lt _ e).2; omega⟩

/-- A node with two leaves is put. -/
theorem put_pair (w0 w : World) (base b : Nat) (s : ByteArray) (v1 tv lv : Value) (bs : List UInt8) (nds : List Nd) (vs : List Value) (S : Rs w0 w base b 48 s v1 tv bs lv nds vs) (hlen : nds.length ≤ 90000) (op : Int) (x y : Lf) :
    Calls Tryz.prog 52 #[.pointer (some ⟨b, 0, none⟩), .agg #[.int .i64 op, .string ⟨#[]⟩, .string ⟨#[]⟩, .int .i64 0, .slice (some ⟨w.heap.size, 0, none⟩) 2 2]] (w.alloc (.cells (pairCells x y) 25)) fun e w' => e = .returned (.tuple #[]) ∧ ∃ lv' vs', RI w' base b 48 s v1 (.slice none 0 0) [] lv' (fl bs nds ++ [⟨op, ⟨#[]⟩, 0, [x, y]⟩]) vs' ∧ Fr w0 w' b tv lv (.slice none 0 0) lv' := by
  obtain ⟨h1, h2⟩ := pair_sub S.R x y
  refine (put_any _ base b s v1 tv lv bs nds vs (S.alloc _).R hlen ⟨op, ⟨#[]⟩, 0, [x, y]⟩ _ h1 h2).mono ?_
  rintro e w' ⟨rfl, lv', vs', hR, hF⟩
  exact ⟨rfl, lv', vs', hR, (S.alloc _).F.trans hF⟩
/-- A node without leaves is put. -/
theorem put_leaf (w0 w : World) (base b : Nat) (s : ByteArray) (v1 tv lv : Value) (bs : List UInt8) (nds : List Nd) (vs : List Value) (S : Rs w0 w base b 48 s v1 tv bs lv nds vs) (hlen : nds.length ≤ 90000) (op : Int) (t : ByteArray) :
    Calls Tryz.prog 52 #[.pointer (some ⟨b, 0, none⟩), .agg #[.int .i64 op, .string t, .string ⟨#[]⟩, .int .i64 0, .slice none 0 0]] w fun e w' => e = .returned (.tuple #[]) ∧ ∃ lv' vs', RI w' base b 48 s v1 (.slice none 0 0) [] lv' (fl bs nds ++ [⟨op, t, 0, []⟩]) vs' ∧ Fr w0 w' b tv lv (.slice none 0 0) lv' := by
  refine (put_any _ base b s v1 tv lv bs nds vs S.R hlen ⟨op, t, 0, []⟩ _ (.inl ⟨rfl, rfl⟩) (fun k hk => by cases hk)).mono ?_
  rintro e w' ⟨rfl, lv', vs', hR, hF⟩
  exact ⟨rfl, lv', vs', hR, S.F.trans hF⟩
theorem part_pair (w0 w : World) (base b : Nat) (s : ByteArray) (v1 tv lv : Value) (bs : List UInt8) (nds : List Nd) (vs : List Value) (S : Rs w0 w base b 54 s v1 tv bs lv nds vs) (ha : okA b v1) (hlb : bs.length ≤ 100000) (hlen : nds.length ≤ 90000) (op : Int) (x y : Lf) :
    Calls Tryz.prog 61 #[.pointer (some ⟨b, 0, none⟩), .agg #[.int .i64 op, .string ⟨#[]⟩, .string ⟨#[]⟩, .int .i64 0, .slice (some ⟨w.heap.size, 0, none⟩) 2 2]] (w.alloc (.cells (pairCells x y) 25)) fun e w' => e = .returned (.tuple #[]) ∧ ∃ u1 lv' vs', okA b u1 ∧ RI w' base b 54 s u1 (.slice none 0 0) [] lv' (fl bs nds ++ [⟨op, ⟨#[]⟩, 0, [x, y]⟩]) vs' ∧ Fr w0 w' b tv lv (.slice none 0 0) lv' := by
  obtain ⟨h1, h2⟩ := pair_sub S.R x y
  refine (part_any _ base b s v1 tv lv bs nds vs (S.alloc _).R ha hlb hlen ⟨op, ⟨#[]⟩, 0, [x, y]⟩ _ h1 h2).mono ?_
  rintro e w' ⟨rfl, u1, lv', vs', h0, hR, hF⟩
  exact ⟨rfl, u1, lv', vs', h0, hR, (S.alloc _).F.trans hF⟩
theorem part_leaf (w0 w : World) (base b : Nat) (s : ByteArray) (v1 tv lv : Value) (bs : List UInt8) (nds : List Nd) (vs : List Value) (S : Rs w0 w base b 54 s v1 tv bs lv nds vs) (ha : okA b v1) (hlb : bs.length ≤ 100000) (hlen : nds.length ≤ 90000) (op : Int) (t : ByteArray) :
    Calls Tryz.prog 61 #[.pointer (some ⟨b, 0, none⟩), .agg #[.int .i64 op, .string t, .string ⟨#[]⟩, .int .i64 0, .slice none 0 0]] w fun e w' => e = .returned (.tuple #[]) ∧ ∃ u1 lv' vs', okA b u1 ∧ RI w' base b 54 s u1 (.slice none 0 0) [] lv' (fl bs nds ++ [⟨op, t, 0, []⟩]) vs' ∧ Fr w0 w' b tv lv (.slice none 0 0) lv' := by
  refine (part_any _ base b s v1 tv lv bs nds vs S.R ha hlb hlen ⟨op, t, 0, []⟩ _ (.inl ⟨rfl, rfl⟩) (fun k hk => by cases hk)).mono ?_
  rintro e w' ⟨rfl, u1, lv', vs', h0, hR, hF⟩
  exact ⟨rfl, u1, lv', vs', h0, hR, S.F.trans hF⟩

/-! ### Names: a word, or a word in braces -/
theorem word_braces {s : ByteArray} (h : wordN s ≠ 0) : braceN s = 0 ∧ braceK s = 0 := by
  have h1 := brace_no (s := s) (by
    rintro ⟨h0, h2, _⟩
    apply h
    have h3 : wordLen s = 0 := (at_zero s).stop h0 (by rw [h2]; rfl) (fun h => h.1 rfl)
    unfold wordN; rw [h3]; rfl)
  exact ⟨h1.1, h1.2.1⟩
end Go.Proofs.YtmifmmpbmcfmpaaGreatDoor.IW
