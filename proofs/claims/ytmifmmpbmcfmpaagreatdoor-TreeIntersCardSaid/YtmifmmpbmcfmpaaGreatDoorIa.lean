/-
  The two readers' states in memory: texts and nodes so far.
-/
import Derived.Test.YtmifmmpbmcfmpaaGreatDoorProg
import Derived.Below
import Derived.Deep.Draws
import Derived.OwnWalk
import Derived.Tactics
import Derived.Laws.Slices
import Derived.Laws.AppendOwn
import Derived.WalkKit
import Derived.KernelRfl
import Derived.RowKit3
import Derived.Deep.LoopGhost
import Derived.Deep.QuietTactic
import Derived.BigQuiet
import Derived.WideLaws
import Derived.Deep.DeepCutAuto
import Derived.Deep.CutBlock
import Derived.Deep.RegionHeld3
import Derived.RowKit
import Derived.StillTactics
import Derived.StillTailTactics
import Derived.RegionTactic
import Derived.Deep.RegionLaw
import Derived.Test.YtmifmmpbmcfmpaaGreatDoorMk
import Derived.Deep.AppendLies
import Derived.Lib.UnsafeStr
import Derived.Lib.ConvBytes
set_option linter.unusedVariables false
set_option linter.unusedSimpArgs false
namespace Go.Proofs.YtmifmmpbmcfmpaaGreatDoor.IW
open Go Go.RowKit Go.Proofs.YtmifmmpbmcfmpaaGreatDoor.MkW
set_option maxRecDepth 100000

structure Aside0 (p : Prop) : Prop where mk :: (out : p)

/-- A leaf of a node: its kind, its text, its number. -/
structure Lf where
  op : Int
  s : ByteArray
  n : Int
/-- A node: leaves below it. -/
structure Nd where
  op : Int
  s : ByteArray
  n : Int
  l : List Lf

def cells5 (op : Int) (s : ByteArray) (n : Int) (v : Value) : List Value := [.int .i64 op, .string s, .string ⟨#[]⟩, .int .i64 n, v]
def Lf.cells (x : Lf) : List Value := cells5 x.op x.s x.n (.slice none 0 0)
def ndCells : List Nd → List Value → List Value
  | nd :: nds, v :: vs => cells5 nd.op nd.s nd.n v ++ ndCells nds vs
  | _, _ => []
def byteCells (l : List UInt8) : List Value := l.map fun b => Value.int .u8 b.toNat

/-- The leaves below a node, in a block of their own. -/
def Sub (w : World) (base : Nat) (v : Value) (l : List Lf) : Prop :=
  (l = [] ∧ v = .slice none 0 0) ∨ ∃ g, l ≠ [] ∧ v = .slice (some ⟨g, 0, none⟩) l.length l.length ∧ base ≤ g ∧ w.heap[g]? = some (.cells (l.flatMap Lf.cells).toArray 25 (0, 0))

structure RI (w : World) (base b : Nat) (e : TypeId) (s : ByteArray) (v1 tv : Value) (bs : List UInt8) (lv : Value) (nds : List Nd) (vs : List Value) : Prop where
  blk : w.heap[b]? = some (.cells #[.string s, v1, tv, lv] e (0, 0))
  hb : base ≤ b
  txt : w.ownsRow base 5 1 tv bs.length (byteCells bs)
  out : w.ownsRow base 25 5 lv nds.length (ndCells nds vs)
  len : vs.length = nds.length
  sub : ∀ (i : Nat) (nd : Nd) (v : Value), nds[i]? = some nd → vs[i]? = some v → Sub w base v nd.l
  tb : ∀ k, tv.ownBlock = some k → k ≠ b ∧ lv.ownBlock ≠ some k
  lb : ∀ k, lv.ownBlock = some k → k ≠ b
  vb : ∀ v ∈ vs, ∀ k, v.ownBlock = some k → k ≠ b ∧ tv.ownBlock ≠ some k ∧ lv.ownBlock ≠ some k
  tnil : bs = [] → tv = .slice none 0 0

theorem info_of {t sz by_ : Nat} (h : (match Tryz.prog.info? t with
    | some i => (Nat.beq i.size sz).and ((Nat.beq i.bytes by_).and (match i.zero with
      | some z => Nat.beq z.cells.size sz
      | none => false))
    | none => false) = true) : ∃ i z, Tryz.prog.info? t = some i ∧ i.zero = some z ∧ i.size = sz ∧ i.bytes = by_ ∧ z.cells.size = sz := by
  split at h
  · rename_i i hi
    simp only [Bool.and_eq_true] at h
    obtain ⟨h1, h2, h3⟩ := h
    split at h3
    · rename_i z hz
      exact ⟨i, z, hi, hz, Nat.eq_of_beq_eq_true h1, Nat.eq_of_beq_eq_true h2, Nat.eq_of_beq_eq_true h3⟩
    · cases h3
  · cases h
theorem info25 : ∃ i z, Tryz.prog.info? 25 = some i ∧ i.zero = some z ∧ i.size = 5 ∧ i.bytes = 72 ∧ z.cells.size = 5 := info_of (by kernel_rfl)
theorem info5 : ∃ i z, Tryz.prog.info? 5 = some i ∧ i.zero = some z ∧ i.size = 1 ∧ i.bytes = 1 ∧ z.cells.size = 1 := info_of (by kernel_rfl)

theorem RI.congr {w w' : World} {base b : Nat} {e : TypeId} {s : ByteArray} {v1 tv : Value} {bs : List UInt8} {lv : Value} {nds : List Nd} {vs : List Value} (h : RI w base b e s v1 tv bs lv nds vs)
    (hh : ∀ k, k < w.heap.size → w'.heap[k]? = w.heap[k]?) : RI w' base b e s v1 tv bs lv nds vs := by
  have lt : ∀ {k : Nat} {o : Obj}, w.heap[k]? = some o → w'.heap[k]? = some o := fun {k o} hk => by rw [hh k (Array.getElem?_eq_some_iff.1 hk).1]; exact hk
  have own : ∀ {e size v n xs}, w.ownsRow base e size v n xs → w'.ownsRow base e size v n xs := by
    rintro e size v n xs ⟨h1, h2⟩
    refine ⟨h1, ?_⟩
    rcases h2 with h2 | ⟨g, cap, cur, k1, k2, k3, k4⟩
    · exact .inl h2
    · exact .inr ⟨g, cap, cur, k1, k2, lt k3, k4⟩
  refine ⟨lt h.blk, h.hb, own h.txt, own h.out, h.len, fun i nd v hi hv => ?_, h.tb, h.lb, h.vb, h.tnil⟩
  rcases h.sub i nd v hi hv with h2 | ⟨g, k1, k2, k3, k4⟩
  · exact .inl h2
  · exact .inr ⟨g, k1, k2, k3, lt k4⟩
theorem RI.drew {w : World} {base b : Nat} {e : TypeId} {s : ByteArray} {v1 tv : Value} {bs : List UInt8} {lv : Value} {nds : List Nd} {vs : List Value} (h : RI w base b e s v1 tv bs lv nds vs) : RI w.drew base b e s v1 tv bs lv nds vs := h.congr fun _ _ => rfl
theorem RI.alloc {w : World} {base b : Nat} {e : TypeId} {s : ByteArray} {v1 tv : Value} {bs : List UInt8} {lv : Value} {nds : List Nd} {vs : List Value} (h : RI w base b e s v1 tv bs lv nds vs) (o : Obj) : RI (w.alloc o) base b e s v1 tv bs lv nds vs :=
  h.congr fun k hk => by
    show (w.heap.push o)[k]? = _
    rw [Array.getElem?_push, if_neg (by omega)]
theorem RI.cell {w : World} {base b : Nat} {e : TypeId} {s : ByteArray} {v1 tv : Value} {bs : List UInt8} {lv : Value} {nds : List Nd} {vs : List Value} (h : RI w base b e s v1 tv bs lv nds vs) :
    w.cell? ⟨b, 0, none⟩ = some (.string s) ∧ w.cell? ⟨b, 1, none⟩ = some v1 ∧ w.cell? ⟨b, 2, none⟩ = some tv ∧ w.cell? ⟨b, 3, none⟩ = some lv ∧ ∀ o, w.frozen? ⟨b, o, none⟩ = false := by
  have hb := h.blk
  refine ⟨?_, ?_, ?_, ?_, fun o => ?_⟩
  · simp only [World.cell?, hb]; rfl
  · simp only [World.cell?, hb]; rfl
  · simp only [World.cell?, hb]; rfl
  · simp only [World.cell?, hb]; rfl
  · simp only [World.frozen?, hb]; simp

def zeroNd : Array Value := #[.int .i64 0, .string ⟨#[]⟩, .string ⟨#[]⟩, .int .i64 0, .slice none 0 0]

theorem heap_other {w : World} {a : Addr} {v : Value} {k : Nat} (h : k ≠ a.block) : (w.setCell a v).heap[k]? = w.heap[k]? := by
  unfold World.setCell
  simp only
  rw [Array.getElem?_modify, if_neg (Ne.symm h)]
theorem heap_here {w : World} {b o : Nat} {v : Value} {c : Array Value} {e : TypeId} {f : Nat × Nat} (h : w.heap[b]? = some (.cells c e f)) : (w.setCell ⟨b, o, none⟩ v).heap[b]? = some (.cells (c.setIfInBounds o v) e f) := by
  unfold World.setCell
  simp only
  rw [Array.getElem?_modify, if_pos rfl, h]
  rfl

/-- A node written into five cells. -/
def storeNd (w : World) (g o op : Nat) (x : Int) (t : ByteArray) (n : Int) (v4 : Value) : World :=
  ((((w.setCell ⟨g, o, none⟩ (.int .i64 x)).setCell ⟨g, o + 1, none⟩ (.string t)).setCell ⟨g, o + 2, none⟩ (.string ⟨#[]⟩)).setCell ⟨g, o + 3, none⟩ (.int .i64 n)).setCell ⟨g, o + 4, none⟩ v4

theorem list_store (xs : List Value) (x0 x1 x2 x3 x4 : Value) (l : List Value) (h : l.take (xs.length + 5) = xs ++ zeroNd.toList) :
    (((((l.set xs.length x0).set (xs.length + 1) x1).set (xs.length + 2) x2).set (xs.length + 3) x3).set (xs.length + 4) x4).take (xs.length + 5) = xs ++ [x0, x1, x2, x3, x4] := by
  rw [List.take_set, List.take_set, List.take_set, List.take_set, List.take_set, h]
  have e : ∀ (j : Nat) (v : Value) (r : List Value), (xs ++ r).set (xs.length + j) v = xs ++ r.set j v := fun j v r => by
    have h0 : ¬ xs.length + j < xs.length := by omega
    simp only [List.set_append, if_neg h0, Nat.add_sub_cancel_left]
  have e0 : ∀ (v : Value) (r : List Value), (xs ++ r).set xs.length v = xs ++ r.set 0 v := fun v r => e 0 v r
  rw [e0, e, e, e, e]
  rfl

theorem ndCells_append : ∀ (nds : List Nd) (vs : List Value) (nd : Nd) (v : Value), vs.length = nds.length → ndCells (nds ++ [nd]) (vs ++ [v]) = ndCells nds vs ++ cells5 nd.op nd.s nd.n v
  | [], [], nd, v, _ => by simp [ndCells]
  | n :: nds, u :: vs, nd, v, h => by simp [ndCells, ndCells_append nds vs nd v (by simpa using h)]
  | [], _ :: _, _, _, h => by simp at h
  | _ :: _, [], _, _, h => by simp at h
theorem ndCells_length : ∀ (nds : List Nd) (vs : List Value), vs.length = nds.length → (ndCells nds vs).length = nds.length * 5
  | [], [], _ => rfl
  | n :: nds, u :: vs, h => by simp [ndCells, cells5, ndCells_length nds vs (by simpa using h)]; omega
  | [], _ :: _, h => by simp at h
  | _ :: _, [], h => by simp at h

/-- What there is but for the text so far. -/
structure RO (w : World) (base b : Nat) (lv : Value) (nds : List Nd) (vs : List Value) : Prop where
  hb : base ≤ b
  lt : b < w.heap.size
  len : vs.length = nds.length
  sub : ∀ (i : Nat) (nd : Nd) (v : Value), nds[i]? = some nd → vs[i]? = some v → Sub w base v nd.l
  lb : ∀ k, lv.ownBlock = some k → k ≠ b
  vb : ∀ v ∈ vs, ∀ k, v.ownBlock = some k → k ≠ b ∧ lv.ownBlock ≠ some k
theorem RI.ro {w : World} {base b : Nat} {e : TypeId} {s : ByteArray} {v1 tv : Value} {bs : List UInt8} {lv : Value} {nds : List Nd} {vs : List Value} (h : RI w base b e s v1 tv bs lv nds vs) : RO w base b lv nds vs :=
  ⟨h.hb, (Array.getElem?_eq_some_iff.1 h.blk).1, h.len, h.sub, h.lb, fun v hv k hk => ⟨(h.vb v hv k hk).1, (h.vb v hv k hk).2.2⟩⟩

/-- A node is appended, and the text so far is nothing. -/
theorem push_RI {w w1 wf : World} {base b : Nat} {e : TypeId} {s : ByteArray} {v1 : Value} {lv : Value} {nds : List Nd} {vs : List Value} {g1 cap1 : Nat} (R : RO w base b lv nds vs)
    (hown : w1.ownsRow base 25 5 (.slice (some ⟨g1, 0, none⟩) (nds.length + 1) cap1) (nds.length + 1) (ndCells nds vs ++ zeroNd.toList)) (hgrow : w.grownBy w1 lv.ownBlock) (hat : lv.ownBlock = some g1 ∨ g1 = w.heap.size)
    (nd : Nd) (v4 : Value) (hsub : Sub w base v4 nd.l) (hv4 : ∀ k, v4.ownBlock = some k → k ≠ b ∧ lv.ownBlock ≠ some k)
    (f1 : wf.heap[b]? = some (.cells #[.string s, v1, .slice none 0 0, .slice (some ⟨g1, 0, none⟩) (nds.length + 1) cap1] e (0, 0)))
    (f2 : ∀ cur, w1.heap[g1]? = some (.cells cur 25 (0, 0)) → wf.heap[g1]? = some (.cells (((((cur.setIfInBounds (nds.length * 5) (.int .i64 nd.op)).setIfInBounds (nds.length * 5 + 1) (.string nd.s)).setIfInBounds (nds.length * 5 + 2) (.string ⟨#[]⟩)).setIfInBounds (nds.length * 5 + 3) (.int .i64 nd.n)).setIfInBounds (nds.length * 5 + 4) v4) 25 (0, 0)))
    (f3 : ∀ k, k ≠ b → k ≠ g1 → wf.heap[k]? = w1.heap[k]?) :
    RI wf base b e s v1 (.slice none 0 0) [] (.slice (some ⟨g1, 0, none⟩) (nds.length + 1) cap1) (nds ++ [nd]) (vs ++ [v4]) := by
  have hlen := ndCells_length nds vs R.len
  have hbs : b < w.heap.size := R.lt
  have hgb : g1 ≠ b := by
    rcases hat with h | h
    · exact R.lb _ h
    · omega
  have keep : ∀ {k : Nat} {o : Obj}, w.heap[k]? = some o → k ≠ b → lv.ownBlock ≠ some k → wf.heap[k]? = some o ∧ k ≠ g1 := fun {k o} hk h1 h2 => by
    have hks := (Array.getElem?_eq_some_iff.1 hk).1
    have hkg : k ≠ g1 := by
      rintro rfl
      rcases hat with h | h
      · exact h2 h
      · omega
    rw [f3 k h1 hkg, hgrow.block k hks (Ne.symm h2)]
    exact ⟨hk, hkg⟩
  have subk : ∀ (v : Value) (l : List Lf), Sub w base v l → (∀ k, v.ownBlock = some k → k ≠ b ∧ lv.ownBlock ≠ some k) → Sub wf base v l ∧ ∀ k, v.ownBlock = some k → k ≠ g1 := by
    intro v l hs hk
    rcases hs with ⟨h1, rfl⟩ | ⟨g, h1, rfl, h2, h3⟩
    · exact ⟨.inl ⟨h1, rfl⟩, fun k hk => by cases hk⟩
    · obtain ⟨k1, k2⟩ := hk g rfl
      obtain ⟨k3, k4⟩ := keep h3 k1 k2
      exact ⟨.inr ⟨g, h1, rfl, h2, k3⟩, fun k hk => by cases hk; exact k4⟩
  refine ⟨f1, R.hb, World.ownsRow_nil _ _ _ _, ?_, by simp [R.len], fun i nd' v hi hv => ?_, (fun k hk => by cases hk), (fun k hk => by cases hk; exact hgb), fun v hv k hk => ?_, fun _ => rfl⟩
  · obtain ⟨h1, h2⟩ := hown
    refine ⟨by rw [ndCells_append _ _ _ _ R.len]; simp [hlen, cells5]; omega, ?_⟩
    rcases h2 with ⟨h2, _⟩ | ⟨g, cap, cur, e1, e2, e3, e4, e5, e6, e7⟩
    · cases h2
    · cases e1
      refine .inr ⟨g1, cap1, _, by simp, e2, f2 cur e3, by simpa using e4, e5, by simpa using e6, ?_⟩
      rw [ndCells_append _ _ _ _ R.len]
      simp only [Array.toList_setIfInBounds, List.length_append, List.length_singleton]
      have h5 : (nds.length + 1) * 5 = (ndCells nds vs).length + 5 := by rw [hlen]; omega
      rw [h5] at e7 ⊢
      rw [← hlen]
      exact list_store _ _ _ _ _ _ _ e7
  · by_cases hin : i < nds.length
    · rw [List.getElem?_append_left hin] at hi
      rw [List.getElem?_append_left (by rw [R.len]; exact hin)] at hv
      exact (subk v _ (R.sub i nd' v hi hv) (fun k hk => by
        obtain ⟨k1, k3⟩ := R.vb v (List.mem_of_getElem? hv) k hk
        exact ⟨k1, k3⟩)).1
    · rw [List.getElem?_append_right (by omega)] at hi
      rw [List.getElem?_append_right (by rw [R.len]; omega), R.len] at hv
      obtain ⟨h0, rfl⟩ : i - nds.length = 0 ∧ nd = nd' := by
        cases hc : i - nds.length with
        | zero => rw [hc] at hi; exact ⟨rfl, by simpa using hi⟩
        | succ m => rw [hc] at hi; simp at hi
      rw [h0] at hv
      obtain rfl : v4 = v := by simpa using hv
      exact (subk v4 _ hsub hv4).1
  · rcases List.mem_append.1 hv with hv | hv
    · obtain ⟨i, hi⟩ := List.getElem?_of_mem hv
      have hil : i < nds.length := by rw [← R.len]; exact (List.getElem?_eq_some_iff.1 hi).1
      obtain ⟨nd', hnd⟩ : ∃ x, nds[i]? = some x := ⟨_, List.getElem?_eq_getElem hil⟩
      obtain ⟨k1, k3⟩ := R.vb v hv k hk
      refine ⟨k1, by simp [Value.ownBlock], fun h => ?_⟩
      exact (subk v _ (R.sub i nd' v hnd hi) (fun k hk => by
        obtain ⟨k1, k3⟩ := R.vb v hv k hk
        exact ⟨k1, k3⟩)).2 k hk (by simpa [Value.ownBlock] using h.symm)
    · obtain rfl : v = v4 := by simpa using hv
      obtain ⟨k1, k2⟩ := hv4 k hk
      refine ⟨k1, by simp [Value.ownBlock], fun h => ?_⟩
      exact (subk v _ hsub hv4).2 k hk (by simpa [Value.ownBlock] using h.symm)

end Go.Proofs.YtmifmmpbmcfmpaaGreatDoor.IW
