/-
  Plain: copies of trees are equal to them; sizes and letters of trees are numbers.
-/
import Derived.Test.YtfacahgkhpcfmaaGreatDoorJb
set_option linter.unusedVariables false
set_option linter.unusedSimpArgs false
namespace Go.Proofs.YtfacahgkhpcfmaaGreatDoor.JW
open Go Go.RowKit Go.Proofs.YtfacahgkhpcfmaaGreatDoorW.PrintWords Go.Proofs.YtfacahgkhpcfmaaGreatDoorW.PrintLast Go.Proofs.YtfacahgkhpcfmaaGreatDoorW.PrintMore Go.Proofs.YtfacahgkhpcfmaaGreatDoor.PTreeSames
set_option maxRecDepth 100000

mutual
/-- Within what memory holds. -/
def FitT : S31 → Prop
  | ⟨_, b, c, _, l⟩ => b.size ≤ 140737488351232 ∧ c.size ≤ 140737488351232 ∧ l.length ≤ 1954687338211 ∧ FitA l
def FitA : List S31 → Prop
  | [] => True
  | x :: xs => FitT x ∧ FitA xs
end
def FitL (l : List S31) : Prop := l.length ≤ 1954687338211 ∧ FitA l

theorem FitA.mem : ∀ {l : List S31}, FitA l → ∀ x ∈ l, FitT x
  | [], _, x, h => by cases h
  | y :: ys, h, x, hx => by
    simp only [FitA] at h
    rcases List.mem_cons.1 hx with rfl | hx
    · exact h.1
    · exact FitA.mem h.2 x hx
theorem FitT.sub {x : S31} (h : FitT x) : x.f1.size ≤ 140737488351232 ∧ FitL x.f4 := by
  cases x
  simp only [FitT] at h
  exact ⟨h.1, h.2.2.1, h.2.2.2⟩

theorem rd_mem {l : List S31} {k : Nat} (h : k < l.length) : rd_T31 l k ∈ l := by
  simp [rd_T31, List.getElem?_eq_getElem h]
theorem rd_at {l : List S31} {k : Nat} (h : k < l.length) : rd_T31 l k = l[k] := by
  simp [rd_T31, List.getElem?_eq_getElem h]
theorem node_eta (x : S31) : (⟨x.f0, x.f1, x.f2, x.f3, x.f4⟩ : S31) = x := by cases x; rfl
theorem take_rd {l : List S31} {k : Nat} (h : k < l.length) : l.take k ++ [rd_T31 l k] = l.take (k + 1) := by
  rw [rd_at h, List.take_succ_eq_append_getElem h]

theorem copy_eq (n : Nat) : ∀ l : List S31, SizeOf.sizeOf l < n → FitL l → ∃ K, ∀ k, tree_Copy.f (k + K) l = some l := by
  induction n with
  | zero => intro l h; omega
  | succ n ih =>
    intro l hs hf
    have loop : ∀ d i : Nat, i + d = l.length → ∃ K, ∀ k, tree_Copy.l0 (k + K) (l.take i) l l.length i = some l := by
      intro d
      induction d with
      | zero =>
        intro i hi
        refine ⟨1, fun k => ?_⟩
        have hlt : ¬ (i : Int) < (l.length : Int) := by omega
        rw [tree_Copy.l0, if_neg hlt, List.take_of_length_le (by omega)]
      | succ d ihd =>
        intro i hi
        have hlt : i < l.length := by omega
        obtain ⟨K1, h1⟩ := ih (rd_T31 l i).f4 (size_rd l i i n rfl hlt hs) (FitT.sub (FitA.mem hf.2 _ (rd_mem hlt))).2
        obtain ⟨K2, h2⟩ := ihd (i + 1) (by omega)
        refine ⟨K1 + K2 + 1, fun k => ?_⟩
        have c1 : (i : Int) < (l.length : Int) := by omega
        have c2 : 0 ≤ (i : Int) := by omega
        have c3 : (l.take i).length < 1954687338268 := by have := hf.1; simp; omega
        have w1 : wrap64 ((i : Int) + 1) = ((i + 1 : Nat) : Int) := by have := hf.1; unfold wrap64; omega
        have e1 := h1 (k + K2)
        have e2 := h2 (k + K1)
        rw [show k + K2 + K1 = k + (K1 + K2) by omega] at e1
        rw [show k + K1 + K2 = k + (K1 + K2) by omega] at e2
        rw [show k + (K1 + K2 + 1) = (k + (K1 + K2)) + 1 by omega, tree_Copy.l0, if_pos c1, if_pos c2, if_pos c1, e1, Option.bind_some, if_pos c3, w1, node_eta, take_rd hlt]
        exact e2
    obtain ⟨K, h⟩ := loop l.length 0 (by omega)
    refine ⟨K + 1, fun k => ?_⟩
    rw [show k + (K + 1) = (k + K) + 1 by omega, tree_Copy.f]
    exact h k

theorem ref_copy_eq (n : Nat) : ∀ l : List S31, SizeOf.sizeOf l < n → FitL l → ∃ K, ∀ k, motleyref04_Copy.f (k + K) l = some l := by
  induction n with
  | zero => intro l h; omega
  | succ n ih =>
    intro l hs hf
    have loop : ∀ d i : Nat, i + d = l.length → ∃ K, ∀ k, motleyref04_Copy.l0 (k + K) l (l.take i) i = some l := by
      intro d
      induction d with
      | zero =>
        intro i hi
        refine ⟨1, fun k => ?_⟩
        have hlt : ¬ (i : Int) < (l.length : Int) := by omega
        rw [motleyref04_Copy.l0, if_neg hlt, List.take_of_length_le (by omega)]
      | succ d ihd =>
        intro i hi
        have hlt : i < l.length := by omega
        obtain ⟨K1, h1⟩ := ih (rd_T31 l i).f4 (size_rd l i i n rfl hlt hs) (FitT.sub (FitA.mem hf.2 _ (rd_mem hlt))).2
        obtain ⟨K2, h2⟩ := ihd (i + 1) (by omega)
        refine ⟨K1 + K2 + 1, fun k => ?_⟩
        have c1 : (i : Int) < (l.length : Int) := by omega
        have c2 : 0 ≤ (i : Int) := by omega
        have c3 : (l.take i).length < 1954687338268 := by have := hf.1; simp; omega
        have w1 : wrap64 ((i : Int) + 1) = ((i + 1 : Nat) : Int) := by have := hf.1; unfold wrap64; omega
        have e1 := h1 (k + K2)
        have e2 := h2 (k + K1)
        rw [show k + K2 + K1 = k + (K1 + K2) by omega] at e1
        rw [show k + K1 + K2 = k + (K1 + K2) by omega] at e2
        rw [show k + (K1 + K2 + 1) = (k + (K1 + K2)) + 1 by omega, motleyref04_Copy.l0, if_pos c1, if_pos c2, e1, Option.bind_some, if_pos c3, w1, node_eta, take_rd hlt]
        exact e2
    obtain ⟨K, h⟩ := loop l.length 0 (by omega)
    refine ⟨K + 1, fun k => ?_⟩
    rw [show k + (K + 1) = (k + K) + 1 by omega, motleyref04_Copy.f]
    exact h k

theorem size_some (n : Nat) : ∀ l : List S31, SizeOf.sizeOf l < n → FitL l → ∃ K r, ∀ k, motleyref04_Size.f (k + K) l = some r := by
  induction n with
  | zero => intro l h; omega
  | succ n ih =>
    intro l hs hf
    have loop : ∀ d i : Nat, i + d = l.length → ∀ a b : Int, ∃ K r, ∀ k, motleyref04_Size.l0 (k + K) l a b i = some r := by
      intro d
      induction d with
      | zero =>
        intro i hi a b
        refine ⟨1, (a, b), fun k => ?_⟩
        have hlt : ¬ (i : Int) < (l.length : Int) := by omega
        rw [motleyref04_Size.l0, if_neg hlt]
      | succ d ihd =>
        intro i hi a b
        have hlt : i < l.length := by omega
        obtain ⟨K1, r1, h1⟩ := ih (rd_T31 l i).f4 (size_rd l i i n rfl hlt hs) (FitT.sub (FitA.mem hf.2 _ (rd_mem hlt))).2
        obtain ⟨K2, r2, h2⟩ := ihd (i + 1) (by omega) (wrap64 (a + (wrap64 (r1.1 + 1)))) (mx b (wrap64 (r1.2 + 1)))
        refine ⟨K1 + K2 + 1, r2, fun k => ?_⟩
        have c1 : (i : Int) < (l.length : Int) := by omega
        have c2 : 0 ≤ (i : Int) := by omega
        have w1 : wrap64 ((i : Int) + 1) = ((i + 1 : Nat) : Int) := by have := hf.1; unfold wrap64; omega
        have e1 := h1 (k + K2)
        have e2 := h2 (k + K1)
        rw [show k + K2 + K1 = k + (K1 + K2) by omega] at e1
        rw [show k + K1 + K2 = k + (K1 + K2) by omega] at e2
        rw [show k + (K1 + K2 + 1) = (k + (K1 + K2)) + 1 by omega, motleyref04_Size.l0, if_pos c1, if_pos c2, e1, Option.bind_some, w1]
        exact e2
    obtain ⟨K, r, h⟩ := loop l.length 0 (by omega) 0 0
    refine ⟨K + 1, r, fun k => ?_⟩
    rw [show k + (K + 1) = (k + K) + 1 by omega, motleyref04_Size.f]
    exact h k

theorem letters_some (n : Nat) : ∀ l : List S31, SizeOf.sizeOf l < n → FitL l → ∃ K r, ∀ k, motleyref04_letters.f (k + K) l = some r := by
  induction n with
  | zero => intro l h; omega
  | succ n ih =>
    intro l hs hf
    have loop : ∀ d i : Nat, i + d = l.length → ∀ a : Int, ∃ K r, ∀ k, motleyref04_letters.l0 (k + K) l a i = some r := by
      intro d
      induction d with
      | zero =>
        intro i hi a
        refine ⟨1, a, fun k => ?_⟩
        have hlt : ¬ (i : Int) < (l.length : Int) := by omega
        rw [motleyref04_letters.l0, if_neg hlt]
      | succ d ihd =>
        intro i hi a
        have hlt : i < l.length := by omega
        obtain ⟨K1, r1, h1⟩ := ih (rd_T31 l i).f4 (size_rd l i i n rfl hlt hs) (FitT.sub (FitA.mem hf.2 _ (rd_mem hlt))).2
        obtain ⟨K2, r2, h2⟩ := ihd (i + 1) (by omega) (wrap64 (a + (wrap64 ((wrap64 ((((rd_T31 l i).f1).size : Int) + (((rd_T31 l i).f2).size : Int))) + r1))))
        refine ⟨K1 + K2 + 1, r2, fun k => ?_⟩
        have c1 : (i : Int) < (l.length : Int) := by omega
        have c2 : 0 ≤ (i : Int) := by omega
        have w1 : wrap64 ((i : Int) + 1) = ((i + 1 : Nat) : Int) := by have := hf.1; unfold wrap64; omega
        have e1 := h1 (k + K2)
        have e2 := h2 (k + K1)
        rw [show k + K2 + K1 = k + (K1 + K2) by omega] at e1
        rw [show k + K1 + K2 = k + (K1 + K2) by omega] at e2
        rw [show k + (K1 + K2 + 1) = (k + (K1 + K2)) + 1 by omega, motleyref04_letters.l0, if_pos c1, if_pos c2, e1, Option.bind_some, w1]
        exact e2
    obtain ⟨K, r, h⟩ := loop l.length 0 (by omega) 0
    refine ⟨K + 1, r, fun k => ?_⟩
    rw [show k + (K + 1) = (k + K) + 1 by omega, motleyref04_letters.f]
    exact h k

theorem long_some (l : List S31) (hf : FitL l) : ∃ K b, motleyref04_Long.f K l = some b := by
  obtain ⟨K1, r1, h1⟩ := size_some _ l (Nat.lt_succ_self _) hf
  obtain ⟨K2, r2, h2⟩ := letters_some _ l (Nat.lt_succ_self _) hf
  refine ⟨K1 + K2, ?_⟩
  have e1 := h1 K2
  have e2 := h2 K1
  rw [Nat.add_comm] at e1
  unfold motleyref04_Long.f
  rw [e1, Option.bind_some, e2, Option.bind_some]
  split
  · exact ⟨_, rfl⟩
  · split
    · exact ⟨_, rfl⟩
    · exact ⟨_, rfl⟩
end Go.Proofs.YtfacahgkhpcfmaaGreatDoor.JW
