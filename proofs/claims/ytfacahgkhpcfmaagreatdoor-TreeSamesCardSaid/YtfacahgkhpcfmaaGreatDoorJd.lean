/-
  A list of trees that came in: its reading opened.
-/
import Derived.Test.YtfacahgkhpcfmaaGreatDoorJc
import Derived.ChangeArms
import Derived.Lib.LaidTab
import Derived.OpenShut
import Derived.DataElems
set_option linter.unusedVariables false
set_option linter.unusedSimpArgs false
namespace Go.Proofs.YtfacahgkhpcfmaaGreatDoor.JW
open Go Go.RowKit Go.Proofs.YtfacahgkhpcfmaaGreatDoorW.PrintWords Go.Proofs.YtfacahgkhpcfmaaGreatDoorW.PrintLast Go.Proofs.YtfacahgkhpcfmaaGreatDoorW.PrintMore Go.Proofs.YtfacahgkhpcfmaaGreatDoor.PTreeSames
set_option maxRecDepth 100000

theorem exists_list {α : Type} {p : Nat → α → Prop} : ∀ n : Nat, (∀ i, i < n → ∃ x, p i x) → ∃ l : List α, l.length = n ∧ ∀ (i : Nat) (x : α), l[i]? = some x → p i x
  | 0, _ => ⟨[], rfl, fun i x h => by simp at h⟩
  | n + 1, h => by
    obtain ⟨l, hl, hp⟩ := exists_list n (fun i hi => h i (by omega))
    obtain ⟨x, hx⟩ := h n (by omega)
    refine ⟨l ++ [x], by simp [hl], fun i y hy => ?_⟩
    by_cases hi : i < l.length
    · rw [List.getElem?_append_left hi] at hy
      exact hp i y hy
    · rw [List.getElem?_append_right (by omega)] at hy
      have : i - l.length = 0 := by
        cases hc : i - l.length with
        | zero => rfl
        | succ m => rw [hc] at hy; simp at hy
      have hin : i = n := by omega
      rw [this] at hy
      simp only [List.getElem?_cons_zero, Option.some.injEq] at hy
      subst hy; subst hin
      exact hx

theorem five {α : Type} {l : List α} (h : l.length = 5) : ∃ a b c d e, l = [a, b, c, d, e] := by
  match l, h with
  | [a, b, c, d, e], _ => exact ⟨a, b, c, d, e, rfl⟩

theorem FitA_of : ∀ l : List S31, (∀ x ∈ l, FitT x) → FitA l
  | [], _ => by simp [FitA]
  | x :: xs, h => by simp only [FitA]; exact ⟨h x (by simp), FitA_of xs fun y hy => h y (by simp [hy])⟩

theorem cells5 {W : World} {base : Nat} {a : Addr} {c : List Value} (h : W.cells? base a 5 = some c) : c.length = 5 ∧ ∀ i u, c[i]? = some u → W.cell? (a.add i) = some u := by
  unfold World.cells? at h
  split at h
  · have hl := Lib.mapM_length h
    refine ⟨by simpa using hl, fun i u hi => ?_⟩
    have hi5 : i < 5 := by
      have := (List.getElem?_eq_some_iff.1 hi).1
      simp at hl; omega
    obtain ⟨b, hb, hf⟩ := Lib.mapM_at h i i (by simp [hi5])
    rw [hb] at hi
    cases hi
    exact hf
  · cases h

section
variable {H : Type} {enc : TypeId × Value → H} {W : World} {base : Nat} {spare : Nat → Bool} {held : Bool}
theorem cells_of31 : Tryz.prog.cellsOf 31 = 5 := by kernel_rfl
theorem cells_of26 : Tryz.prog.cellsOf 26 = 1 := by kernel_rfl
theorem cells_of3 : Tryz.prog.cellsOf 3 = 1 := by kernel_rfl
theorem cells_of9 : Tryz.prog.cellsOf 9 = 1 := by kernel_rfl
theorem bytes_of31 : Tryz.prog.bytesOf 31 = 72 := by kernel_rfl

theorem weights_all {P : Program} {e : TypeId} {n : Nat} : ∀ {ds : List (DataW H)} {d : DataW H}, d ∈ ds → n ∈ d.weights P e → n ∈ DataW.weightsAll P e ds
  | x :: ds, d, h, hn => by
    simp only [DataW.weightsAll, List.mem_append]
    rcases List.mem_cons.1 h with rfl | h
    · exact .inl hn
    · exact .inr (weights_all h hn)

theorem open_nodes : ∀ (fuel : Nat) (cs : List Value) (x : DataW H × List MemPlace), DataW.trod enc Tryz.prog W base spare held fuel 26 cs = some x → (∀ n ∈ x.1.weights Tryz.prog 26, n ≤ reachBytes) →
    ∃ (A : Option Addr) (c : Nat) (l : List S31), cs = [.slice A l.length c] ∧ l.length ≤ c ∧ c ≤ maxLen ∧ Kd.C k31 W A l.length l ∧ FitL l := by
  intro fuel
  induction fuel using Nat.strongRecOn with
  | _ fuel ih =>
  intro cs x h hw
  rcases DataW.trod_slice Tryz.underlying26 h with ⟨rfl, rfl⟩ | ⟨a, len, cap, elems, rest, n, rfl, rfl, rfl, hb, hlc, hcm, hl, hel, _, _⟩
  · exact ⟨none, 0, [], rfl, Nat.le_refl _, Nat.zero_le _, ⟨rfl, by simp, fun h => absurd h (Nat.lt_irrefl _)⟩, ⟨by simp, trivial⟩⟩
  · rw [cells_of31] at hel
    have hlen : len ≤ 1954687338211 := by
      have := hw ((elems.length + rest.length) * 72) (by simp [DataW.weights, Tryz.underlying26, bytes_of31])
      unfold reachBytes at this
      omega
    have hnode : ∀ i, i < len → ∃ y : S31, (∃ c, c.length = 5 ∧ k31.K W y c ∧ ∀ j u, c[j]? = some u → W.cell? (a.add (i * 5 + j)) = some u) ∧ FitT y := by
      intro i hi
      have he := hel i hi
      rw [List.getElem?_eq_getElem (by omega)] at he
      obtain ⟨c, hc, hd⟩ := Option.bind_eq_some_iff.1 he
      obtain ⟨hc5, hcell⟩ := cells5 hc
      generalize hxe : elems[i]'(by omega) = xe at hd
      obtain ⟨xs, m, rfl, rfl, _, hxl, hf⟩ := DataW.trod_struct Tryz.underlying31 hd
      have hme : (DataW.agg (xs.map (·.1)), xs.flatMap (·.2)) ∈ elems := by rw [← hxe]; exact List.getElem_mem _
      have hwe : ∀ n ∈ (DataW.agg (xs.map (·.1))).weights Tryz.prog 31, n ≤ reachBytes := fun n hn => hw n (by
        simp only [DataW.weights, Tryz.underlying26, List.mem_cons, List.mem_append]
        exact .inr (.inl (weights_all (List.mem_map_of_mem (f := (·.1)) hme) hn)))
      obtain ⟨c0, c1, c2, c3, c4, rfl⟩ := five hc5
      obtain ⟨x0, x1, x2, x3, x4, rfl⟩ := five hxl
      · skip
        have f0 := hf 0 ⟨"Op", 3, 0, false, "", "", 0⟩ rfl
        have f1 := hf 1 ⟨"S", 9, 1, false, "", "", 8⟩ rfl
        have f2 := hf 2 ⟨"T", 9, 2, false, "", "", 24⟩ rfl
        have f3 := hf 3 ⟨"N", 3, 3, false, "", "", 40⟩ rfl
        have f4 := hf 4 ⟨"L", 26, 4, false, "", "", 48⟩ rfl
        dsimp only at f0 f1 f2 f3 f4
        simp only [cells_of3, cells_of9, cells_of26, List.drop_zero, List.drop_succ_cons, List.take_succ_cons, List.take_zero, List.getElem?_cons_zero, List.getElem?_cons_succ] at f0 f1 f2 f3 f4
        obtain ⟨n0, e0, rfl, _⟩ := DataW.trod_int Tryz.underlying3 f0
        obtain ⟨s1, e1, rfl, _⟩ := DataW.trod_string Tryz.underlying9 f1
        obtain ⟨s2, e2, rfl, _⟩ := DataW.trod_string Tryz.underlying9 f2
        obtain ⟨n3, e3, rfl, _⟩ := DataW.trod_int Tryz.underlying3 f3
        simp only [DataW.weights, Tryz.underlying31, List.map_cons, List.map_nil, DataW.weightsEach, List.mem_append, List.mem_cons] at hwe
        obtain ⟨A4, d4, l4, e4, g1, g2, g3, g4⟩ := ih m (by omega) [c4] x4 f4 (fun n hn => hwe n (by simp [hn]))
        simp only [List.cons.injEq, and_true] at e0 e1 e2 e3 e4
        subst e0 e1 e2 e3 e4
        have w1 := hwe s1.data.toList.length (by simp)
        have w2 := hwe s2.data.toList.length (by simp)
        unfold reachBytes at w1 w2
        refine ⟨⟨n0, s1, s2, n3, l4⟩, ⟨_, rfl, k31_mk W ⟨n0, s1, s2, n3, l4⟩ g1 g3, fun j u hu => ?_⟩, ?_⟩
        · rw [← Addr.add_add]; exact hcell j u hu
        · simp only [FitT]
          exact ⟨by rw [Array.length_toList] at w1; exact w1, by rw [Array.length_toList] at w2; exact w2, g4.1, g4.2⟩
    obtain ⟨l, hll, hlp⟩ := exists_list (p := fun i (y : S31) => (∃ c, c.length = 5 ∧ k31.K W y c ∧ ∀ j u, c[j]? = some u → W.cell? (a.add (i * 5 + j)) = some u) ∧ FitT y) len hnode
    subst hll
    refine ⟨some a, cap, l, rfl, hlc, hcm, ⟨rfl, by omega, fun _ => ⟨a, rfl, fun j y hy => (hlp j y hy).1⟩⟩, by omega, FitA_of l fun y hy => ?_⟩
    obtain ⟨j, hj⟩ := List.getElem?_of_mem hy
    exact (hlp j y hj).2
end
end Go.Proofs.YtfacahgkhpcfmaaGreatDoor.JW
