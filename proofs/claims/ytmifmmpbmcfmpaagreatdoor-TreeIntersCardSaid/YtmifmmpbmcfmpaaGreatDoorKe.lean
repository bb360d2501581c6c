/-
  Nodes that are equal, wherever they lie.
-/
import Derived.Test.YtmifmmpbmcfmpaaGreatDoorKd
set_option linter.unusedVariables false
set_option linter.unusedSimpArgs false
namespace Go.Proofs.YtmifmmpbmcfmpaaGreatDoor.IW
open Go Go.RowKit Go.Proofs.YtmifmmpbmcfmpaaGreatDoor.MkW
set_option maxRecDepth 100000

def ndV (op : Int) (s : ByteArray) (n : Int) (v : Value) : Value := .agg #[.int .i64 op, .string s, .string ⟨#[]⟩, .int .i64 n, v]
/-- What 'true' says. -/
def Yes (f : FuncId) (args : Array Value) (w : World) : Prop := Calls Tryz.prog f args w fun e w' => e = .returned (.bool true) ∧ Below w.heap.size w w'

set_option maxHeartbeats 1000000 in
theorem sameNode_yes (op : Int) (s : ByteArray) (n : Int) (v1 v2 : Value) (w : World) (hS : ∀ W, Below w.heap.size w W → Yes 12 #[v1, v2] W) (h1 : ∃ A n c, v1 = .slice A n c) (h2 : ∃ A n c, v2 = .slice A n c) : Yes 7 #[ndV op s n v1, ndV op s n v2] w := by
  unfold Yes ndV
  obtain ⟨A1, n1, c1, rfl⟩ := h1
  obtain ⟨A2, n2, c2, rfl⟩ := h2
  have HB := Aside0.mk ((below_alloc w (.cells #[.int .i64 op, .string s, .string ⟨#[]⟩, .int .i64 n, .slice A1 n1 c1] 25)).trans ((below_alloc (w.alloc (.cells #[.int .i64 op, .string s, .string ⟨#[]⟩, .int .i64 n, .slice A1 n1 c1] 25)) (.cells #[.int .i64 op, .string s, .string ⟨#[]⟩, .int .i64 n, .slice A2 n2 c2] 25)).mono (below_alloc w (.cells #[.int .i64 op, .string s, .string ⟨#[]⟩, .int .i64 n, .slice A1 n1 c1] 25)).size))
  have HS := Aside0.mk (hS _ HB.out)
  clear hS
  unfold Yes at HS
  go_enter Tryz.func7, Tryz.ntmps7
  go_wp2_with (go_at_call 12; refine HS.out.mono ?_; rintro e w2 ⟨rfl, hB2⟩; have HB2 := Aside0.mk hB2; clear hB2)
  go_ret
  exact ⟨rfl, HB.out.trans (HB2.out.mono HB.out.size)⟩

/-- A row of nodes in one block. -/
def RowAt (w : World) (g n : Nat) (f : Nat → Int × ByteArray × Int × Value) : Prop := ∀ i, i < n → w.cell? ⟨g, i * 5, none⟩ = some (.int .i64 (f i).1) ∧ w.cell? ⟨g, i * 5 + 1, none⟩ = some (.string (f i).2.1) ∧ w.cell? ⟨g, i * 5 + 2, none⟩ = some (.string ⟨#[]⟩) ∧ w.cell? ⟨g, i * 5 + 3, none⟩ = some (.int .i64 (f i).2.2.1) ∧ w.cell? ⟨g, i * 5 + 4, none⟩ = some (f i).2.2.2
theorem cell_lt {w : World} {g o : Nat} {v : Value} (h : w.cell? ⟨g, o, none⟩ = some v) : g < w.heap.size := by
  unfold World.cell? at h
  cases hg : w.heap[g]? with
  | none => simp only [hg] at h; cases h
  | some o => exact (Array.getElem?_eq_some_iff.1 hg).1
theorem RowAt.below {w w' : World} {g n : Nat} {f : Nat → Int × ByteArray × Int × Value} (h : RowAt w g n f) (hB : Below w.heap.size w w') : RowAt w' g n f := fun i hi => by
  obtain ⟨h0, h1, h2, h3, h4⟩ := h i hi
  have hg := hB.block g (cell_lt h0)
  refine ⟨?_, ?_, ?_, ?_, ?_⟩
  · rw [World.cell?_of_block hg]; exact h0
  · rw [World.cell?_of_block hg]; exact h1
  · rw [World.cell?_of_block hg]; exact h2
  · rw [World.cell?_of_block hg]; exact h3
  · rw [World.cell?_of_block hg]; exact h4

set_option maxHeartbeats 1000000 in
theorem same_rows (w : World) (A1 A2 : Option Addr) (g1 g2 n c1 c2 : Nat) (f1 f2 : Nat → Int × ByteArray × Int × Value) (hn : n ≤ 100000) (hA1 : 0 < n → A1 = some ⟨g1, 0, none⟩) (hA2 : 0 < n → A2 = some ⟨g2, 0, none⟩) (h1 : RowAt w g1 n f1) (h2 : RowAt w g2 n f2)
    (heq : ∀ i, i < n → (f1 i).1 = (f2 i).1 ∧ (f1 i).2.1 = (f2 i).2.1 ∧ (f1 i).2.2.1 = (f2 i).2.2.1) (hsl : ∀ i, i < n → (∃ A n c, (f1 i).2.2.2 = .slice A n c) ∧ ∃ A n c, (f2 i).2.2.2 = .slice A n c)
    (hS : ∀ i, i < n → ∀ W, Below w.heap.size w W → Yes 12 #[(f1 i).2.2.2, (f2 i).2.2.2] W) : Yes 12 #[.slice A1 n c1, .slice A2 n c2] w := by
  unfold Yes
  have H1 := Aside0.mk h1
  have H2 := Aside0.mk h2
  have HE := Aside0.mk heq
  have HL := Aside0.mk hsl
  have HS := Aside0.mk hS
  have HA1 := Aside0.mk hA1
  have HA2 := Aside0.mk hA2
  have HN := Aside0.mk hn
  clear h1 h2 heq hsl hS hA1 hA2 hn
  go_enter Tryz.func12, Tryz.ntmps12
  go_wp2
  go_loopg [5] n (fun kq v5 w' => ∃ i : Nat, v5 = .int .i64 i ∧ Aside0 (kq + i = n ∧ Below w.heap.size w w'))
  case atStart => exact ⟨0, rfl, ⟨by omega, Below.refl _ _⟩⟩
  case round =>
    obtain ⟨i, rfl, HI⟩ := hrel
    obtain ⟨hkq, hB⟩ := HI.out
    have HB := Aside0.mk hB
    cases gk with
    | zero =>
      have d1 : decide ((i : Int) < (n : Int)) = false := decide_eq_false (by omega)
      have d2 : decide (i < n) = false := decide_eq_false (by omega)
      clear hkq hB HI
      go_wp2
      go_ret
      exact ⟨rfl, HB.out⟩
    | succ m =>
      have hlt : i < n := by omega
      have d1 : decide ((i : Int) < (n : Int)) = true := decide_eq_true (by omega)
      have d2 : decide (i < n) = true := decide_eq_true hlt
      have p1 : (0 : Int) ≤ (i : Int) := by omega
      have p2 : (i : Int) < (n : Int) := by omega
      obtain rfl := HA1.out (by omega)
      obtain rfl := HA2.out (by omega)
      obtain ⟨x0, x1, x2, x3, x4⟩ := (H1.out.below hB) i hlt
      obtain ⟨y0, y1, y2, y3, y4⟩ := (H2.out.below hB) i hlt
      have he := HE.out i hlt
      have hl := HL.out i hlt
      have hs := HS.out i hlt
      generalize f1 i = F1 at x0 x1 x2 x3 x4 he hl hs
      generalize f2 i = F2 at y0 y1 y2 y3 y4 he hl hs
      obtain ⟨a1, b1, e1, u1⟩ := F1
      obtain ⟨a2, b2, e2, u2⟩ := F2
      simp only at x0 x1 x2 x3 x4 y0 y1 y2 y3 y4 he hl hs
      obtain ⟨rfl, rfl, rfl⟩ := he
      obtain ⟨⟨B1, k1, l1, rfl⟩, B2, k2, l2, rfl⟩ := hl
      have hBd : Below w.heap.size w wr.drew := hB.drew
      have HY := Aside0.mk (sameNode_yes a1 b1 e1 (.slice B1 k1 l1) (.slice B2 k2 l2) wr.drew (fun W hW => hs W (hBd.trans (hW.mono hBd.size))) ⟨_, _, _, rfl⟩ ⟨_, _, _, rfl⟩)
      unfold Yes ndV at HY
      have HX : Aside0 (m + (i + 1) = n) := ⟨by omega⟩
      have b9 : i + 1 ≤ 2000000 := by have := HN.out; omega
      have wr1 := wrA (K := 1) i 1 rfl b9
      have HBD := Aside0.mk hBd
      clear hkq hB HI hs hlt hBd b9
      go_wp2
      go_still_tail 8, (by kernel_rfl)
      change wpList _ _ _ _ _ wr.drew
      generalize wr.drew = wd at HY HBD ⊢
      go_wp2_with (go_at_call 7; refine HY.out.mono ?_; rintro e w2 ⟨rfl, hB2⟩; have HB2 := Aside0.mk hB2; clear hB2)
      go_roundg m
      case measure => omega
      case rel => exact ⟨i + 1, by first | rfl | rw [wr1], ⟨HX.out, HBD.out.trans (HB2.out.mono HBD.out.size)⟩⟩

theorem same_nil (w : World) : Yes 12 #[.slice none 0 0, .slice none 0 0] w :=
  same_rows w none none 0 0 0 0 0 (fun _ => (0, ⟨#[]⟩, 0, .slice none 0 0)) (fun _ => (0, ⟨#[]⟩, 0, .slice none 0 0)) (by decide) (fun h => absurd h (by decide)) (fun h => absurd h (by decide)) (fun i hi => by omega) (fun i hi => by omega) (fun i hi => by omega) (fun i hi => by omega) (fun i hi => by omega)

def lfF (l : List Lf) (i : Nat) : Int × ByteArray × Int × Value := ((l[i]?).map fun x => (x.op, x.s, x.n, Value.slice none 0 0)).getD (0, ⟨#[]⟩, 0, .slice none 0 0)
theorem flat_get : ∀ (l : List Lf) (i j : Nat) (x : Lf), j < 5 → l[i]? = some x → (l.flatMap Lf.cells)[i * 5 + j]? = x.cells[j]?
  | [], i, j, x, _, h => by simp at h
  | y :: l, 0, j, x, hj, h => by
    have : y = x := by simpa using h
    subst this
    rw [List.flatMap_cons, Nat.zero_mul, Nat.zero_add, List.getElem?_append_left (by simp [Lf.cells, cells5]; omega)]
  | y :: l, i + 1, j, x, hj, h => by
    have h2 : l[i]? = some x := by simpa using h
    have hl : y.cells.length = 5 := by simp [Lf.cells, cells5]
    rw [List.flatMap_cons, List.getElem?_append_right (by omega), hl, show (i + 1) * 5 + j - 5 = i * 5 + j by omega]
    exact flat_get l i j x hj h2
theorem nd_get : ∀ (l : List Nd) (vs : List Value) (i j : Nat) (x : Nd) (u : Value), j < 5 → l[i]? = some x → vs[i]? = some u → (ndCells l vs)[i * 5 + j]? = (cells5 x.op x.s x.n u)[j]?
  | [], vs, i, j, x, u, _, h, _ => by simp at h
  | y :: l, [], i, j, x, u, _, _, h => by simp at h
  | y :: l, v :: vs, 0, j, x, u, hj, h, h' => by
    have e1 : y = x := by simpa using h
    have e2 : v = u := by simpa using h'
    subst e1; subst e2
    rw [ndCells, Nat.zero_mul, Nat.zero_add, List.getElem?_append_left (by simp [cells5]; omega)]
  | y :: l, v :: vs, i + 1, j, x, u, hj, h, h' => by
    have h2 : l[i]? = some x := by simpa using h
    have h3 : vs[i]? = some u := by simpa using h'
    have hl : (cells5 y.op y.s y.n v).length = 5 := by simp [cells5]
    rw [ndCells, List.getElem?_append_right (by omega), hl, show (i + 1) * 5 + j - 5 = i * 5 + j by omega]
    exact nd_get l vs i j x u hj h2 h3

theorem same_leaves {w : World} {b1 b2 : Nat} {v1 v2 : Value} {l : List Lf} (hl : l.length ≤ 100000) (h1 : Sub w b1 v1 l) (h2 : Sub w b2 v2 l) : Yes 12 #[v1, v2] w := by
  rcases h1 with ⟨e1, rfl⟩ | ⟨g1, e1, rfl, _, k1⟩
  · rcases h2 with ⟨e2, rfl⟩ | ⟨g2, e2, rfl, _, k2⟩
    · exact same_nil w
    · exact absurd e1 e2
  · rcases h2 with ⟨e2, rfl⟩ | ⟨g2, e2, rfl, _, k2⟩
    · exact absurd e2 e1
    · have row : ∀ g, w.heap[g]? = some (.cells (l.flatMap Lf.cells).toArray 25 (0, 0)) → RowAt w g l.length (lfF l) := fun g hg i hi => by
        obtain ⟨x, hx⟩ : ∃ x, l[i]? = some x := ⟨_, List.getElem?_eq_getElem hi⟩
        have hf : lfF l i = (x.op, x.s, x.n, .slice none 0 0) := by unfold lfF; rw [hx]; rfl
        rw [hf]
        have hc : ∀ j, j < 5 → w.cell? ⟨g, i * 5 + j, none⟩ = x.cells[j]? := fun j hj => by
          rw [cell_of_row w g _ _ _ _ hg, List.getElem?_toArray]; exact flat_get l i j x hj hx
        exact ⟨hc 0 (by decide), hc 1 (by decide), hc 2 (by decide), hc 3 (by decide), hc 4 (by decide)⟩
      have hv : ∀ i, i < l.length → (lfF l i).2.2.2 = .slice none 0 0 := fun i hi => by
        obtain ⟨x, hx⟩ : ∃ x, l[i]? = some x := ⟨_, List.getElem?_eq_getElem hi⟩
        unfold lfF; rw [hx]; rfl
      exact same_rows w _ _ g1 g2 l.length _ _ (lfF l) (lfF l) hl (fun _ => rfl) (fun _ => rfl) (row g1 k1) (row g2 k2) (fun i hi => ⟨rfl, rfl, rfl⟩) (fun i hi => ⟨⟨_, _, _, hv i hi⟩, ⟨_, _, _, hv i hi⟩⟩) (fun i hi W hW => by rw [hv i hi]; exact same_nil W)

def ndF (l : List Nd) (vs : List Value) (i : Nat) : Int × ByteArray × Int × Value := match l[i]?, vs[i]? with
  | some x, some u => (x.op, x.s, x.n, u)
  | _, _ => (0, ⟨#[]⟩, 0, .slice none 0 0)
theorem Sub.below {w w' : World} {base : Nat} {v : Value} {l : List Lf} (h : Sub w base v l) (hB : Below w.heap.size w w') : Sub w' base v l := by
  rcases h with h | ⟨g, k1, k2, k3, k4⟩
  · exact .inl h
  · exact .inr ⟨g, k1, k2, k3, by rw [hB.block g (Array.getElem?_eq_some_iff.1 k4).1]; exact k4⟩
theorem lst_row {w : World} {base : Nat} {v : Value} {l : List Nd} {vs : List Value} (h1 : w.ownsRow base 25 5 v l.length (ndCells l vs)) (h2 : vs.length = l.length) : ∃ A g c, v = .slice A l.length c ∧ (0 < l.length → A = some ⟨g, 0, none⟩) ∧ RowAt w g l.length (ndF l vs) := by
  by_cases h0 : l.length = 0
  · obtain ⟨A, c, rfl⟩ := own_slice h1
    exact ⟨A, 0, c, rfl, fun h => by omega, fun i hi => by omega⟩
  · obtain ⟨g, cap, rfl, hb, hg⟩ := h1.form (by omega)
    refine ⟨_, g, cap, rfl, fun _ => rfl, fun i hi => ?_⟩
    obtain ⟨x, hx⟩ : ∃ x, l[i]? = some x := ⟨_, List.getElem?_eq_getElem hi⟩
    obtain ⟨u, hu⟩ : ∃ u, vs[i]? = some u := ⟨_, List.getElem?_eq_getElem (by omega)⟩
    have hf : ndF l vs i = (x.op, x.s, x.n, u) := by unfold ndF; rw [hx, hu]
    rw [hf]
    have hc : ∀ j, j < 5 → w.cell? ⟨g, i * 5 + j, none⟩ = (cells5 x.op x.s x.n u)[j]? := fun j hj => by
      rw [h1.cellAt (i * 5 + j) (by omega)]; exact nd_get l vs i j x u hj hx hu
    exact ⟨hc 0 (by decide), hc 1 (by decide), hc 2 (by decide), hc 3 (by decide), hc 4 (by decide)⟩
theorem same_lists {w : World} {b1 b2 : Nat} {v1 v2 : Value} {l : List Nd} (hl : l.length ≤ 100000) (hll : ∀ x ∈ l, x.l.length ≤ 100000) (h1 : Lst w b1 v1 l) (h2 : Lst w b2 v2 l) : Yes 12 #[v1, v2] w := by
  obtain ⟨vs1, o1, n1, s1⟩ := h1
  obtain ⟨vs2, o2, n2, s2⟩ := h2
  obtain ⟨A1, g1, c1, rfl, a1, r1⟩ := lst_row o1 n1
  obtain ⟨A2, g2, c2, rfl, a2, r2⟩ := lst_row o2 n2
  have ex : ∀ i, i < l.length → ∃ x u1 u2, l[i]? = some x ∧ vs1[i]? = some u1 ∧ vs2[i]? = some u2 := fun i hi => ⟨_, _, _, List.getElem?_eq_getElem hi, List.getElem?_eq_getElem (by omega), List.getElem?_eq_getElem (by omega)⟩
  refine same_rows w A1 A2 g1 g2 l.length c1 c2 (ndF l vs1) (ndF l vs2) hl a1 a2 r1 r2 (fun i hi => ?_) (fun i hi => ?_) (fun i hi W hW => ?_)
  · obtain ⟨x, u1, u2, hx, hu1, hu2⟩ := ex i hi
    simp only [ndF, hx, hu1, hu2, and_self]
  · obtain ⟨x, u1, u2, hx, hu1, hu2⟩ := ex i hi
    simp only [ndF, hx, hu1, hu2]
    exact ⟨(s1 i x u1 hx hu1).form, (s2 i x u2 hx hu2).form⟩
  · obtain ⟨x, u1, u2, hx, hu1, hu2⟩ := ex i hi
    simp only [ndF, hx, hu1, hu2]
    exact same_leaves (hll x (List.mem_of_getElem? hx)) ((s1 i x u1 hx hu1).below hW) ((s2 i x u2 hx hu2).below hW)
theorem Lst.form {w : World} {base : Nat} {v : Value} {l : List Nd} (h : Lst w base v l) : ∃ A n c, v = .slice A n c := by
  obtain ⟨vs, o, n, s⟩ := h
  obtain ⟨A, c, rfl⟩ := own_slice o
  exact ⟨_, _, _, rfl⟩
theorem same_tops {w : World} {b1 b2 : Nat} {v1 v2 : Value} {l : List Nd} (op : Int) (s : ByteArray) (n : Int) (hl : l.length ≤ 100000) (hll : ∀ x ∈ l, x.l.length ≤ 100000) (h1 : Lst w b1 v1 l) (h2 : Lst w b2 v2 l) : Yes 7 #[ndV op s n v1, ndV op s n v2] w :=
  sameNode_yes op s n v1 v2 w (fun W hW => same_lists hl hll (h1.congr fun k hk => hW.block k hk) (h2.congr fun k hk => hW.block k hk)) h1.form h2.form
end Go.Proofs.YtmifmmpbmcfmpaaGreatDoor.IW
