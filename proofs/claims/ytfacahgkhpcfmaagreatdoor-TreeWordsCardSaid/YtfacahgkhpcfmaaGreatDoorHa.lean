/-
  Contracts of tree.functions, tree.words, tree.Arity and tree.IsName.
-/
import Derived.Test.YtfacahgkhpcfmaaGreatDoorK
import Derived.Test.YtfacahgkhpcfmaaGreatDoorPTreeWordsx6
import Derived.WalkKit
import Derived.Deep.QuietTactic
import Derived.BigQuiet
set_option linter.unusedVariables false
set_option linter.unusedSimpArgs false
namespace Go.Proofs.YtfacahgkhpcfmaaGreatDoor.HW
open Go Go.S2 Go.Proofs.YtfacahgkhpcfmaaGreatDoor.S2T Go.RowKit Go.Proofs.YtfacahgkhpcfmaaGreatDoorW.PrintWords Go.Proofs.YtfacahgkhpcfmaaGreatDoor.PTreeWords
set_option maxRecDepth 100000

def tbl : List (List UInt8 × Int × Int × List UInt8) := [([112, 114, 105, 110, 116], 0, (-1), []), ([112, 117, 115, 104], 1, (-1), [97, 114, 114, 97, 121]), ([117, 110, 115, 104, 105, 102, 116], 1, (-1), [97, 114, 114, 97, 121]), ([112, 111, 112], 1, 1, [97, 114, 114, 97, 121]), ([115, 104, 105, 102, 116], 0, 1, [97, 114, 114, 97, 121]), ([107, 101, 121, 115], 1, 1, [104, 97, 115, 104]), ([118, 97, 108, 117, 101, 115], 1, 1, [104, 97, 115, 104]), ([100, 101, 108, 101, 116, 101], 1, 1, [101, 108, 101, 109, 101, 110, 116]), ([101, 120, 105, 115, 116, 115], 1, 1, [101, 108, 101, 109, 101, 110, 116]), ([100, 101, 102, 105, 110, 101, 100], 1, 1, []), ([115, 99, 97, 108, 97, 114], 1, 1, []), ([119, 97, 110, 116, 97, 114, 114, 97, 121], 0, 0, []), ([106, 111, 105, 110], 1, (-1), []), ([115, 112, 108, 105, 116], 2, 2, [112, 97, 116, 116, 101, 114, 110]), ([114, 101, 118, 101, 114, 115, 101], 0, (-1), []), ([108, 101, 110, 103, 116, 104], 1, 1, []), ([115, 117, 98, 115, 116, 114], 2, 3, []), ([105, 110, 100, 101, 120], 2, 2, []), ([117, 99], 1, 1, []), ([108, 99], 1, 1, []), ([111, 114, 100], 1, 1, []), ([99, 104, 114], 1, 1, []), ([114, 101, 102], 1, 1, []), ([98, 108, 101, 115, 115], 2, 2, []), ([100, 105, 101], 0, (-1), []), ([119, 101, 97, 107, 101, 110], 1, 1, [115, 99, 97, 108, 97, 114]), ([116, 105, 101], 2, (-1), [115, 99, 97, 108, 97, 114]), ([117, 110, 116, 105, 101], 1, 1, [115, 99, 97, 108, 97, 114]), ([105, 110, 112, 117, 116], 0, 0, []), ([103, 117, 97, 114, 100], 1, 1, []), ([116, 97, 105, 110, 116, 101, 100], 1, 1, []), ([97, 98, 115], 1, 1, []), ([117, 110, 100, 101, 102], 0, 1, [97, 110, 121]), ([101, 118, 97, 108, 117, 97, 116, 101], 1, 1, [])]
def wds : List (List UInt8) := [[109, 121], [111, 117, 114], [108, 111, 99, 97, 108], [115, 117, 98], [114, 101, 116, 117, 114, 110], [112, 97, 99, 107, 97, 103, 101], [108, 97, 115, 116], [110, 101, 120, 116], [105, 102], [117, 110, 108, 101, 115, 115], [101, 108, 115, 105, 102], [101, 108, 115, 101], [119, 104, 105, 108, 101], [117, 110, 116, 105, 108], [102, 111, 114], [100, 111], [101, 118, 97, 108], [109, 97, 112], [103, 114, 101, 112], [115, 111, 114, 116], [97, 110, 100], [111, 114], [110, 111, 116], [120], [108, 116], [103, 116], [108, 101], [103, 101], [101, 113], [110, 101], [99, 109, 112], [66, 69, 71, 73, 78], [69, 78, 68], [113], [113, 113], [113, 119], [109], [115], [116, 114]]
def wl : List ByteArray := wds.map fun l => ⟨⟨l⟩⟩

def lk (s : List UInt8) : List (List UInt8 × Int × Int × List UInt8) → Option (Int × Int × List UInt8)
  | [] => none
  | x :: r => if s == x.1 then some x.2 else lk s r

def ar (s : ByteArray) : Int × Int × List UInt8 × Bool := match lk s.data.toList tbl with
  | some v => (v.1, v.2.1, v.2.2, true)
  | none => (0, 0, [], false)

def rowV (v : Int × Int × List UInt8) : V := .agg [.int .i64 v.1, .int .i64 v.2.1, .str v.2.2]
def fes : List (V × V) := tbl.map fun x => (.str x.1, rowV x.2)

theorem findA_tbl (s : List UInt8) : ∀ t : List (List UInt8 × Int × Int × List UInt8), findA (.str s) (t.map fun x => (.str x.1, rowV x.2)) = some ((lk s t).map rowV)
  | [] => rfl
  | x :: r => by
    simp only [List.map_cons, findA, sameKey, lk]
    cases h : (s == x.1)
    · simp only [Bool.false_eq_true, if_false]
      exact findA_tbl s r
    · simp

theorem functions_run : runA C1 1000 18 [] (smallH []) = .ok (.map (some 512)) (pushA 512 M0.nb (smallH [])) := by kernel_rfl
theorem functions_get : (pushA 512 M0.nb (smallH [])).get 512 = some (.map fes) := by kernel_rfl
theorem tk41 : tkind C1 41 = .map 9 39 := by kernel_rfl
theorem tk9 : tkind C1 9 = .string := by kernel_rfl
theorem z39 : zeroA C1 39 = some (.agg [.int .i64 0, .int .i64 0, .str []]) := by kernel_rfl

def arV (s : ByteArray) : V := .tuple [.agg [.int .i64 (ar s).1, .int .i64 (ar s).2.1, .str (ar s).2.2.1], .bool (ar s).2.2.2]
def arX (s : ByteArray) : Value := .tuple #[.agg #[.int .i64 (ar s).1, .int .i64 (ar s).2.1, .string ⟨⟨(ar s).2.2.1⟩⟩], .bool (ar s).2.2.2]

theorem lookup_ar (s : ByteArray) : lookupA C1 41 (.map (some 512)) (.str s.data.toList) true (pushA 512 M0.nb (smallH [])) = some (arV s) := by
  unfold lookupA
  rw [tk41]
  simp only [tk9, keyFits, entsA, functions_get, Option.bind_some, fes, findA_tbl, z39]
  unfold arV ar
  cases lk s.data.toList tbl <;> rfl

theorem VRs_two {m : Km} {a b : V} {l : List Value} (h : VRs m [a, b] l) : ∃ x y, l = [x, y] ∧ VR m a x ∧ VR m b y := by
  match l, h with
  | [x, y], h => simp only [VRs] at h; exact ⟨x, y, rfl, h.1, h.2.1⟩
theorem VRs_three {m : Km} {a b c : V} {l : List Value} (h : VRs m [a, b, c] l) : ∃ x y z, l = [x, y, z] ∧ VR m a x ∧ VR m b y ∧ VR m c z := by
  match l, h with
  | [x, y, z], h => simp only [VRs] at h; exact ⟨x, y, z, rfl, h.1, h.2.1, h.2.2.1⟩

theorem arV_X {m : Km} {s : ByteArray} {u : Value} (h : VR m (arV s) u) : u = arX s := by
  unfold arV at h
  simp only [VR] at h
  obtain ⟨a, rfl, h⟩ := h
  obtain ⟨x, y, ha, hx, hy⟩ := VRs_two h
  simp only [VR] at hx hy
  obtain ⟨b, rfl, h2⟩ := hx
  obtain ⟨p, q, r, hb, hp, hq, hr⟩ := VRs_three h2
  simp only [VR] at hp hq hr
  subst hp hq hr hy
  obtain ⟨l⟩ := a
  obtain ⟨l2⟩ := b
  simp only at ha hb
  subst ha hb
  rfl

/-- What 'functions' gives: a map of its own, whose look-ups are known. -/
def FunOut (w : World) (e : Ending) (w' : World) : Prop := ∃ c, e = .returned (.map (some c)) ∧ Below w.heap.size w w' ∧
  ∀ s : ByteArray, (Instr.lookup 41 (.map (some c)) (.string s) true).run Tryz.prog w' = .ok (arX s) w'

theorem functions_any (w : World) : Calls Tryz.prog 18 #[] w (FunOut w) := by
  obtain ⟨c, hb⟩ : ∃ c, Go.Proofs.Tryz.f18.body = some c := ⟨_, rfl⟩
  refine (call_big C1_good Go.Proofs.Tryz.func18 hb (by decide +kernel) (by decide +kernel) (by decide) rfl functions_run (w := w) (fun x hx => by cases hx) (by simp [VRs])).mono fun e w' ⟨m, u, e1, e2, e3, e4, e5, e6, e7, e8⟩ => ?_
  have e2' := e2
  simp only [VR] at e2
  obtain ⟨c, b, n, z, hm, rfl⟩ := e2
  refine ⟨c, e1, ⟨e6, e7, e8, e5, e4⟩, fun s => ?_⟩
  obtain ⟨u, h1, h2⟩ := lookupA_s (P := Go.Proofs.Tryz.prog) (C1_good w.heap.size).ok e3 (t := 41) (ok := true) e2' (k := .str s.data.toList) (kv := .string s) (by simp [VR]) (lookup_ar s)
  rw [h1, arV_X h2]

theorem strs_cells {m : Km} : ∀ (ss : List (List UInt8)) (l : List Value), VRs m (ss.map .str) l → l = ss.map fun s => .string ⟨⟨s⟩⟩
  | [], l, h => by cases l <;> simp [VRs] at h ⊢
  | s :: ss, [], h => by simp [VRs] at h
  | s :: ss, x :: l, h => by
    simp only [List.map_cons, VRs, VR] at h ⊢
    rw [h.1, strs_cells ss l h.2]

theorem words_run : runA C1 1000 21 [] (smallH [(0, glob0)]) = .ok (.slice (some (512, 0)) 39 39 true) (pushA 512 M2.nb (smallH [(0, glob0)])) := by kernel_rfl
theorem words_get : (pushA 512 M2.nb (smallH [(0, glob0)])).get 512 = some (.cells (wds.map .str) 9 false 0) := by kernel_rfl

def WordsOut (w : World) (e : Ending) (w' : World) : Prop := ∃ A c, e = .returned (.slice A wl.length c) ∧ wl.length ≤ c ∧ Kd.C Kd.string w' A wl.length wl ∧ Below w.heap.size w w'

theorem words_any (w : World) (hl : Laid C1 w [(0, glob0)]) : Calls Tryz.prog 21 #[] w (WordsOut w) := by
  obtain ⟨c, hb⟩ : ∃ c, Go.Proofs.Tryz.f21.body = some c := ⟨_, rfl⟩
  refine (call_big C1_good Go.Proofs.Tryz.func21 hb (by decide +kernel) (by decide +kernel) (by decide) rfl words_run (w := w) hl (by simp [VRs])).mono fun e w' ⟨m, u, e1, e2, e3, e4, e5, e6, e7, e8⟩ => ?_
  simp only [VR] at e2
  obtain ⟨c, b, n, z, cap', hm, hc1, hc2, hc3, hx⟩ := e2
  obtain ⟨c2, b2, n2, z2, hm2, arr, fr, ⟨ew, hg, hew⟩, q1, q2, q3, q4, q5, q6⟩ := e3.obj _ _ words_get
  rw [hm] at hm2
  simp only [Option.some.injEq, Prod.mk.injEq] at hm2
  obtain ⟨rfl, rfl, rfl, rfl⟩ := hm2
  rcases hx with ⟨p, h1, h2, _⟩ | rfl
  · omega
  have hcells := strs_cells _ _ q4
  have hlen : (wds.map V.str).length = 39 := by decide
  refine ⟨some ⟨c, b + 0, none⟩, cap', e1, hc1, ?_, ⟨e6, e7, e8, e5, e4⟩⟩
  refine Kd.C_of_reads (d := ByteArray.empty) ⟨rfl, by decide, fun _ => ⟨_, rfl, fun j hj => ?_⟩⟩
  have hj' : j < 39 := hj
  have h1 : ((arr.toList.drop b).take 39)[j]? = some (.string (wl.getD j ByteArray.empty)) := by
    rw [← hlen, hcells]
    simp only [wl, List.getD_eq_getElem?_getD, List.getElem?_map]
    have hj2 : j < wds.length := hj'
    simp [List.getElem?_eq_getElem hj2]
  rw [List.getElem?_take_of_lt hj', List.getElem?_drop] at h1
  rw [addr_add]
  simp only [World.cell?, hg]
  simpa using h1

set_option maxHeartbeats 4000000 in
theorem arity_any (s : ByteArray) (w : World) : Calls Tryz.prog 7 #[.string s] w fun e w' => e = .returned (.tuple #[.int .i64 (ar s).1, .int .i64 (ar s).2.1, .bool (ar s).2.2.2]) ∧ Below w.heap.size w w' := by
  go_enter Tryz.func7, Tryz.ntmps7
  go_wp2_with (go_at_call 18; refine (functions_any _).mono ?_; rintro e w' ⟨c, rfl, hb, hlook⟩; have hl := hlook s; clear hlook; unfold arX at hl)
  go_quiet (fail)
  go_wp2
  go_ret3
  exact ⟨rfl, pw_below_drewN (below_alloc hb _) _⟩

theorem laid_below {C : Ctx} {w w1 : World} {need : List (Nat × O)} (hl : Laid C w need) (hb : Below w.heap.size w w1) : Laid C w1 need := by
  intro x hx
  obtain ⟨cs, e, arr, e', fr, h1, h2, h3, h4⟩ := hl x hx
  exact ⟨cs, e, arr, e', fr, h1, by rw [hb.block _ (Array.getElem?_eq_some_iff.1 h2).1]; exact h2, h3, h4⟩

set_option maxHeartbeats 8000000 in
theorem isname_any (s : ByteArray) (w : World) (k : Nat) (b c : Bool) (hl : Laid C1 w [(0, glob0)]) (hw : lex_IsWord.f k s = some b) (hc : slices_Contains_string_string.f k wl s = some c) :
    Calls Tryz.prog 8 #[.string s] w fun e w' => e = .returned (.bool (b && !(ar s).2.2.2 && !c)) ∧ Below w.heap.size w w' := by
  have HW := Aside0.mk hw
  have HC := Aside0.mk hc
  have HL := Aside0.mk hl
  clear hw hc hl
  rcases har : ar s with ⟨a1, a2, a3, a4⟩
  have HX : Aside0 (arX s = .tuple #[.agg #[.int .i64 a1, .int .i64 a2, .string ⟨⟨a3⟩⟩], .bool a4]) := ⟨by rw [arX, har]⟩
  clear har
  cases b
  · go_enter Tryz.func8, Tryz.ntmps8
    go_wp2_with (first
      | (go_at_call 18; refine (functions_any _).mono ?_; rintro e w' ⟨c, rfl, hb, hlook⟩; have hl := hlook s; rw [HX.out] at hl; clear hlook)
      | (go_at_call 19; (with_reducible refine (lex_IsWord.calls k s false _ HW.out).mono ?_); rintro e w' ⟨rfl, ⟨nd, rfl⟩⟩))
    go_ret
    exact ⟨by simp, by repeat (first | exact hb | apply below_alloc | apply pw_below_drewN)⟩
  · cases a4
    · cases c
      all_goals
        go_enter Tryz.func8, Tryz.ntmps8
        go_wp2_with (first
          | (go_at_call 18; refine (functions_any _).mono ?_; rintro e w' ⟨c, rfl, hb, hlook⟩; have hl := hlook s; rw [HX.out] at hl; clear hlook)
          | (go_at_call 19; (with_reducible refine (lex_IsWord.calls k s true _ HW.out).mono ?_); rintro e w' ⟨rfl, ⟨nd, rfl⟩⟩)
          | (go_at_call 21; refine (words_any _ (laid_below HL.out ?hb1)).mono ?_; (case hb1 => (repeat (first | exact hb | apply below_alloc | apply pw_below_drewN))); rintro e w2 ⟨A, c, rfl, hc, hC, hb2⟩; have HCC := Aside0.mk hC; have Hc := Aside0.mk hc; clear hC hc)
          | (go_at_call 20; refine (slices_Contains_string_string.calls k A c wl s _ _ HCC.out Hc.out HC.out).mono ?_; rintro e w' ⟨rfl, ⟨nd2, rfl⟩⟩))
        go_ret
        exact ⟨by simp, pw_below_drewN (below_step (by (repeat (first | exact hb | apply below_alloc | apply pw_below_drewN))) hb2) _⟩
    · go_enter Tryz.func8, Tryz.ntmps8
      go_wp2_with (first
        | (go_at_call 18; refine (functions_any _).mono ?_; rintro e w' ⟨c, rfl, hb, hlook⟩; have hl := hlook s; rw [HX.out] at hl; clear hlook)
        | (go_at_call 19; (with_reducible refine (lex_IsWord.calls k s true _ HW.out).mono ?_); rintro e w' ⟨rfl, ⟨nd, rfl⟩⟩))
      go_ret
      exact ⟨by simp, by repeat (first | exact hb | apply below_alloc | apply pw_below_drewN)⟩
end Go.Proofs.YtfacahgkhpcfmaaGreatDoor.HW
