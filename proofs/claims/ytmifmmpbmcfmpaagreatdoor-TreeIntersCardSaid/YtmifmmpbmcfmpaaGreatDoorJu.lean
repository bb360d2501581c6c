/-
  The library's Cut and ParseUint, as the program calls them.
-/
import Derived.Test.YtmifmmpbmcfmpaaGreatDoorJt
import Derived.Lib.IndexLaws
import Derived.Handy
set_option linter.unusedVariables false
set_option linter.unusedSimpArgs false
namespace Go.Proofs.YtmifmmpbmcfmpaaGreatDoor.IW
open Go Go.RowKit
set_option maxRecDepth 100000

theorem idx_some {s : ByteArray} {o : Nat} (h : Lib.indexByte s.data.toList 125 = (o : Int)) : o < s.size ∧ bt s o = 125 ∧ ∀ k, k < o → bt s k ≠ 125 := by
  obtain ⟨h1, h2⟩ := Lib.indexByte_some h
  have hb : bt s o = 125 := by rw [bt_list, h1]; rfl
  have ho := bt_pos hb (by decide)
  refine ⟨ho, hb, fun k hk e => h2 k hk ?_⟩
  rw [bt_list] at e
  have hl : k < s.data.toList.length := by have : s.data.toList.length = s.size := by simp
                                           omega
  rw [List.getElem?_eq_getElem hl] at e ⊢
  simp only [Option.map_some, Option.getD_some] at e
  congr 1
  exact UInt8.toNat_inj.1 (by show _ = 125; omega)
theorem idx_none {s : ByteArray} (h : Lib.indexByte s.data.toList 125 = -1) (k : Nat) : bt s k ≠ 125 := by
  intro e
  have hk := bt_pos e (by decide)
  have hl : k < s.data.toList.length := by have : s.data.toList.length = s.size := by simp
                                           omega
  rw [bt_list, List.getElem?_eq_getElem hl] at e
  simp only [Option.map_some, Option.getD_some] at e
  refine Lib.indexByte_none h k ?_
  rw [List.getElem?_eq_getElem hl]
  congr 1
  exact UInt8.toNat_inj.1 (by show _ = 125; omega)
theorem idx_cases (s : ByteArray) : Lib.indexByte s.data.toList 125 = -1 ∨ ∃ o : Nat, Lib.indexByte s.data.toList 125 = (o : Int) := by
  have := Lib.indexByte_ge s.data.toList 125
  by_cases h : Lib.indexByte s.data.toList 125 = -1
  · exact .inl h
  · exact .inr ⟨(Lib.indexByte s.data.toList 125).toNat, by omega⟩

set_option maxHeartbeats 1000000 in
theorem scut_no (s : ByteArray) (w : World) (h : Lib.indexByte s.data.toList 125 = -1) : Calls Tryz.prog 114 #[.string s, .string ⟨#[125]⟩] w fun e w' => e = .returned (.tuple #[.string s, .string ⟨#[]⟩, .bool false]) ∧ ∃ m, w' = w.drewN m := by
  have H := Aside0.mk h
  clear h
  go_enter Tryz.func114, Tryz.ntmps114
  go_wp2_with (go_at_call 140; refine (SH.stringslite_Index_one _ _ _).mono ?_; rintro e w2 ⟨rfl, hw⟩; rw [hw, H.out])
  go_ret3
  exact ⟨rfl, 0, rfl⟩
set_option maxHeartbeats 1000000 in
theorem scut_yes (s : ByteArray) (w : World) (o : Nat) (hm : s.size ≤ 1000000) (h : Lib.indexByte s.data.toList 125 = (o : Int)) : Calls Tryz.prog 114 #[.string s, .string ⟨#[125]⟩] w fun e w' => e = .returned (.tuple #[.string (s.extract 0 o), .string (s.extract (o + 1) s.size), .bool true]) ∧ ∃ m, w' = w.drewN m := by
  have H := Aside0.mk h
  have ho := (idx_some h).1
  have p1 : (0 : Int) ≤ (o : Int) := by omega
  have p2 : (o : Int) ≤ (s.size : Int) := by omega
  have p3 : (0 : Int) ≤ (o : Int) + 1 := by omega
  have p4 : (o : Int) + 1 ≤ (s.size : Int) := by omega
  have b9 : o + 1 ≤ 2000000 := by omega
  have wr1 := wrA (K := 1) o 1 rfl b9
  clear h ho b9 hm
  go_enter Tryz.func114, Tryz.ntmps114
  go_wp2_with (go_at_call 140; refine (SH.stringslite_Index_one _ _ _).mono ?_; rintro e w2 ⟨rfl, hw⟩; rw [hw, H.out])
  go_quiet (fail)
  go_wp2
  go_ret3
  exact ⟨rfl, _, rfl⟩
set_option maxHeartbeats 1000000 in
theorem cut_no (s : ByteArray) (w : World) (h : Lib.indexByte s.data.toList 125 = -1) : Calls Tryz.prog 90 #[.string s, .string ⟨#[125]⟩] w fun e w' => e = .returned (.tuple #[.string s, .string ⟨#[]⟩, .bool false]) ∧ ∃ m, w' = w.drewN m := by
  have H := Aside0.mk h
  clear h
  go_enter Tryz.func90, Tryz.ntmps90
  go_wp2_with (go_at_call 114; refine (scut_no _ _ H.out).mono ?_; rintro e w2 ⟨rfl, m, hw⟩; rw [hw])
  go_ret3
  exact ⟨rfl, _, rfl⟩
set_option maxHeartbeats 1000000 in
theorem cut_yes (s : ByteArray) (w : World) (o : Nat) (hm : s.size ≤ 1000000) (h : Lib.indexByte s.data.toList 125 = (o : Int)) : Calls Tryz.prog 90 #[.string s, .string ⟨#[125]⟩] w fun e w' => e = .returned (.tuple #[.string (s.extract 0 o), .string (s.extract (o + 1) s.size), .bool true]) ∧ ∃ m, w' = w.drewN m := by
  have H := Aside0.mk h
  have HM := Aside0.mk hm
  clear h hm
  go_enter Tryz.func90, Tryz.ntmps90
  go_wp2_with (go_at_call 114; refine (scut_yes _ _ o HM.out H.out).mono ?_; rintro e w2 ⟨rfl, m, hw⟩; rw [hw])
  go_ret3
  exact ⟨rfl, _, rfl⟩
/-- Whatever it gives. -/
theorem cut_some (s : ByteArray) (w : World) (hm : s.size ≤ 1000000) : Calls Tryz.prog 90 #[.string s, .string ⟨#[125]⟩] w fun e w' => ∃ d a b, e = .returned (.tuple #[.string d, .string a, .bool b]) ∧ d.size ≤ 1000000 ∧ ∃ m, w' = w.drewN m := by
  rcases idx_cases s with h | ⟨o, h⟩
  · exact (cut_no s w h).mono fun e w' ⟨h1, h2⟩ => ⟨_, _, _, h1, hm, h2⟩
  · exact (cut_yes s w o hm h).mono fun e w' ⟨h1, h2⟩ => ⟨_, _, _, h1, by rw [size_ext _ _ _ (by have := (idx_some h).1; omega)]; have := (idx_some h).1; omega, h2⟩

/-! ### ParseUint -/
theorem empty_of {p : ByteArray} (h : p.size = 0) : p = ⟨#[]⟩ := by
  cases p with
  | mk d =>
    cases d with
    | mk l =>
      cases l with
      | nil => rfl
      | cons x l => simp [ByteArray.size] at h
theorem iparse_any (p : ByteArray) (w : World) (hm : p.size ≤ 1000000) : Calls Tryz.prog 115 #[.string p, .int .i64 16, .int .i64 32] w fun e w' => e = .returned (.tuple #[.int .u64 (puOf p).1, (puOf p).2]) ∧ Below w.heap.size w w' := by
  by_cases h : p.size = 0
  · obtain rfl := empty_of h
    exact (SH.internal_strconv_ParseUint_empty 16 32 w).mono fun e w' ⟨h1, h2⟩ => ⟨h1, by rw [h2]; exact Below.refl _ _⟩
  · exact parse16_any p w h hm
theorem pu_snd (p : ByteArray) : ∀ (f i : Nat) (a : Int), (pu p f i a).2 = .nilIface ∨ (pu p f i a).2 = synt ∨ (pu p f i a).2 = rngE
  | 0, i, a => .inl rfl
  | f + 1, i, a => by
    unfold pu
    split
    · split
      · exact .inr (.inl rfl)
      · split
        · exact .inr (.inr rfl)
        · exact pu_snd p f _ _
    · exact .inl rfl
theorem puOf_snd (p : ByteArray) : (puOf p).2 = .nilIface ∨ (puOf p).2 = synt ∨ (puOf p).2 = rngE := by
  unfold puOf
  split
  · exact .inr (.inl rfl)
  · exact pu_snd p _ _ _
/-- The package variables of the library's errors. -/
structure EV (w : World) : Prop where
  v2 : ∃ ev, w.cell? ⟨2, 0, none⟩ = some ev ∧ (ev = .nilIface ∨ ∃ te pe, ev = .iface te pe)
  v3 : ∃ ev, w.cell? ⟨3, 0, none⟩ = some ev ∧ (ev = .nilIface ∨ ∃ te pe, ev = .iface te pe)
  lt : 3 < w.heap.size
theorem EV.of {w w' : World} (h : EV w) (h2 : w'.heap[2]? = w.heap[2]?) (h3 : w'.heap[3]? = w.heap[3]?) (hs : w.heap.size ≤ w'.heap.size) : EV w' := by
  obtain ⟨⟨a, a1, a2⟩, ⟨b, b1, b2⟩, l⟩ := h
  exact ⟨⟨a, by rw [World.cell?_of_block h2]; exact a1, a2⟩, ⟨b, by rw [World.cell?_of_block h3]; exact b1, b2⟩, by omega⟩
theorem EV.below {w w' : World} (h : EV w) (hB : Below w.heap.size w w') : EV w' := h.of (hB.block 2 (by have := h.lt; omega)) (hB.block 3 h.lt) hB.size
theorem EV.drewN {w : World} (h : EV w) (m : Nat) : EV (w.drewN m) := h.of rfl rfl (Nat.le_refl _)

set_option maxHeartbeats 1000000 in
theorem pu_ok (p : ByteArray) (w : World) (hm : p.size ≤ 1000000) (h : (puOf p).2 = .nilIface) : Calls Tryz.prog 91 #[.string p, .int .i64 16, .int .i64 32] w fun e w' => e = .returned (.tuple #[.int .u64 (puOf p).1, .nilIface]) ∧ Below w.heap.size w w' := by
  have H := Aside0.mk h
  have HM := Aside0.mk hm
  clear h hm
  go_enter Tryz.func91, Tryz.ntmps91
  go_wp2_with (go_at_call 115; refine (iparse_any _ _ HM.out).mono ?_; rintro e w2 ⟨rfl, hB⟩; rw [H.out])
  go_ret2
  exact ⟨rfl, hB⟩
set_option maxHeartbeats 1000000 in
theorem pu_err (p : ByteArray) (w : World) (hm : p.size ≤ 1000000) (hv : EV w) (h : (puOf p).2 = synt ∨ (puOf p).2 = rngE) : Calls Tryz.prog 91 #[.string p, .int .i64 16, .int .i64 32] w fun e w' => ∃ z N, e = .returned (.tuple #[.int .u64 z, .iface 168 (.pointer (some ⟨N, 0, none⟩))]) ∧ Below w.heap.size w w' := by
  have HM := Aside0.mk hm
  have HL : Aside0 (p.size ≤ 281474976710656) := ⟨by omega⟩
  have HV := Aside0.mk hv
  clear hm hv
  rcases h with h | h
  · have H := Aside0.mk h
    clear h
    go_enter Tryz.func91, Tryz.ntmps91
    go_wp2_with first
      | (go_at_call 115; refine (iparse_any _ _ HM.out).mono ?_; rintro e w2 ⟨rfl, hB⟩; rw [H.out]; unfold synt; obtain ⟨ev, hev1, hev2⟩ := (HV.out.below hB).v2; have HE1 := Aside0.mk hev1; have HE2 := Aside0.mk hev2; have HB := Aside0.mk hB; clear hev1 hev2 hB)
      | (go_at_call 116; refine (SH.strconv_toError_syntax _ _ _ _ ev _ HL.out HE1.out HE2.out).mono ?_; rintro e w3 ⟨N, rfl, hN, hblk, hB3⟩; have HB3 := Aside0.mk hB3; clear hN hblk hB3)
    go_ret2
    exact ⟨_, _, rfl, HB.out.trans (HB3.out.mono HB.out.size)⟩
  · have H := Aside0.mk h
    clear h
    go_enter Tryz.func91, Tryz.ntmps91
    go_wp2_with first
      | (go_at_call 115; refine (iparse_any _ _ HM.out).mono ?_; rintro e w2 ⟨rfl, hB⟩; rw [H.out]; unfold rngE; obtain ⟨ev, hev1, hev2⟩ := (HV.out.below hB).v3; have HE1 := Aside0.mk hev1; have HE2 := Aside0.mk hev2; have HB := Aside0.mk hB; clear hev1 hev2 hB)
      | (go_at_call 116; refine (SH.strconv_toError_range _ _ _ _ ev _ HL.out HE1.out HE2.out).mono ?_; rintro e w3 ⟨N, rfl, hN, hblk, hB3⟩; have HB3 := Aside0.mk hB3; clear hN hblk hB3)
    go_ret2
    exact ⟨_, _, rfl, HB.out.trans (HB3.out.mono HB.out.size)⟩
theorem pu_some (p : ByteArray) (w : World) (hm : p.size ≤ 1000000) (hv : EV w) : Calls Tryz.prog 91 #[.string p, .int .i64 16, .int .i64 32] w fun e w' => ∃ z er, e = .returned (.tuple #[.int .u64 z, er]) ∧ Below w.heap.size w w' := by
  rcases puOf_snd p with h | h
  · exact (pu_ok p w hm h).mono fun e w' ⟨h1, h2⟩ => ⟨_, _, h1, h2⟩
  · exact (pu_err p w hm hv h).mono fun e w' ⟨z, N, h1, h2⟩ => ⟨z, _, h1, h2⟩
end Go.Proofs.YtmifmmpbmcfmpaaGreatDoor.IW
