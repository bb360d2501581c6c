/-
  A text appended; the reference's Write, the library's WriteRune.
-/
import Derived.Test.YtmifmmpbmcfmpaaGreatDoorJw
set_option linter.unusedVariables false
set_option linter.unusedSimpArgs false
namespace Go.Proofs.YtmifmmpbmcfmpaaGreatDoor.IW
open Go Go.RowKit
set_option maxRecDepth 100000

theorem info5z : (Tryz.prog.info? 5).map (fun i => (i.zero, i.size, i.bytes)) = some (some (.int .u8 0), 1, 1) := by kernel_rfl
theorem info5s : ∃ i, Tryz.prog.info? 5 = some i ∧ i.zero = some (.int .u8 0) ∧ i.size = 1 ∧ i.bytes = 1 := by
  have h := info5z
  cases hi : Tryz.prog.info? 5 with
  | none => rw [hi] at h; cases h
  | some i =>
    rw [hi] at h
    simp only [Option.map_some, Option.some.injEq, Prod.mk.injEq] at h
    exact ⟨i, rfl, h.1, h.2.1, h.2.2⟩

/-- A string's bytes appended: where the row lies. -/
theorem run_append_str (w : World) (base : Nat) (ty : TypeId) (v : Value) (n : Nat) (xs : List Value) (hown : w.ownsRow base 5 1 v n xs) (s : ByteArray) (h0 : 0 < s.size) (hs : s.size ≤ 1000000) (hn : n ≤ 200000) (hbase : base ≤ w.heap.size) :
    ∃ g cap w', (Builtin.append_ #[46, 9] ty #[v, .string s]).run Tryz.prog w = .ok (.slice (some ⟨g, 0, none⟩) (n + s.size) cap) w' ∧ w'.ownsRow base 5 1 (.slice (some ⟨g, 0, none⟩) (n + s.size) cap) (n + s.size) (xs ++ Lib.strCells s) ∧
      w.grownBy w' v.ownBlock ∧ (v.ownBlock = some g ∨ w.heap.size ≤ g) := by
  obtain ⟨i, hi, hz, hsize, hby⟩ := info5s
  have h63 : n + s.size ≤ maxLen := by simp only [maxLen]; omega
  obtain ⟨v', w', hr, hown', hgrow, hiff⟩ := Lib.run_append_own_string (P := Tryz.prog) w base 46 9 ty 5 i Tryz.underlying46 Tryz.underlying9 hi hz hsize hby v n xs hown s h63 (by omega) hbase
  obtain ⟨g, cap, rfl, hbg, hlt⟩ := hown'.form (by omega)
  refine ⟨g, cap, w', hr, hown', hgrow, ?_⟩
  rcases hown.2 with ⟨rfl, rfl⟩ | ⟨g0, cap0, cur, rfl, k1, k2, k3, k4, k5, k6⟩
  · right
    have hx : xs = [] := List.eq_nil_of_length_eq_zero (by simpa using hown.1)
    subst hx
    obtain ⟨v2, w2, hr2, hown2, _, _⟩ := Lib.run_append_own_string (P := Tryz.prog) w w.heap.size 46 9 ty 5 i Tryz.underlying46 Tryz.underlying9 hi hz hsize hby (.slice none 0 0) 0 [] (World.ownsRow_nil w _ _ _) s h63 (by omega) (Nat.le_refl _)
    rw [hr] at hr2
    injection hr2 with e1 e2
    subst e1
    obtain ⟨g2, cap2, e3, hb2, _⟩ := hown2.form (by omega)
    cases e3
    exact hb2
  · by_cases hroom : n + s.size ≤ cap0
    · left
      have hr2 := Lib.run_append_room_string (P := Tryz.prog) w 46 9 ty 5 i Tryz.underlying46 Tryz.underlying9 hi hsize g0 n cap0 cur k2 s hroom (by omega)
      rw [hr] at hr2
      injection hr2 with e1 e2
      injection e1 with e3
      injection e3 with e4
      injection e4 with e5
      rw [e5]; rfl
    · right
      have holds : ∀ j u, xs[j]? = some u → w.cell? ((⟨g0, 0, none⟩ : Addr).add j) = some u := hown.cells (g := g0) rfl
      have hxl : xs.length = n := by simpa using hown.1
      have hr2 := Lib.run_append_grow_string (P := Tryz.prog) w 46 9 ty 5 i (.int .u8 0) Tryz.underlying46 Tryz.underlying9 hi hz ⟨g0, 0, none⟩ n cap0 xs (by rw [hsize]; omega) holds s (by omega) (by omega) (by rw [hby]; exact growslice_fits (by omega) (by omega))
      rw [hr] at hr2
      injection hr2 with e1 e2
      injection e1 with e3
      injection e3 with e4
      injection e4 with e5
      omega

theorem wp_append_str {o : Oper} {a : Act} {w : World} {K : Act → World → Prop} {Q : Exit → Act → World → Prop} (sl x : Operand) (ho : o.op = .call { callee := .builtin .append, args := #[sl, x], argTypes := #[46, 9] })
    (base : Nat) (v : Value) (n : Nat) (xs : List Value) (hs : a.eval sl = v) (hown : w.ownsRow base 5 1 v n xs) (s : ByteArray) (hx : a.eval x = .string s) (h0 : 0 < s.size) (hss : s.size ≤ 1000000) (hn : n ≤ 200000) (hbase : base ≤ w.heap.size)
    (h : ∀ g cap w', w'.ownsRow base 5 1 (.slice (some ⟨g, 0, none⟩) (n + s.size) cap) (n + s.size) (xs ++ Lib.strCells s) → w.grownBy w' v.ownBlock → (v.ownBlock = some g ∨ w.heap.size ≤ g) → K (a.put o.dst (.slice (some ⟨g, 0, none⟩) (n + s.size) cap)) w') : o.wp Tryz.prog a w K Q := by
  obtain ⟨g, cap, w', hr, h2, h3, h4⟩ := run_append_str w base o.type v n xs hown s h0 hss hn hbase
  unfold Oper.wp execOp
  simp only [ho, resolve, invoke, builtin, Sem.run_bind, Sem.run_pure, Result.andThen_ok, List.map_toArray, List.map_cons, List.map_nil, hs, hx, hr]
  exact h g cap w' h2 h3 h4
theorem wpList_append_str {ops : Array Oper} {rest : List Oper} {o : Oper} {a : Act} {w : World} {Q : Exit → Act → World → Prop} (hgd : o.guard = none) (sl x : Operand) (ho : o.op = .call { callee := .builtin .append, args := #[sl, x], argTypes := #[46, 9] })
    (base : Nat) (v : Value) (n : Nat) (xs : List Value) (hs : a.eval sl = v) (hown : w.ownsRow base 5 1 v n xs) (s : ByteArray) (hx : a.eval x = .string s) (h0 : 0 < s.size) (hss : s.size ≤ 1000000) (hn : n ≤ 200000) (hbase : base ≤ w.heap.size)
    (h : ∀ g cap w', w'.ownsRow base 5 1 (.slice (some ⟨g, 0, none⟩) (n + s.size) cap) (n + s.size) (xs ++ Lib.strCells s) → w.grownBy w' v.ownBlock → (v.ownBlock = some g ∨ w.heap.size ≤ g) → wpList Tryz.prog ops Q rest (a.put o.dst (.slice (some ⟨g, 0, none⟩) (n + s.size) cap)) w') : wpList Tryz.prog ops Q (o :: rest) a w := by
  refine wpList_plain hgd fun K hK => ?_
  exact wp_append_str sl x ho base v n xs hs hown s hx h0 hss hn hbase fun g cap w' h1 h2 h3 => hK _ _ (h g cap w' h1 h2 h3)
theorem step_append_str {ops : Array Oper} {o : Oper} {a : Act} {w : World} {K : Act → World → Prop} {Q : Exit → Act → World → Prop} {E : Prop} (hgd : o.guard = none) (sl x : Operand) (ho : o.op = .call { callee := .builtin .append, args := #[sl, x], argTypes := #[46, 9] })
    (base : Nat) (v : Value) (n : Nat) (xs : List Value) (hs : a.eval sl = v) (hown : w.ownsRow base 5 1 v n xs) (s : ByteArray) (hx : a.eval x = .string s) (h0 : 0 < s.size) (hss : s.size ≤ 1000000) (hn : n ≤ 200000) (hbase : base ≤ w.heap.size)
    (h : ∀ g cap w', w'.ownsRow base 5 1 (.slice (some ⟨g, 0, none⟩) (n + s.size) cap) (n + s.size) (xs ++ Lib.strCells s) → w.grownBy w' v.ownBlock → (v.ownBlock = some g ∨ w.heap.size ≤ g) → K (a.put o.dst (.slice (some ⟨g, 0, none⟩) (n + s.size) cap)) w') :
    if Region.wanted o (yielded ops a.tmps) = true then Oper.wp Tryz.prog o a w K Q else E := by
  have hw : Region.wanted o (yielded ops a.tmps) = true := by simp [Region.wanted, hgd]
  rw [if_pos hw]
  exact wp_append_str sl x ho base v n xs hs hown s hx h0 hss hn hbase h

theorem rune_str (c : Int) : Lib.strCells ⟨(Lib.encodeRune c).toArray⟩ = byteCells (Lib.encodeRune c) := by
  unfold Lib.strCells byteCells; simp
theorem rune_size (c : Int) : (⟨(Lib.encodeRune c).toArray⟩ : ByteArray).size = (Lib.encodeRune c).length := by simp [ByteArray.size]
theorem rune_len (c : Int) : 1 ≤ (Lib.encodeRune c).length ∧ (Lib.encodeRune c).length ≤ 4 := by
  have := Lib.runeCells_le c
  rw [Lib.runeCells_length] at this
  exact this

set_option maxHeartbeats 1000000 in
theorem write_any (c : Int) (g : Nat) (w : World) (hc : isCh c = true) (hg : w.cell? ⟨g, 0, none⟩ = some (.int .i64 c)) : Calls Tryz.prog 48 #[.slice (some ⟨g, 0, none⟩) 1 1] w fun e w' => e = .returned (.string ⟨(Lib.encodeRune c).toArray⟩) ∧ Below w.heap.size w w' := by
  have HC := Aside0.mk hc
  have hl := rune_len c
  obtain ⟨S, hS⟩ : ∃ S : ByteArray, S = ⟨(Lib.encodeRune c).toArray⟩ := ⟨_, rfl⟩
  have hsz : S.size = (Lib.encodeRune c).length := by rw [hS]; exact rune_size c
  have HS0 : Aside0 (0 < S.size) := ⟨by omega⟩
  have HS1 : Aside0 (S.size ≤ 1000000) := ⟨by omega⟩
  have HSE := Aside0.mk hS
  rw [← hS]
  clear hl hsz hS
  go_enter Tryz.func48, Tryz.ntmps48
  go_wp2
  go_loopg [3, 4] 1 (fun kq v3 v4 w' => (kq = 1 ∧ v3 = .slice none 0 0 ∧ v4 = .int .i64 0 ∧ w' = w) ∨ (kq = 0 ∧ v4 = .int .i64 1 ∧ (∃ g2 cap2, v3 = .slice (some ⟨g2, 0, none⟩) S.size cap2 ∧ Aside0 (w'.ownsRow w.heap.size 5 1 (.slice (some ⟨g2, 0, none⟩) S.size cap2) S.size (Lib.strCells S))) ∧ Aside0 (Below w.heap.size w w')))
  case atStart => exact .inl ⟨rfl, rfl, rfl, rfl⟩
  case round =>
    rcases hrel with ⟨rfl, rfl, rfl, rfl⟩ | ⟨rfl, rfl, ⟨g2, cap2, rfl, HO⟩, HB⟩
    · go_wp2_with first
        | (go_at_call 83; refine (one_any _ _ HC.out).mono ?_; rintro e w2 ⟨rfl, hB⟩; rw [← HSE.out]; have HB := Aside0.mk hB; clear hB)
        | (at_builtin; refine wpList_append_str rfl (.tmp 11) (.tmp 16) rfl wr.heap.size (.slice none 0 0) 0 [] rfl (World.ownsRow_nil _ _ _ _) S rfl HS0.out HS1.out (by decide) HB.out.size ?_; intro g2 cap2 w3 hown hgrow hat; have HO := Aside0.mk hown; have HG := Aside0.mk hgrow; clear hown hgrow hat)
      go_roundg 0
      case measure => omega
      case rel =>
        refine .inr ⟨rfl, rfl, ⟨g2, cap2, rfl, ⟨?_⟩⟩, ⟨?_⟩⟩
        · have h := HO.out; rw [Nat.zero_add, List.nil_append] at h; exact h
        · have hG := HG.out
          exact HB.out.trans ⟨hG.os, hG.tape, hG.output, hG.size, fun k hk => hG.block k (by have := HB.out.size; omega) (by simp [Value.ownBlock])⟩
    · have hcv := conv_own (W := wr) (base := w.heap.size) (g := g2) (cap := cap2) (bs := Lib.encodeRune c) (by
        have h := HO.out
        rw [HSE.out, rune_str, rune_size] at h
        exact h)
      rw [show (Lib.encodeRune c).length = S.size by rw [HSE.out, rune_size], ← HSE.out] at hcv
      go_wp2
      go_ret
      exact ⟨rfl, HB.out⟩

set_option maxHeartbeats 1000000 in
theorem writeRune_any (w : World) (base b : Nat) (s : ByteArray) (v1 tv : Value) (bs : List UInt8) (lv : Value) (nds : List Nd) (vs : List Value) (c : Int) (hc : isCh c = true) (R : RI w base b 54 s v1 tv bs lv nds vs) (ha : okA b v1) (hl : bs.length ≤ 100000) :
    Calls Tryz.prog 56 #[.pointer (some ⟨b, 1, none⟩), .int .i32 c] w fun e w' => (∃ r, e = .returned r) ∧ ∃ tv', RI w' base b 54 s (.pointer (some ⟨b, 1, none⟩)) tv' (bs ++ Lib.encodeRune c) lv nds vs ∧ Fr w w' b tv lv tv' lv := by
  have HC := Aside0.mk hc
  have HR := Aside0.mk R
  have HA := Aside0.mk ha
  have HL : Aside0 (bs.length ≤ 200000) := ⟨by omega⟩
  obtain ⟨A, c0, htv⟩ := own_slice R.txt
  have HTV := Aside0.mk htv
  clear R ha hl htv hc
  go_enter Tryz.func56, Tryz.ntmps56
  go_wp2_with first
    | (go_at_call 63; refine (copyCheck_any _ base b s v1 tv bs lv nds vs HR.out HA.out).mono ?_; rintro e w2 ⟨rfl, hR, hF⟩; rw [HTV.out] at hR hF; have HF := Aside0.mk hF; have HW := Aside0.mk hR; have HBW : Aside0 (base ≤ w2.heap.size) := ⟨by have := (Array.getElem?_eq_some_iff.1 hR.blk).1; have := hR.hb; omega⟩; obtain ⟨x0, x1, x2, x3, xf⟩ := hR.cell; clear hR hF)
    | (go_at_call 93; refine (appendRune_any w2 base (.slice A bs.length c0) bs.length (byteCells bs) c HW.out.txt HL.out HBW.out HC.out).mono ?_; rintro e w3 ⟨g, cap, rfl, hAR⟩; have HAR := Aside0.mk hAR; have hblk : w3.heap[b]? = some (.cells #[.string s, .pointer (some ⟨b, 1, none⟩), .slice A bs.length c0, lv] 54 (0, 0)) := (by
        obtain ⟨o, hg, _⟩ := hAR.grown
        rw [hg.block b (by have := (Array.getElem?_eq_some_iff.1 HW.out.blk).1; show b < (w2.heap.push _).size; simp; omega) (fun e => (HW.out.tb b e.symm).1 rfl)]
        exact (HW.out.alloc o).blk); have z2 : w3.cell? ⟨b, 2, none⟩ = some (.slice A bs.length c0) := (by rw [cell_of_row _ b _ _ _ _ hblk]; rfl); have zf : w3.frozen? ⟨b, 2, none⟩ = false := (by simp only [World.frozen?, hblk]; simp); clear hAR hblk x0 x1 x2 x3 xf)
  go_ret2
  obtain ⟨o, hg, hat⟩ := HAR.out.grown
  have hown := HAR.out.own
  rw [← rune_cells] at hown
  rw [show (byteCells (Lib.encodeRune c)).length = (Lib.encodeRune c).length by simp [byteCells]] at hown
  rw [show (Lib.runeCells c).length = (Lib.encodeRune c).length from Lib.runeCells_length c]
  obtain ⟨h1, h2⟩ := text_RI (w := w2.alloc o) (more := Lib.encodeRune c) (HW.out.alloc o) hown hg hat (by intro h; have := rune_len c; rw [h] at this; simp at this)
  have F1 : Fr w2 (w2.alloc o) b (.slice A bs.length c0) lv (.slice A bs.length c0) lv := by
    have hB := below_alloc w2 o
    exact ⟨hB.os, hB.tape, hB.output, hB.size, fun k hk _ _ _ => hB.block k hk, fun _ h => .inl h, fun _ h => .inl h⟩
  have F := (HF.out.trans F1).trans h2
  rw [HTV.out]
  exact ⟨⟨_, rfl⟩, _, h1, F⟩
end Go.Proofs.YtmifmmpbmcfmpaaGreatDoor.IW
