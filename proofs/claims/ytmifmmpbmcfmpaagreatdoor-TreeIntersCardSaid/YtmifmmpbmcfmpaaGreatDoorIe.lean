/-
  strings.Builder inside a struct: WriteByte.
-/
import Derived.Test.YtmifmmpbmcfmpaaGreatDoorId
set_option linter.unusedVariables false
set_option linter.unusedSimpArgs false
namespace Go.Proofs.YtmifmmpbmcfmpaaGreatDoor.IW
open Go Go.RowKit Go.Proofs.YtmifmmpbmcfmpaaGreatDoor.MkW
set_option maxRecDepth 100000

set_option maxHeartbeats 1000000 in
theorem writeByte_any (w : World) (base b : Nat) (s : ByteArray) (v1 tv : Value) (bs : List UInt8) (lv : Value) (nds : List Nd) (vs : List Value) (x : UInt8) (R : RI w base b 54 s v1 tv bs lv nds vs) (ha : okA b v1) (hl : bs.length ≤ 100000) :
    Calls Tryz.prog 25 #[.pointer (some ⟨b, 1, none⟩), .int .u8 x.toNat] w fun e w' => e = .returned .nilIface ∧ ∃ tv', RI w' base b 54 s (.pointer (some ⟨b, 1, none⟩)) tv' (bs ++ [x]) lv nds vs ∧ Fr w w' b tv lv tv' lv := by
  obtain ⟨i5, z5, hi, hz, hsz, hby, hzs⟩ := info5
  have HR := Aside0.mk R
  have HA := Aside0.mk ha
  have HL := Aside0.mk hl
  have HM : Aside0 (bs.length + 1 ≤ maxLen) := ⟨by simp only [maxLen]; omega⟩
  have HM2 : Aside0 ((bs.length + 1) * 1 ≤ 140737488355328) := ⟨by omega⟩
  obtain ⟨A, c, htv⟩ := own_slice R.txt
  have HTV := Aside0.mk htv
  clear R ha hl htv
  go_enter Tryz.func25, Tryz.ntmps25
  go_wp2_with (first
    | (go_at_call 63; refine (copyCheck_any _ base b s v1 tv bs lv nds vs HR.out HA.out).mono ?_; rintro e w2 ⟨rfl, hR, hF⟩; rw [HTV.out] at hR hF; have HF := Aside0.mk hF; have HW := Aside0.mk (hR.alloc (.cells #[.int .u8 x.toNat] 5)); have HW0 := Aside0.mk hR; obtain ⟨x0, x1, x2, x3, xf⟩ := hR.cell; clear hR hF)
    | (refine wpList_append_lies _ rfl (.tmp 11) (.tmp 13) 46 rfl base 5 i5 z5 1 1 Tryz.underlying46 hi hz hsz hby hzs (by decide) (.slice A bs.length c) bs.length (byteCells bs) rfl HW.out.txt ⟨w2.heap.size, 0, none⟩ 1 1 [.int .u8 x.toNat] rfl rfl (World.news_of_block (heap_alloc_new w2 _)) (by intro u hu; simp at hu; subst hu; rfl) (by decide) HM.out HM2.out (by have := (Array.getElem?_eq_some_iff.1 HW.out.blk).1; have := HW.out.hb; omega) _ rfl ?_
       intro g cap w1 hown hgrow hat hlt
       have hblk : w1.heap[b]? = some (.cells #[.string s, .pointer (some ⟨b, 1, none⟩), .slice A bs.length c, lv] 54 (0, 0)) := by
         rw [hgrow.block b (Array.getElem?_eq_some_iff.1 HW.out.blk).1 (fun e => (HW.out.tb b e.symm).1 rfl)]; exact HW.out.blk
       have z2 : w1.cell? ⟨b, 2, none⟩ = some (.slice A bs.length c) := by rw [cell_of_row _ b _ _ _ _ hblk]; rfl
       have zf : w1.frozen? ⟨b, 2, none⟩ = false := by simp only [World.frozen?, hblk]; simp
       have HG := Aside0.mk (And.intro hown (And.intro hgrow hat))
       clear hown hgrow hat hblk x0 x1 x2 x3 xf))
  go_ret
  obtain ⟨hown, hgrow, hat⟩ := HG.out
  have hsz2 : (w2.alloc (.cells #[.int .u8 x.toNat] 5)).heap.size = w2.heap.size + 1 := by show (w2.heap.push _).size = _; simp
  obtain ⟨h1, h2⟩ := text_RI (more := [x]) HW.out hown hgrow (by rcases hat with h | h; exact .inl h; exact .inr (by omega)) (by simp)
  have F1 : Fr w2 (w2.alloc (.cells #[.int .u8 x.toNat] 5)) b (.slice A bs.length c) lv (.slice A bs.length c) lv :=
    ⟨rfl, rfl, rfl, by omega, fun k hk _ _ _ => by show (w2.heap.push _)[k]? = _; rw [Array.getElem?_push, if_neg (by omega)], fun _ h => .inl h, fun _ h => .inl h⟩
  have F := (HF.out.trans F1).trans h2
  rw [HTV.out]
  exact ⟨rfl, _, h1, F⟩
end Go.Proofs.YtmifmmpbmcfmpaaGreatDoor.IW
