/-
  What is proved: TreeInters returns true for every text (the node of a text with interpolation, in the program and in the reference).
  Conditions: the row's own (package-level variables start as the program's text lays them).
-/
import Derived.Test.YtmifmmpbmcfmpaaGreatDoorKg
import Derived.Test.YtmifmmpbmcfmpaaGreatDoorCards
import Derived.Test.YtmifmmpbmcfmpaaGreatDoorTie
import Derived.WalkKit
import Derived.ProofKit
import Derived.OpenShut
import Derived.ShutString
import Derived.ChangeOld
import Derived.Lay
import Derived.Lib.LaidTab
import Derived.Lib.LaidU8
import Derived.LaidOnce
import Derived.SevenTiedAt
import Derived.Stop.LaidErr
set_option linter.unusedVariables false
set_option linter.unusedSimpArgs false
namespace Go.Proofs.YtmifmmpbmcfmpaaGreatDoor
namespace IW
open Go Go.S2 Go.Lib Go.Proofs.YtmifmmpbmcfmpaaGreatDoor.S2T Go.ChangeShapes Go.WideShapes Go.ChangeAt Go.RowKit
open Go.ChangeMaps (open_string shut_string)
set_option maxRecDepth 100000

def spaceZ : List Int := (List.range 256).map fun i => if i = 9 ∨ i = 10 ∨ i = 11 ∨ i = 12 ∨ i = 13 ∨ i = 32 then 1 else 0
theorem glob0_eq : glob0 = .cells (spaceZ.map fun z => V.int .u8 z) 177 true 257 := by kernel_rfl
theorem space_eq : (Rows.laid_strings_asciiSpace : DataW Unit) = Lib.tabData .u8 spaceZ := by kernel_rfl
theorem gSpace : Tryz.prog.globalNamed "strings.asciiSpace" = some 0 := by kernel_rfl
theorem gSyntax : Tryz.prog.globalNamed "strconv.ErrSyntax" = some 2 := by kernel_rfl
theorem gRange : Tryz.prog.globalNamed "strconv.ErrRange" = some 3 := by kernel_rfl
theorem tSyntax : (Tryz.prog.globals[2]?).map (·.type) = some 57 := by kernel_rfl
theorem tRange : (Tryz.prog.globals[3]?).map (·.type) = some 57 := by kernel_rfl
theorem star : "*" ++ "errors.errorString" = "*errors.errorString" := by decide
theorem row206 (u : TypeId) (h : Tryz.prog.typeName? 3 u = some "*errors.errorString") : u = 206 :=
  typeName_ptr_named (nm := "errors.errorString") (by rw [star]; kernel_rfl) (by kernel_rfl) (by decide) u (by rw [star]; exact h)
theorem cells208 : Tryz.prog.cellsOf 208 = 1 := by kernel_rfl
theorem cells9' : Tryz.prog.cellsOf 9 = 1 := by kernel_rfl

theorem VRs_ints {m : Km} (k : IntKind) : ∀ zs : List Int, VRs m (zs.map fun z => V.int k z) (zs.map fun z => Value.int k z)
  | [] => trivial
  | z :: zs => ⟨by simp [VR], VRs_ints k zs⟩

theorem laid_of {C : Ctx} {W : World} (hT : Lib.TabIs Tryz.prog W "strings.asciiSpace" .u8 spaceZ) : Laid C W [(0, glob0)] := by
  intro x hx
  simp only [List.mem_singleton] at hx
  subst hx
  unfold Lib.TabIs World.var? at hT
  rw [gSpace, Option.bind_some] at hT
  split at hT
  · rename_i cs e fr h
    obtain rfl := Option.some.inj hT
    exact ⟨_, _, _, e, fr, glob0_eq, h, by simp, by simpa using VRs_ints .u8 spaceZ⟩
  · cases hT

theorem space_reads {W : World} (hR : Lib.VarReads Tryz.prog W "strings.asciiSpace" (Lib.tabData .u8 spaceZ)) : Lib.TabIs Tryz.prog W "strings.asciiSpace" .u8 spaceZ := by
  obtain ⟨g', t', cs, fuel, p, hg', ht', hvar, hd⟩ := hR
  obtain rfl := Option.some.inj (gSpace.symm.trans hg')
  obtain rfl := Option.some.inj ((show (Tryz.prog.globals[0]?).map (·.type) = some 177 by kernel_rfl).symm.trans ht')
  unfold Lib.TabIs
  rw [hvar, ← Lib.cells_of_tab (t := 177) (e := 5) (n := 256) (by kernel_rfl) (by kernel_rfl) (by kernel_rfl) (by kernel_rfl) hd]
theorem space_of {W : World} (hL : laidMet Tryz.prog Rows.treeIntersRow.laid W) : Lib.TabIs Tryz.prog W "strings.asciiSpace" .u8 spaceZ :=
  space_reads (space_eq ▸ Lib.laidMet.reads hL (.tail _ (.tail _ (.tail _ (.tail _ (.tail _ (.tail _ (.tail _ (.head _)))))))))
theorem cell_of_var {W : World} {n : String} {g : Nat} {v : Value} (hg : Tryz.prog.globalNamed n = some g) (h : W.var? Tryz.prog n = some #[v]) : W.cell? ⟨g, 0, none⟩ = some v := by
  simpa using World.var?_cell hg h 0
theorem ev_of {W : World} (hL : laidMet Tryz.prog Rows.treeIntersRow.laid W) : EV W := by
  have h4 := hL.tail.tail.tail.tail
  obtain ⟨a, s, h1, _⟩ := laid_sentinel h4 gRange tRange Tryz.underlying57 row206 Tryz.underlying206 Tryz.underlying208 rfl rfl Tryz.underlying9 cells208 cells9'
  obtain ⟨a', s', h2, _⟩ := laid_sentinel h4.tail gSyntax tSyntax Tryz.underlying57 row206 Tryz.underlying206 Tryz.underlying208 rfl rfl Tryz.underlying9 cells208 cells9'
  have c3 := cell_of_var gRange h1
  have c2 := cell_of_var gSyntax h2
  exact ⟨⟨_, c2, .inr ⟨_, _, rfl⟩⟩, ⟨_, c3, .inr ⟨_, _, rfl⟩⟩, cell_lt c3⟩

theorem own : ownKnob Tryz.prog.godebug = none := by kernel_rfl
theorem lifted (os : Os) (started : os.Started) (H : Type) (enc : TypeId × Value → H) :
    ReturnsInHanded {} Tryz.checked os 3 .any (fun w args => (Rows.treeIntersSpec.pre enc Tryz.prog Tryz.f3 [] false w args ∧ laidMetH Tryz.prog Rows.treeIntersRow.laid w) ∧ sizedMet enc Tryz.prog Tryz.f3 (OpenSpec.ofChange Rows.treeIntersSpec) false w args)
      (Rows.treeIntersSpec.post enc Tryz.prog Tryz.f3 false true false false) := by
  refine returnsInHanded_of_change_and (C := Tryz.checked) (X := fun w _ => laidMetH Tryz.prog Rows.treeIntersRow.laid w) (fun _ _ _ hh h => h.of_heap hh) own started (by kernel_rfl) Tryz.func3
    (ChangeSpec.witness_shaped (enc := enc) (C := Tryz.checked) (os := os) (X := fun w _ => laidMetH Tryz.prog Rows.treeIntersRow.laid w) false (World.laidAll Tryz.prog os Rows.treeIntersRow.laid) #[.string ByteArray.empty] 8 (World.laidAll_os _ _ _)
      (World.shaped_of_ZipB (by kernel_rfl) (by kernel_rfl)) (by kernel_rfl) (by kernel_rfl) (by kernel_rfl)
      (by rw [MakeChecks.laidMetH_plain _ _ _ (by kernel_rfl)]; exact laidMet_laidAll _ (by kernel_rfl) (by kernel_rfl))) ?_
  intro W base args ds gs before hval0 hW _ _ hL _
  have hval : ∀ (j : Nat) t v, Tryz.f3.params[j]? = some t → args[j]? = some v → Value.okWide Tryz.prog W .any base t v := hval0
  have hW' := hW
  obtain ⟨p, q, hA0, hV, rfl, _, _⟩ := hW
  have hA : DataW.TrodAll enc Tryz.prog W 0 (fun _ => true) true Tryz.f3.params.toList args.toList ds p := hA0
  rw [Tryz.params3] at hA hval
  obtain ⟨v0, d0, rfl, rfl, h0⟩ := trodAll_one hA
  obtain ⟨rfl, rfl⟩ := trodVars_none hV
  obtain ⟨a0, rfl, rfl, rfl, y0⟩ := open_string Tryz.underlying9 (hval 0 9 v0 rfl rfl) h0
  simp only [List.append_nil] at hW'
  rw [MakeChecks.laidMetH_plain _ _ _ (by kernel_rfl)] at hL
  refine (law_any a0 W (laid_of (space_of hL)) (ev_of hL)).mono fun e W' ⟨he, hb⟩ => ?_
  subst he
  exact ⟨_, rfl, _, _, _, [], [], [], hW', trodAll_mk1 (shut_bool Tryz.underlying4 _), trodAll_mk1 (shut_string Tryz.underlying9 y0), rfl, hb.frame _, fun h => by cases h⟩

theorem row_holds : Rows.TreeIntersSaid :=
  OpenClaim.holds_of_wide 3 Tryz.f3 rfl rfl rfl rfl rfl rfl rfl ⟨rfl, rfl, rfl, rfl, rfl⟩ rfl rfl rfl rfl rfl (by kernel_rfl) Tryz.func3 (by kernel_rfl)
    (of_decide_eq_true (by kernel_rfl)) (by unfold Func.isWrapper; first | (rw [if_pos (by decide +kernel)]; kernel_rfl) | (rw [if_neg (by decide +kernel)]; exact ⟨rfl, rfl⟩))
    (fun os started H enc _ => lifted os started H enc)
end IW
open Go
theorem treeInters_card_holds : Rows.TreeIntersCardSaid :=
  Claim7.holds_tied_plain_at .later [] [.data, .data, .data, .data, .sentinel, .sentinel, .listed, .data, .pinned] true (true, "fd4ef9b1bfa669e01f1fe1242ef01c4692702d2ab3d5f20797e4fe411b18f266") true
    IW.row_holds (fun _ h => by cases h) (by kernel_rfl) (fun _ h => by cases h) treeInters_row_tie rfl ⟨rfl, rfl⟩ (by kernel_rfl) rfl
    (fun f fn hf hfn => by
      obtain rfl : f = 3 := Option.some.inj ((show Tryz.prog.funcNamed "motley/motleylaw04.TreeInters" = some 3 by kernel_rfl).symm.trans hf) |>.symm
      obtain rfl : fn = Tryz.f3 := (Option.some.inj (Tryz.func3.symm.trans hfn)).symm
      exact ⟨by kernel_rfl, fun j t ht => by
        rw [Tryz.params3] at ht
        have hm : t ∈ [9] := by simpa using Array.mem_of_getElem? ht
        have hall : ([9].all fun u => !Tryz.prog.wantsStandIn u) = true := by kernel_rfl
        exact (show Tryz.prog.wantsStandIn t = false by simpa using List.all_eq_true.1 hall t hm)⟩)
    (by kernel_rfl)
#print axioms treeInters_card_holds
end Go.Proofs.YtmifmmpbmcfmpaaGreatDoor
