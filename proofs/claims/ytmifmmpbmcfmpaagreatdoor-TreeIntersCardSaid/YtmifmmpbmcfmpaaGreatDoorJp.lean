/-
  What both readers read of a text, told in plain Lean.
-/
import Derived.Test.YtmifmmpbmcfmpaaGreatDoorJi
import Derived.Lib.RuneBytes
set_option linter.unusedVariables false
set_option linter.unusedSimpArgs false
namespace Go.Proofs.YtmifmmpbmcfmpaaGreatDoor.IW
open Go Go.RowKit
set_option maxRecDepth 100000

def noLf : Lf := ⟨0, ⟨#[]⟩, 0⟩
def noNd : Nd := ⟨0, ⟨#[]⟩, 0, []⟩

/-! ### A place in brackets -/
def placeOf (s : ByteArray) : Nat × Lf :=
  if bt s 0 = 91 then
    if numN (s.extract 1 s.size) ≠ 0 then
      if bt s (numN (s.extract 1 s.size) + 1) = 93 then (numN (s.extract 1 s.size) + 2, ⟨1, ⟨#[]⟩, (numV (s.extract 1 (numN (s.extract 1 s.size) + 1)) : Nat)⟩) else (0, noLf)
    else
      if bt s 1 = 36 ∧ wordN (s.extract 2 s.size) ≠ 0 ∧ bt s (wordN (s.extract 2 s.size) + 2) = 93 then (wordN (s.extract 2 s.size) + 3, ⟨5, s.extract 2 (wordN (s.extract 2 s.size) + 2), 0⟩) else (0, noLf)
  else (0, noLf)
theorem placeOf_le (s : ByteArray) : (placeOf s).1 ≤ s.size := by
  unfold placeOf
  split
  · split
    · split
      · rename_i h; have := bt_pos h (by decide); show _ + 2 ≤ _; omega
      · exact Nat.zero_le _
    · split
      · rename_i h; have := bt_pos h.2.2 (by decide); show _ + 3 ≤ _; omega
      · exact Nat.zero_le _
  · exact Nat.zero_le _

/-! ### A character told in hexadecimal digits -/
def hexI (c : Int) : Int := if 48 ≤ c ∧ c ≤ 57 then c - 48 else if 97 ≤ c ∧ c ≤ 102 then c - 87 else if 65 ≤ c ∧ c ≤ 70 then c - 55 else -1
theorem hexI_lt (c : Int) : hexI c ≤ 15 ∧ -1 ≤ hexI c := by
  unfold hexI
  split
  · omega
  · split
    · omega
    · split <;> omega
theorem hexI_no {c : Int} (h : ¬ (0 ≤ hexI c)) : hexI c = -1 := by
  have := hexI_lt c
  omega
def hexRun (s : ByteArray) : Nat → Nat → Nat
  | 0, _ => 0
  | f + 1, i => if i < s.size ∧ 0 ≤ hexI (bt s i) then hexRun s f (i + 1) + 1 else 0
def hexLen (s : ByteArray) : Nat := hexRun s 6 2
/-- There are k digits from the second place on, and either six or no more. -/
structure HL (s : ByteArray) (k : Nat) : Prop where
  all : ∀ i, i < k → 2 + i < s.size ∧ 0 ≤ hexI (bt s (2 + i))
  stop : k = 6 ∨ ¬ (2 + k < s.size ∧ 0 ≤ hexI (bt s (2 + k)))
  le : k ≤ 6
theorem HL.uniq {s : ByteArray} {a b : Nat} (h : HL s a) (g : HL s b) : a = b := by
  rcases Nat.lt_trichotomy a b with hl | hl | hl
  · rcases h.stop with h2 | h2
    · have := g.le; omega
    · exact absurd (g.all a hl) h2
  · exact hl
  · rcases g.stop with h2 | h2
    · have := h.le; omega
    · exact absurd (h.all b hl) h2
theorem hexRun_spec (s : ByteArray) : ∀ (f n : Nat), n + f = 6 → (∀ i, i < n → 2 + i < s.size ∧ 0 ≤ hexI (bt s (2 + i))) → HL s (n + hexRun s f (2 + n))
  | 0, n, h6, h => ⟨by simpa [hexRun] using h, .inl (by simpa [hexRun] using h6), by simp [hexRun]; omega⟩
  | f + 1, n, h6, h => by
    unfold hexRun
    split
    · rename_i hc
      have := hexRun_spec s f (n + 1) (by omega) (fun i hi => by
        by_cases e : i = n
        · rw [e]; exact hc
        · exact h i (by omega))
      rw [show n + (hexRun s f (2 + n + 1) + 1) = n + 1 + hexRun s f (2 + (n + 1)) by rw [show 2 + (n + 1) = 2 + n + 1 by omega]; omega]
      exact this
    · rename_i hc
      exact ⟨h, .inr hc, by omega⟩
theorem hexLen_spec (s : ByteArray) : HL s (hexLen s) := by
  have := hexRun_spec s 6 0 (by omega) (fun i hi => by omega)
  rwa [Nat.zero_add] at this
/-- The number that k digits from the second place on are. -/
def hexV (s : ByteArray) : Nat → Int
  | 0 => 0
  | k + 1 => hexV s k * 16 + hexI (bt s (2 + k))
theorem hexV_lt (s : ByteArray) : ∀ (k : Nat), (∀ i, i < k → 0 ≤ hexI (bt s (2 + i))) → 0 ≤ hexV s k ∧ hexV s k < 16 ^ k
  | 0, _ => ⟨by simp [hexV], by simp [hexV]⟩
  | k + 1, h => by
    have h1 := hexV_lt s k (fun i hi => h i (by omega))
    have h2 := h k (by omega)
    have h3 := hexI_lt (bt s (2 + k))
    unfold hexV
    rw [Int.pow_succ]
    omega
def isCh (c : Int) : Bool := decide (0 ≤ c ∧ c ≤ 1114111 ∧ ¬ (55296 ≤ c ∧ c ≤ 57343))
def HexOk (s : ByteArray) : Prop := bt s 0 = 120 ∧ bt s 1 = 123 ∧ 1 ≤ hexLen s ∧ bt s (2 + hexLen s) = 125 ∧ isCh (hexV s (hexLen s)) = true
instance (s : ByteArray) : Decidable (HexOk s) := by unfold HexOk; infer_instance
def hexK (s : ByteArray) : Nat := if HexOk s then hexLen s + 3 else 0
def hexC (s : ByteArray) : Int := if HexOk s then hexV s (hexLen s) else 0
theorem hexK_le (s : ByteArray) : hexK s ≤ s.size := by
  unfold hexK
  split
  · rename_i h; have := bt_pos h.2.2.2.1 (by decide); omega
  · exact Nat.zero_le _

/-! ### What stands behind a backslash, a dollar, an at -/
def u8 (c : Int) : UInt8 := c.toNat.toUInt8
def escOf (s : ByteArray) : Nat × List UInt8 :=
  if s.size = 0 then (0, [92])
  else if bt s 0 = 110 then (1, [10])
  else if bt s 0 = 116 then (1, [9])
  else if hexK s ≠ 0 then (hexK s, Lib.encodeRune (hexC s))
  else (1, [u8 (bt s 0)])
theorem escOf_le (s : ByteArray) : (escOf s).1 ≤ s.size ∧ 1 ≤ (escOf s).2.length ∧ (escOf s).2.length ≤ 4 := by
  unfold escOf
  split
  · exact ⟨Nat.zero_le _, by simp, by simp⟩
  · split
    · exact ⟨by show 1 ≤ _; omega, by simp, by simp⟩
    · split
      · exact ⟨by show 1 ≤ _; omega, by simp, by simp⟩
      · split
        · have := Lib.runeCells_le (hexC s)
          rw [Lib.runeCells_length] at this
          exact ⟨hexK_le s, this.1, this.2⟩
        · exact ⟨by show 1 ≤ _; omega, by simp, by simp⟩

def nameK (s : ByteArray) : Nat := if wordN s ≠ 0 then wordN s else braceK s
def nameT (s : ByteArray) : ByteArray := if wordN s ≠ 0 then s.extract 0 (wordN s) else s.extract 1 (braceN s + 1)
theorem nameK_le (s : ByteArray) : nameK s ≤ s.size := by
  unfold nameK braceK
  have h1 := wordN_le s
  have h2 := braceN_le s
  split
  · exact h1
  · split
    · exact Nat.zero_le _
    · rename_i h; exact (h2 h).1
def special (s : ByteArray) : Bool := decide (bt s 0 = 64 ∨ bt s 0 = 38 ∨ (49 ≤ bt s 0 ∧ bt s 0 ≤ 57))
/-- The rest behind the name. -/
def restN (s : ByteArray) : ByteArray := s.extract (nameK s) s.size
def scalarOf (s : ByteArray) : Nat × Nd :=
  if nameK s = 0 then if special s = true then (1, ⟨5, s.extract 0 1, 0, []⟩) else (0, noNd)
  else if (placeOf (restN s)).1 ≠ 0 then (nameK s + (placeOf (restN s)).1, ⟨8, ⟨#[]⟩, 0, [⟨6, nameT s, 0⟩, (placeOf (restN s)).2]⟩)
  else if braceN (restN s) ≠ 0 then (nameK s + (braceN (restN s) + 2), ⟨9, ⟨#[]⟩, 0, [⟨7, nameT s, 0⟩, ⟨2, (restN s).extract 1 (braceN (restN s) + 1), 0⟩]⟩)
  else (nameK s, ⟨5, nameT s, 0, []⟩)
def arrayOf (s : ByteArray) : Nat × Nd := if nameK s = 0 then (0, noNd) else (nameK s, ⟨6, nameT s, 0, []⟩)
theorem restN_size (s : ByteArray) : (restN s).size = s.size - nameK s := by
  unfold restN; rw [size_ext _ _ _ (Nat.le_refl _)]
theorem special_pos {s : ByteArray} (h : special s = true) : 0 < s.size := by
  unfold special at h
  simp only [decide_eq_true_eq] at h
  rcases h with h | h | h
  · exact bt_pos h (by decide)
  · exact bt_pos h (by decide)
  · exact bt_pos (c := bt s 0) rfl (by omega)
theorem scalarOf_le (s : ByteArray) : (scalarOf s).1 ≤ s.size := by
  have h1 := nameK_le s
  have h2 := placeOf_le (restN s)
  have h3 := braceN_le (restN s)
  rw [restN_size] at h2 h3
  unfold scalarOf
  split
  · split
    · rename_i h; have := special_pos h; show 1 ≤ _; omega
    · exact Nat.zero_le _
  · split
    · show nameK s + _ ≤ _; omega
    · split
      · rename_i h; have := h3 h; show nameK s + (_ + 2) ≤ _; omega
      · exact h1
theorem arrayOf_le (s : ByteArray) : (arrayOf s).1 ≤ s.size := by
  have h1 := nameK_le s
  unfold arrayOf
  split
  · exact Nat.zero_le _
  · exact h1
theorem scalarOf_op {s : ByteArray} (h : (scalarOf s).1 ≠ 0) : (scalarOf s).2.op ≠ 2 := by
  unfold scalarOf at h ⊢
  split at h
  · split at h
    · rename_i h1 h2; rw [if_pos h1, if_pos h2]; show (5 : Int) ≠ 2; decide
    · exact absurd rfl h
  · rename_i h1
    rw [if_neg h1]
    split
    · show (8 : Int) ≠ 2; decide
    · split
      · show (9 : Int) ≠ 2; decide
      · show (5 : Int) ≠ 2; decide
theorem arrayOf_op {s : ByteArray} (h : (arrayOf s).1 ≠ 0) : (arrayOf s).2.op ≠ 2 := by
  unfold arrayOf at h ⊢
  split at h
  · exact absurd rfl h
  · rename_i h1; rw [if_neg h1]; show (6 : Int) ≠ 2; decide

/-! ### The reader -/
/-- The text so far and the nodes so far. -/
abbrev St := List UInt8 × List Nd
def step (raw : ByteArray) (p : Nat) (st : St) : Nat × St :=
  if bt raw p = 92 then (p + 1 + (escOf (raw.extract (p + 1) raw.size)).1, (st.1 ++ (escOf (raw.extract (p + 1) raw.size)).2, st.2))
  else if bt raw p = 36 ∧ (scalarOf (raw.extract (p + 1) raw.size)).1 ≠ 0 then (p + 1 + (scalarOf (raw.extract (p + 1) raw.size)).1, ([], fl st.1 st.2 ++ [(scalarOf (raw.extract (p + 1) raw.size)).2]))
  else if bt raw p = 64 ∧ (arrayOf (raw.extract (p + 1) raw.size)).1 ≠ 0 then (p + 1 + (arrayOf (raw.extract (p + 1) raw.size)).1, ([], fl st.1 st.2 ++ [(arrayOf (raw.extract (p + 1) raw.size)).2]))
  else (p + 1, (st.1 ++ [u8 (bt raw p)], st.2))
def run (raw : ByteArray) : Nat → Nat → St → St
  | 0, _, st => st
  | f + 1, p, st => if p < raw.size then run raw f (step raw p st).1 (step raw p st).2 else st
def readOf (raw : ByteArray) : St := run raw raw.size 0 ([], [])
structure Reach (raw : ByteArray) (p : Nat) (st : St) : Prop where
  run : ∃ f, raw.size ≤ p + f ∧ run raw f p st = readOf raw
  le : p ≤ raw.size
  text : st.1.length ≤ 4 * p
  nodes : st.2.length ≤ 2 * p
  op : st.2 ≠ [] → ∃ x ∈ st.2, x.op ≠ 2
theorem Reach.zero (raw : ByteArray) : Reach raw 0 ([], []) := ⟨⟨raw.size, by omega, rfl⟩, Nat.zero_le _, by simp, by simp, fun h => absurd rfl h⟩
theorem fl_len (bs : List UInt8) (nds : List Nd) : (fl bs nds).length ≤ nds.length + 1 := by
  unfold fl
  split
  · omega
  · simp
theorem step_gt (raw : ByteArray) (p : Nat) (st : St) : p < (step raw p st).1 := by
  unfold step
  split
  · show p < _ + _; omega
  · split
    · show p < _ + _; omega
    · split
      · show p < _ + _; omega
      · show p < p + 1; omega
theorem Reach.step {raw : ByteArray} {p : Nat} {st : St} (h : Reach raw p st) (hp : p < raw.size) : Reach raw (step raw p st).1 (step raw p st).2 := by
  have hsz : (raw.extract (p + 1) raw.size).size = raw.size - (p + 1) := size_ext _ _ _ (Nat.le_refl _)
  have he := escOf_le (raw.extract (p + 1) raw.size)
  have hs := scalarOf_le (raw.extract (p + 1) raw.size)
  have ha := arrayOf_le (raw.extract (p + 1) raw.size)
  rw [hsz] at he hs ha
  have ht := h.text
  have hn := h.nodes
  have hf := fl_len st.1 st.2
  have hgt := step_gt raw p st
  refine ⟨?_, ?_, ?_, ?_, ?_⟩
  · obtain ⟨f, h1, h2⟩ := h.run
    cases f with
    | zero => omega
    | succ f =>
      refine ⟨f, by omega, ?_⟩
      unfold IW.run at h2
      rw [if_pos hp] at h2
      exact h2
  · unfold IW.step
    split
    · show p + 1 + _ ≤ _; omega
    · split
      · show p + 1 + _ ≤ _; omega
      · split
        · show p + 1 + _ ≤ _; omega
        · show p + 1 ≤ _; omega
  · unfold IW.step
    split
    · show (st.1 ++ _).length ≤ 4 * (p + 1 + _); rw [List.length_append]; omega
    · split
      · exact Nat.zero_le _
      · split
        · exact Nat.zero_le _
        · show (st.1 ++ [_]).length ≤ 4 * (p + 1); rw [List.length_append, List.length_singleton]; omega
  · unfold IW.step
    split
    · show st.2.length ≤ 2 * (p + 1 + _); omega
    · split
      · show (fl st.1 st.2 ++ [_]).length ≤ 2 * (p + 1 + _); rw [List.length_append, List.length_singleton]; omega
      · split
        · show (fl st.1 st.2 ++ [_]).length ≤ 2 * (p + 1 + _); rw [List.length_append, List.length_singleton]; omega
        · show st.2.length ≤ 2 * (p + 1); omega
  · unfold IW.step
    split
    · exact h.op
    · split
      · rename_i hc
        intro _
        exact ⟨_, List.mem_append_right _ (List.mem_singleton.2 rfl), scalarOf_op hc.2⟩
      · split
        · rename_i hc
          intro _
          exact ⟨_, List.mem_append_right _ (List.mem_singleton.2 rfl), arrayOf_op hc.2⟩
        · exact h.op
theorem Reach.stop {raw : ByteArray} {p : Nat} {st : St} (h : Reach raw p st) (hp : raw.size ≤ p) : st = readOf raw := by
  obtain ⟨f, h1, h2⟩ := h.run
  cases f with
  | zero => exact h2
  | succ f =>
    unfold IW.run at h2
    rw [if_neg (by omega)] at h2
    exact h2
end Go.Proofs.YtmifmmpbmcfmpaaGreatDoor.IW
