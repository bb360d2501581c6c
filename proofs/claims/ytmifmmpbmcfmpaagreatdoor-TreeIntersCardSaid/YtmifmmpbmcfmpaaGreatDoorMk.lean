/-
  A region whose order is drawn, in which operations make and write memory beside others that read: it is walked in the text's order.
-/
import Derived.StillTail
import Derived.WalkKit
set_option linter.unusedVariables false
set_option linter.unusedSimpArgs false
namespace Go.Proofs.YtmifmmpbmcfmpaaGreatDoor.MkW
open Go

/-! ### Operations that turn the world in a way that hangs on which are done alone -/
structure Fam where
  /-- the world, by what is done -/
  W : Array Bool → World
  /-- from which world to which an operation goes -/
  T : Nat → World → World → Prop

section
variable {P : Program} {ops : Array Oper} {md : Region.Mode} {F : Fam}

/-- An operation yields v, and goes from w to w'. -/
def YieldsTo (P : Program) (ops : Array Oper) (w w' : World) (o : Oper) (v : Value) (a : Act) : Prop :=
  (Region.wanted o (yielded ops a.tmps) = true ∧ ((execOp a.eval o).run P w = .ok (.value v) w' ∨ ((execOp a.eval o).run P w = .ok .skip w' ∧ v = undef) ∨
    ∃ f args, (execOp a.eval o).run P w = .ok (.enter f args) w ∧ Calls P f args w (fun e w'' => e = .returned v ∧ w'' = w'))) ∨
  (Region.wanted o (yielded ops a.tmps) = false ∧ v = undef ∧ w' = w)

theorem YieldsTo.of_same {w w' : World} {o : Oper} {v : Value} {a a' : Act} (hy : YieldsTo P ops w w' o v a) (he : execOp a'.eval o = execOp a.eval o)
    (hw : Region.wanted o (yielded ops a'.tmps) = Region.wanted o (yielded ops a.tmps)) : YieldsTo P ops w w' o v a' := by
  unfold YieldsTo at *
  rw [he, hw]
  exact hy

theorem YieldsTo.wpOp {w w' : World} {i : Nat} {o : Oper} {v : Value} {a : Act} {K : Act → World → Prop} {Q : Exit → Act → World → Prop} (hi : ops[i]? = some o) (hy : YieldsTo P ops w w' o v a) (h : K (a.put o.dst v) w') : wpOp P ops Q i K a w := by
  unfold Go.wpOp
  simp only [hi]
  rcases hy with ⟨hw, hv | ⟨hv, rfl⟩ | ⟨f, args, hv, hc⟩⟩ | ⟨hw, rfl, rfl⟩
  · rw [if_pos hw]; exact .inl (by unfold Oper.wp; rw [hv]; exact h)
  · rw [if_pos hw]; exact .inl (by unfold Oper.wp; rw [hv]; exact h)
  · rw [if_pos hw]; exact .inl (by unfold Oper.wp; rw [hv]; exact hc.mono fun e w'' ⟨he, hw'⟩ => by subst he; subst hw'; exact h)
  · rw [if_neg (by rw [hw]; simp)]; exact h

def Yi (P : Program) (ops : Array Oper) (F : Fam) (i : Nat) (o : Oper) (v : Value) (a : Act) : Prop := ∀ w w', F.T i w w' → YieldsTo P ops w w' o v a

def mOp (P : Program) (ops : Array Oper) (F : Fam) (i : Nat) (K : Act → Prop) (a : Act) : Prop :=
  match ops[i]? with
  | none => K a
  | some o => ∃ v, Yi P ops F i o v a ∧ K (a.put o.dst v)

theorem mOp_mono {i : Nat} {a : Act} {K K' : Act → Prop} (h : ∀ a, K a → K' a) (hh : mOp P ops F i K a) : mOp P ops F i K' a := by
  unfold mOp at *
  split
  · rename_i ho; simp only [ho] at hh; exact h _ hh
  · rename_i o ho; simp only [ho] at hh; obtain ⟨v, h1, h2⟩ := hh; exact ⟨v, h1, h _ h2⟩

theorem Yi.same {i : Nat} {o : Oper} {v : Value} {a a' : Act} (he : execOp a'.eval o = execOp a.eval o) (hw : Region.wanted o (yielded ops a'.tmps) = Region.wanted o (yielded ops a.tmps)) (h : Yi P ops F i o v a) : Yi P ops F i o v a' :=
  fun w w' ht => (h w w' ht).of_same he hw

theorem mOp_put {i j : Nat} {oi oj : Oper} {v : Value} (hj : ops[j]? = some oj) (hap : oi.apart ops oj = true)
    (hsi : ∀ cs b, oi.op ≠ .select cs b) (hsj : ∀ cs b, oj.op ≠ .select cs b) {K : Act → Prop} {a : Act}
    (hy : Yi P ops F i oi v a) (h : mOp P ops F j K (a.put oi.dst v)) :
    mOp P ops F j (fun a' => Yi P ops F i oi v a' ∧ K (a'.put oi.dst v)) a := by
  obtain ⟨h1, h2, h3⟩ := Oper.apart_spec hap
  unfold mOp at *
  simp only [hj] at *
  obtain ⟨u, hu, hK⟩ := h
  refine ⟨u, hu.same (execOp_put oj hsj a oi.dst v h1).symm (wanted_put oj a oi.dst v h1).symm, hy.same (execOp_put oi hsi a oj.dst u h3) (wanted_put oi a oj.dst u h3), ?_⟩
  rw [← Act.put_comm a v u h2]; exact hK

def wpAnyM (P : Program) (md : Region.Mode) (ops : Array Oper) (F : Fam) (n : Nat) (L : Array Bool → Act → Prop) : Nat → Array Bool → Act → Prop
  | 0, listed, a => L listed a
  | f + 1, listed, a =>
    Region.ready md ops listed ≠ [] ∧ ∀ i ∈ Region.ready md ops listed, i < n ∧ mOp P ops F i (wpAnyM P md ops F n L f (listed.setIfInBounds i true)) a

theorem wpAny_of_headM {n g : Nat} {L : Array Bool → Act → Prop} {Q' : Exit → Act → World → Prop}
    (hT : ∀ (listed : Array Bool) (i : Nat), listed.size = ops.size → i ∈ Region.ready md ops listed → F.T i (F.W listed) (F.W (listed.setIfInBounds i true)))
    (hL : ∀ listed a, listed.size = ops.size → L listed a → wpAny P md ops Q' g listed a (F.W listed)) :
    ∀ (f : Nat) (listed : Array Bool) (a : Act), listed.size = ops.size → wpAnyM P md ops F n L f listed a → wpAny P md ops Q' (f + g) listed a (F.W listed)
  | 0, listed, a, hs, h => by
    rw [Nat.zero_add]
    exact hL _ _ hs h
  | f + 1, listed, a, hs, h => by
    rw [show f + 1 + g = (f + g) + 1 by omega]
    refine ⟨fun h0 => absurd h0 h.1, fun i hi => ?_⟩
    have h1 := (h.2 i hi).2
    obtain ⟨hun, oi, hoi, _⟩ := mem_ready.1 hi
    have hsz : (listed.setIfInBounds i true).size = ops.size := by simpa using hs
    unfold mOp at h1
    simp only [hoi] at h1
    obtain ⟨v, hy, hK⟩ := h1
    exact (hy _ _ (hT listed i hs hi)).wpOp hoi (wpAny_of_headM hT hL f _ _ hsz hK)

theorem wpAnyM_first {n i : Nat} {oi : Oper} {v : Value} {L : Array Bool → Act → Prop} {I : Array Bool → Prop} (hi : ops[i]? = some oi) (hsel : ∀ (j : Nat) (o : Oper) cs b, ops[j]? = some o → o.op ≠ .select cs b)
    (hin : i < n) (hI : ∀ listed j, I listed → j ∈ Region.ready md ops listed → j < n → I (listed.setIfInBounds j true))
    (hex : ∀ listed, I listed → listed.getD i true = false → ∀ t, n ≤ t → t ∉ Region.ready md ops listed)
    (hdone : ∀ listed a, L listed a → ∀ j ∈ Region.ready md ops listed, n ≤ j) :
    ∀ (f : Nat) (listed : Array Bool) (a : Act), I listed →
      (∀ j oj, ops[j]? = some oj → j ≠ i → listed.getD j true = false → (∀ e ∈ oj.after, Region.binds md e = true → e.on ≠ i) → oi.apart ops oj = true) →
      i ∈ Region.ready md ops listed → Yi P ops F i oi v a →
      wpAnyM P md ops F n L f (listed.setIfInBounds i true) (a.put oi.dst v) → wpAnyM P md ops F n L (f + 1) listed a := by
  have here : ∀ (a : Act) (K : Act → Prop), Yi P ops F i oi v a → K (a.put oi.dst v) → mOp P ops F i K a := fun a K hy hK => by
    unfold mOp; simp only [hi]; exact ⟨v, hy, hK⟩
  intro f
  induction f with
  | zero =>
    intro listed a inv _ hr hy H
    have hun := (mem_ready.1 hr).1
    refine ⟨fun h => (by rw [h] at hr; cases hr), fun j hj => ?_⟩
    have hjn : j < n := by
      rcases Nat.lt_or_ge j n with h | h
      · exact h
      · exact absurd hj (hex listed inv hun j h)
    refine ⟨hjn, ?_⟩
    by_cases hji : j = i
    · subst hji; exact here _ _ hy H
    · have := hdone _ _ H j (ready_mono hj hji)
      omega
  | succ f ih =>
    intro listed a inv hfree hr hy H
    have hun := (mem_ready.1 hr).1
    refine ⟨fun h => (by rw [h] at hr; cases hr), fun j hj => ?_⟩
    have hjn : j < n := by
      rcases Nat.lt_or_ge j n with h | h
      · exact h
      · exact absurd hj (hex listed inv hun j h)
    refine ⟨hjn, ?_⟩
    by_cases hji : j = i
    · subst hji; exact here _ _ hy H
    · have h1 := (H.2 j (ready_mono hj hji)).2
      obtain ⟨hjun, oj, hoj, hall⟩ := mem_ready.1 hj
      have hnot : ∀ e ∈ oj.after, Region.binds md e = true → e.on ≠ i := fun e he hb heq => by
        have h1 := hall e he hb
        rw [heq, getD_both hun] at h1
        cases h1
      have h2 := mOp_put hoj (hfree j oj hoj hji hjun hnot) (fun cs b => hsel i oi cs b hi) (fun cs b => hsel j oj cs b hoj) hy h1
      have hfree' : ∀ k ok, ops[k]? = some ok → k ≠ i → (listed.setIfInBounds j true).getD k true = false →
          (∀ e ∈ ok.after, Region.binds md e = true → e.on ≠ i) → oi.apart ops ok = true := fun k ok hk hki hun hno => by
        refine hfree k ok hk hki ?_ hno
        by_cases hjk : j = k
        · subst hjk; exact hjun
        · rw [getD_set_ne true hjk] at hun; exact hun
      refine mOp_mono (fun a' h3 => ih (listed.setIfInBounds j true) a' (hI _ _ inv hj hjn) hfree' (ready_mono hr (Ne.symm hji)) h3.1 ?_) h2
      rw [Array.setIfInBounds_comm _ _ hji]
      exact h3.2

/-- In the text's order. -/
def wpMl (P : Program) (ops : Array Oper) (F : Fam) (Q : Act → Prop) : Nat → List Oper → Act → Prop
  | _, [], a => Q a
  | k, o :: rest, a => ∃ v, Yi P ops F k o v a ∧ wpMl P ops F Q (k + 1) rest (a.put o.dst v)

/-- The row of operations from k on may be taken in the text's order. -/
def lexRow (md : Region.Mode) (ops : Array Oper) : Nat → Nat → Array Bool → Bool
  | 0, _, _ => true
  | f + 1, k, listed => (Region.ready md ops listed).contains k && Region.free md ops listed k && lexRow md ops f (k + 1) (listed.setIfInBounds k true)

/-- What is done when the first n are. -/
def firsts (s n : Nat) : Array Bool := Array.replicate n true ++ Array.replicate (s - n) false

theorem wpAnyM_lex {n : Nat} {Lq : Act → Prop} {I : Array Bool → Prop} (hsel : Region.noSelect ops = true)
    (hI : ∀ listed j, I listed → j ∈ Region.ready md ops listed → j < n → I (listed.setIfInBounds j true))
    (hex : ∀ listed i, I listed → i < n → listed.getD i true = false → ∀ t, n ≤ t → t ∉ Region.ready md ops listed)
    (hsize : ∀ listed, I listed → listed.size = ops.size) (hn : n ≤ ops.size) :
    ∀ (l : List Oper) (k : Nat) (listed : Array Bool) (a : Act), (∀ j, j < l.length → l[j]? = ops[k + j]?) → k + l.length = n → I listed → (∀ j, j < k → listed.getD j false = true) →
    lexRow md ops l.length k listed = true → wpMl P ops F Lq k l a →
    wpAnyM P md ops F n (fun listed' a' => (I listed' ∧ ∀ j, j < n → listed'.getD j false = true) ∧ Lq a') l.length listed a
  | [], k, listed, a, _, hk, hi, hl, hB, h => by
    have : k = n := by simpa using hk
    subst this
    exact ⟨⟨hi, hl⟩, h⟩
  | o :: l, k, listed, a, hl, hk, inv, hlis, hB, h => by
    have h0 : ops[k]? = some o := by simpa using (hl 0 (by simp)).symm
    simp only [List.length_cons, lexRow, Bool.and_eq_true] at hB
    obtain ⟨⟨hr, hf⟩, hB'⟩ := hB
    have hkn : k < n := by simp only [List.length_cons] at hk; omega
    have hr' : k ∈ Region.ready md ops listed := by simpa using hr
    obtain ⟨v, hy, hK⟩ := h
    exact wpAnyM_first (I := I) h0 (Region.noSelect_spec hsel) hkn hI (fun listed hi hu => hex listed k hi hkn hu) (fun listed' a' hL j hj => by
        rcases Nat.lt_or_ge j n with hjn | hjn
        · have h1 := hL.1.2 j hjn
          have h2 := getD_both (mem_ready.1 hj).1
          rw [h1] at h2; cases h2
        · exact hjn) l.length listed a inv (Region.free_spec h0 hf) hr' hy
      (wpAnyM_lex hsel hI hex hsize hn l (k + 1) _ _ (fun j hj => by have := hl (j + 1) (by simp; omega); simpa [Nat.add_assoc, Nat.add_comm 1 j] using this) (by simp only [List.length_cons] at hk; omega) (hI _ _ inv hr' hkn)
        (fun j hj => by
          by_cases e : k = j
          · subst e; simp [show k < listed.size by rw [hsize _ inv]; omega]
          · rw [getD_set_ne false e]; exact hlis j (by omega)) hB' hK)

/-! ### Stage 1: the first n operations, of which number m makes memory; the others read -/
def chainB2 (md : Region.Mode) (ops : Array Oper) (n : Nat) : Bool :=
  (List.range ops.size).all fun t => decide (t ≤ n) || (List.range t).any fun s => decide (n ≤ s) && Region.waitsFor md ops t s

theorem tail_waits2 {n : Nat} {listed : Array Bool} (hs : Region.sinkB md ops n = true) (hc : chainB2 md ops n = true) (hn : n < ops.size) (inv : HeadInv md ops n listed) :
    ∀ (d i : Nat), n - i = d → i < n → listed.getD i true = false → ∀ t, n ≤ t → t ∉ Region.ready md ops listed := by
  intro d
  induction d using Nat.strongRecOn with
  | _ d ih =>
    intro i hd hi hun t ht hr
    obtain ⟨_, ot, hot, hall⟩ := mem_ready.1 hr
    have htlt : t < ops.size := (Array.getElem?_eq_some_iff.1 hot).1
    by_cases htn : t = n
    · subst htn
      have h1 := List.all_eq_true.1 hs i (List.mem_range.2 hi)
      obtain ⟨j, hj, hj2⟩ := List.any_eq_true.1 h1
      simp only [Bool.and_eq_true, decide_eq_true_eq] at hj2
      obtain ⟨oj, hoj, e, he, hb, hon⟩ := Region.waitsFor_spec hj2.2
      have hjle : j ≤ t := by have := List.mem_range.1 hj; omega
      by_cases hjt : j = t
      · subst hjt
        have : oj = ot := Option.some.inj (hoj.symm.trans hot)
        subst this
        have h2 := hall e he hb
        rw [hon, getD_both hun] at h2
        cases h2
      · cases hl : listed.getD j false with
        | true =>
          have h2 := inv.closed j oj hoj hl e he hb
          rw [hon, getD_both hun] at h2
          cases h2
        | false =>
          have hjs : j < listed.size := by rw [inv.size]; omega
          exact ih (t - j) (by omega) j rfl (by omega) (getD_in hjs hl) t (Nat.le_refl _) hr
    · have h1 := List.all_eq_true.1 hc t (List.mem_range.2 htlt)
      simp only [Bool.or_eq_true, decide_eq_true_eq] at h1
      rcases h1 with h1 | h1
      · omega
      · obtain ⟨s, hs1, hs2⟩ := List.any_eq_true.1 h1
        simp only [Bool.and_eq_true, decide_eq_true_eq] at hs2
        have hst := List.mem_range.1 hs1
        obtain ⟨o', ho', e, he, hb, hon⟩ := Region.waitsFor_spec hs2.2
        have : o' = ot := Option.some.inj (ho'.symm.trans hot)
        subst this
        have h2 := hall e he hb
        rw [hon, getD_both (inv.tail s hs2.1 (by omega))] at h2
        cases h2

theorem firsts_of {n : Nat} {listed : Array Bool} (inv : HeadInv md ops n listed) (hn : n ≤ ops.size) (h : ∀ j, j < n → listed.getD j false = true) : listed = firsts ops.size n := by
  apply Array.ext
  · simp [firsts, inv.size]; omega
  · intro j h1 h2
    have hj : j < ops.size := by rw [← inv.size]; exact h1
    by_cases hjn : j < n
    · have h3 := h j hjn
      simp [h1] at h3
      simp [firsts, Array.getElem_append, hjn, h3]
    · have h3 := inv.tail j (by omega) hj
      simp [h1] at h3
      simp [firsts, Array.getElem_append, hjn, h3]

def stage1B (ops : Array Oper) (n : Nat) : Bool :=
  Region.noSelect ops && decide (n < ops.size) && Region.sinkB .any ops n && chainB2 .any ops n && lexRow .any ops n 0 (Array.replicate ops.size false)

def fam1 (w1 w2 : World) (m : Nat) : Fam :=
  { W := fun l => if l.getD m false = true then w2 else w1, T := fun i w w' => if i = m then w = w1 ∧ w' = w2 else w' = w ∧ (w = w1 ∨ w = w2) }

def yieldTo (w' : World) (next : Value → Prop) : Result Next → Prop
  | .ok (.value v) u => u = w' ∧ next v
  | .ok .skip u => u = w' ∧ next undef
  | _ => False

theorem yieldsTo_upon {w w' : World} {o : Oper} {v : Value} {a : Act} (h : ∀ K : Value → Prop, K v → if Region.wanted o (yielded ops a.tmps) then yieldTo w' K ((execOp a.eval o).run P w) else w' = w ∧ K undef) : YieldsTo P ops w w' o v a := by
  have h := h (· = v) rfl
  unfold YieldsTo
  split at h
  · rename_i hw
    refine .inl ⟨hw, ?_⟩
    unfold yieldTo at h
    split at h
    · rename_i hr; obtain ⟨rfl, rfl⟩ := h; exact .inl hr
    · rename_i hr; obtain ⟨rfl, rfl⟩ := h; exact .inr (.inl ⟨hr, rfl⟩)
    · cases h
  · rename_i hw
    exact .inr ⟨by simpa using hw, h.2.symm, h.1⟩

theorem wpMl_nil {Q : Act → Prop} {k : Nat} {a : Act} (h : Q a) : wpMl P ops F Q k [] a := h

theorem wpMl_two {w1 w2 : World} {m k : Nat} {Q : Act → Prop} {a : Act} {o : Oper} {rest : List Oper} {v : Value} (hk : k ≠ m)
    (h1 : ∀ K : Value → Prop, K v → if Region.wanted o (yielded ops a.tmps) then yieldTo w1 K ((execOp a.eval o).run P w1) else w1 = w1 ∧ K undef)
    (h2 : ∀ K : Value → Prop, K v → if Region.wanted o (yielded ops a.tmps) then yieldTo w2 K ((execOp a.eval o).run P w2) else w2 = w2 ∧ K undef)
    (h : wpMl P ops (fam1 w1 w2 m) Q (k + 1) rest (a.put o.dst v)) : wpMl P ops (fam1 w1 w2 m) Q k (o :: rest) a := by
  refine ⟨v, fun w w' ht => ?_, h⟩
  simp only [fam1, if_neg hk] at ht
  obtain ⟨rfl, rfl | rfl⟩ := ht
  · exact yieldsTo_upon h1
  · exact yieldsTo_upon h2
theorem wpMl_make {w1 w2 : World} {m : Nat} {Q : Act → Prop} {a : Act} {o : Oper} {rest : List Oper} {v : Value}
    (h1 : ∀ K : Value → Prop, K v → if Region.wanted o (yielded ops a.tmps) then yieldTo w2 K ((execOp a.eval o).run P w1) else w2 = w1 ∧ K undef)
    (h : wpMl P ops (fam1 w1 w2 m) Q (m + 1) rest (a.put o.dst v)) : wpMl P ops (fam1 w1 w2 m) Q m (o :: rest) a := by
  refine ⟨v, fun w w' ht => ?_, h⟩
  simp only [fam1, if_true] at ht
  obtain ⟨rfl, rfl⟩ := ht
  exact yieldsTo_upon h1

theorem wp_region_make {id : Nat} {Q : Exit → Act → World → Prop} {a : Act} {w w2 : World} {l : List Oper} (n m : Nat) (hm : P.follows .mixedOrders = true) (hB : stage1B l.toArray n = true) (hmn : m < n)
    (h : wpMl P l.toArray (fam1 { w with drawn := w.drawn + 1 } w2 m) (fun a'' => wpAny P .any l.toArray Q (l.length - n) (firsts l.length n) a'' w2) 0 (l.take n) a) :
    (Code.region id l.toArray true).wp P Q a w := by
  simp only [stage1B, Bool.and_eq_true, decide_eq_true_eq] at hB
  obtain ⟨⟨⟨⟨hsel, hn⟩, hs⟩, hc⟩, hlex⟩ := hB
  have hn' : n < l.length := by simpa using hn
  have htl : (l.take n).length = n := by simp; omega
  have inv0 : HeadInv .any l.toArray n (Array.replicate l.toArray.size false) :=
    ⟨by simp, fun j oj _ hl => (by rw [getD_replicate_false] at hl; cases hl), fun t _ ht => getD_in (by simpa using ht) (getD_replicate_false _ _)⟩
  have hms : m < l.toArray.size := by simp; omega
  have H := wpAnyM_lex (md := .any) (I := HeadInv .any l.toArray n) hsel (fun listed j inv hj hjn => inv.set hj hjn) (fun listed i inv hi hu => tail_waits2 hs hc hn inv _ i rfl hi hu) (fun listed inv => inv.size) (Nat.le_of_lt hn)
    (l.take n) 0 _ a (fun j hj => by
      have hj' : j < n := by rw [htl] at hj; exact hj
      simp [hj']) (by simpa using htl) inv0 (fun j hj => absurd hj (Nat.not_lt_zero _)) (by rw [htl]; exact hlex) h
  refine wp_region_any hm ?_
  have := wpAny_of_headM (md := .any) (Q' := Q) (g := l.length - n) (F := fam1 { w with drawn := w.drawn + 1 } w2 m)
    (fun listed i hls hr => by
      have hun := getD_both (mem_ready.1 hr).1
      by_cases e : i = m
      · subst e
        have e2 : (listed.setIfInBounds i true).getD i false = true := by simp [hls]; simpa using hms
        simp only [fam1, if_true, hun, e2, Bool.false_eq_true, if_false, and_self]
      · have e2 : (listed.setIfInBounds i true).getD m false = listed.getD m false := getD_set_ne false e
        simp only [fam1, if_neg e, e2, true_and]
        by_cases hg : listed.getD m false = true
        · right; rw [if_pos hg]
        · left; rw [if_neg hg])
    (fun listed a' hls hL => by
      obtain ⟨⟨inv, hall⟩, hq⟩ := hL
      have e := firsts_of inv (Nat.le_of_lt hn) hall
      have e2 : (fam1 { w with drawn := w.drawn + 1 } w2 m).W listed = w2 := by
        show (if listed.getD m false = true then w2 else _) = _
        rw [if_pos (hall m hmn)]
      rw [e2, e]
      simpa using hq) _ _ _ (by simp) H
  rw [htl, show n + (l.length - n) = l.toArray.size by simp; omega] at this
  have hW : (fam1 { w with drawn := w.drawn + 1 } w2 m).W (Array.replicate l.toArray.size false) = { w with drawn := w.drawn + 1 } := by
    show (if (Array.replicate l.toArray.size false).getD m false = true then w2 else _) = _
    rw [getD_replicate_false]; rfl
  rw [hW] at this
  exact this

/-! ### Stage 2: one operation that alone may come -/
theorem wpAny_one {n g s : Nat} {o : Oper} {Q : Exit → Act → World → Prop} {a : Act} {w : World} (ho : ops[n]? = some o) (hr : Region.ready md ops (firsts s n) = [n]) (hset : (firsts s n).setIfInBounds n true = firsts s (n + 1))
    (h : ∀ K : Act → World → Prop, (∀ a w, wpAny P md ops Q g (firsts s (n + 1)) a w → K a w) → o.guard = none ∧ o.wp P a w K Q) : wpAny P md ops Q (g + 1) (firsts s n) a w := by
  refine ⟨fun h0 => (by rw [hr] at h0; cases h0), fun i hi => ?_⟩
  rw [hr] at hi
  have hin : i = n := by simpa using hi
  subst hin
  rw [hset]
  obtain ⟨hg, h1⟩ := h _ (fun _ _ h => h)
  unfold wpOp
  simp only [ho]
  have hw : Region.wanted o (yielded ops a.tmps) = true := by simp [Region.wanted, hg]
  rw [if_pos hw]
  exact .inl h1

/-! ### Stage 3: the rest, of which numbers p and q write apart; the others read -/
def fam2 (w00 w10 w01 w11 : World) (p q : Nat) : Fam :=
  { W := fun l => if l.getD p false = true then (if l.getD q false = true then w11 else w10) else (if l.getD q false = true then w01 else w00)
    T := fun i w w' => if i = p then (w = w00 ∧ w' = w10) ∨ (w = w01 ∧ w' = w11) else if i = q then (w = w00 ∧ w' = w01) ∨ (w = w10 ∧ w' = w11) else w' = w ∧ (w = w00 ∨ w = w10 ∨ w = w01 ∨ w = w11) }

theorem wpMl_four {w00 w10 w01 w11 : World} {p q k : Nat} {Q : Act → Prop} {a : Act} {o : Oper} {rest : List Oper} {v : Value} (hp : k ≠ p) (hq : k ≠ q)
    (h0 : ∀ w, ∀ K : Value → Prop, K v → if Region.wanted o (yielded ops a.tmps) then yieldTo w K ((execOp a.eval o).run P w) else w = w ∧ K undef)
    (h : wpMl P ops (fam2 w00 w10 w01 w11 p q) Q (k + 1) rest (a.put o.dst v)) : wpMl P ops (fam2 w00 w10 w01 w11 p q) Q k (o :: rest) a := by
  refine ⟨v, fun w w' ht => ?_, h⟩
  simp only [fam2, if_neg hp, if_neg hq] at ht
  obtain ⟨rfl, _⟩ := ht
  exact yieldsTo_upon (h0 _)
theorem wpMl_first {w00 w10 w01 w11 : World} {p q : Nat} {Q : Act → Prop} {a : Act} {o : Oper} {rest : List Oper} {v : Value}
    (h1 : ∀ K : Value → Prop, K v → if Region.wanted o (yielded ops a.tmps) then yieldTo w10 K ((execOp a.eval o).run P w00) else w10 = w00 ∧ K undef)
    (h2 : ∀ K : Value → Prop, K v → if Region.wanted o (yielded ops a.tmps) then yieldTo w11 K ((execOp a.eval o).run P w01) else w11 = w01 ∧ K undef)
    (h : wpMl P ops (fam2 w00 w10 w01 w11 p q) Q (p + 1) rest (a.put o.dst v)) : wpMl P ops (fam2 w00 w10 w01 w11 p q) Q p (o :: rest) a := by
  refine ⟨v, fun w w' ht => ?_, h⟩
  simp only [fam2, if_true] at ht
  rcases ht with ⟨rfl, rfl⟩ | ⟨rfl, rfl⟩
  · exact yieldsTo_upon h1
  · exact yieldsTo_upon h2
theorem wpMl_second {w00 w10 w01 w11 : World} {p q : Nat} {Q : Act → Prop} {a : Act} {o : Oper} {rest : List Oper} {v : Value} (hpq : q ≠ p)
    (h1 : ∀ K : Value → Prop, K v → if Region.wanted o (yielded ops a.tmps) then yieldTo w01 K ((execOp a.eval o).run P w00) else w01 = w00 ∧ K undef)
    (h2 : ∀ K : Value → Prop, K v → if Region.wanted o (yielded ops a.tmps) then yieldTo w11 K ((execOp a.eval o).run P w10) else w11 = w10 ∧ K undef)
    (h : wpMl P ops (fam2 w00 w10 w01 w11 p q) Q (q + 1) rest (a.put o.dst v)) : wpMl P ops (fam2 w00 w10 w01 w11 p q) Q q (o :: rest) a := by
  refine ⟨v, fun w w' ht => ?_, h⟩
  simp only [fam2, if_neg hpq, if_true] at ht
  rcases ht with ⟨rfl, rfl⟩ | ⟨rfl, rfl⟩
  · exact yieldsTo_upon h1
  · exact yieldsTo_upon h2

def pairB (l : List Oper) (k p q : Nat) : Bool :=
  Region.noSelect l.toArray && (decide (k ≤ l.length) && (decide (k ≤ p) && (decide (k ≤ q) && (decide (p < l.length) && (decide (q < l.length) && (decide (q ≠ p) && lexRow .any l.toArray (l.length - k) k (firsts l.length k)))))))

theorem wpAny_pair {Q : Exit → Act → World → Prop} {a : Act} {l : List Oper} {w00 w10 w01 w11 : World} {k p q : Nat} (hpB : pairB l k p q = true)
    (h : wpMl P l.toArray (fam2 w00 w10 w01 w11 p q) (fun a' => Q .normal a' w11) k (l.drop k) a) : wpAny P .any l.toArray Q (l.length - k) (firsts l.length k) a w00 := by
  simp only [pairB, Bool.and_eq_true, decide_eq_true_eq] at hpB
  obtain ⟨hsel, hk, hkp, hkq, hp, hq, hpq, hB⟩ := hpB
  have hdl : (l.drop k).length = l.length - k := by simp
  have hfs : (firsts l.length k).size = l.toArray.size := by simp [firsts]; omega
  have hf1 : ∀ j, j < k → (firsts l.length k).getD j false = true := fun j hj => by
    simp [firsts, Array.getElem_append, hj, show j < k + (l.length - k) by omega]
  have hf2 : ∀ j, k ≤ j → (firsts l.length k).getD j false = false := fun j hj => by
    by_cases hjl : j < k + (l.length - k)
    · simp [firsts, Array.getElem_append, hjl, show ¬ j < k by omega]
    · simp [firsts, hjl]
  have H := wpAnyM_lex (md := .any) (I := fun listed => listed.size = l.toArray.size) (n := l.toArray.size) hsel (fun listed j inv hj hjn => by simpa using inv)
    (fun listed i inv hi hu t ht hr => by
      obtain ⟨_, ot, hot, _⟩ := mem_ready.1 hr
      have := (Array.getElem?_eq_some_iff.1 hot).1
      omega) (fun listed inv => inv) (Nat.le_refl _)
    (l.drop k) k _ a (fun j hj => by simp [List.getElem?_drop]) (by simp; omega) hfs hf1 (by rw [hdl]; exact hB) h
  have := wpAny_of_headM (md := .any) (Q' := Q) (g := 0) (F := fam2 w00 w10 w01 w11 p q)
    (fun listed i hls hr => by
      have hun := getD_both (mem_ready.1 hr).1
      have hps : p < listed.size := by rw [hls]; simpa using hp
      have hqs : q < listed.size := by rw [hls]; simpa using hq
      by_cases e : i = p
      · subst e
        have e2 : (listed.setIfInBounds i true).getD i false = true := by simp [hps]
        have e3 : (listed.setIfInBounds i true).getD q false = listed.getD q false := getD_set_ne false (Ne.symm hpq)
        simp only [fam2, if_true, hun, e2, e3, Bool.false_eq_true, if_false]
        by_cases hg : listed.getD q false = true
        · right; rw [if_pos hg, if_pos hg]; exact ⟨rfl, rfl⟩
        · left; rw [if_neg hg, if_neg hg]; exact ⟨rfl, rfl⟩
      · by_cases e' : i = q
        · subst e'
          have e2 : (listed.setIfInBounds i true).getD i false = true := by simp [hqs]
          have e3 : (listed.setIfInBounds i true).getD p false = listed.getD p false := getD_set_ne false e
          simp only [fam2, if_neg e, if_true, hun, e2, e3, Bool.false_eq_true, if_false]
          by_cases hg : listed.getD p false = true
          · right; rw [if_pos hg, if_pos hg]; exact ⟨rfl, rfl⟩
          · left; rw [if_neg hg, if_neg hg]; exact ⟨rfl, rfl⟩
        · have e2 : (listed.setIfInBounds i true).getD p false = listed.getD p false := getD_set_ne false e
          have e3 : (listed.setIfInBounds i true).getD q false = listed.getD q false := getD_set_ne false e'
          simp only [fam2, if_neg e, if_neg e', e2, e3, true_and]
          by_cases hg : listed.getD p false = true
          · rw [if_pos hg]
            by_cases hg' : listed.getD q false = true
            · rw [if_pos hg']; exact .inr (.inr (.inr rfl))
            · rw [if_neg hg']; exact .inr (.inl rfl)
          · rw [if_neg hg]
            by_cases hg' : listed.getD q false = true
            · rw [if_pos hg']; exact .inr (.inr (.inl rfl))
            · rw [if_neg hg']; exact .inl rfl)
    (fun listed a' hls hL => by
      obtain ⟨⟨inv, hall⟩, hQ⟩ := hL
      have e2 : (fam2 w00 w10 w01 w11 p q).W listed = w11 := by
        simp only [fam2]
        rw [if_pos (hall p (by simpa using hp)), if_pos (hall q (by simpa using hq))]
      rw [e2]
      refine ⟨?_, hQ⟩
      apply List.eq_nil_iff_forall_not_mem.2
      intro i hr
      obtain ⟨hun, oi, hoi, _⟩ := mem_ready.1 hr
      have := (Array.getElem?_eq_some_iff.1 hoi).1
      have h1 := hall i this
      rw [getD_both hun] at h1
      cases h1) _ _ _ hfs H
  rw [hdl, Nat.add_zero] at this
  have hW : (fam2 w00 w10 w01 w11 p q).W (firsts l.length k) = w00 := by
    simp only [fam2, hf2 p hkp, hf2 q hkq, Bool.false_eq_true, if_false]
  rw [hW] at this
  exact this
end
end Go.Proofs.YtmifmmpbmcfmpaaGreatDoor.MkW
