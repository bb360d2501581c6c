/-
  A region whose order is drawn, in which two operations make or write memory beside others that read.
-/
import Derived.Test.YtmifmmpbmcfmpaaGreatDoorMk
set_option linter.unusedVariables false
set_option linter.unusedSimpArgs false
namespace Go.Proofs.YtmifmmpbmcfmpaaGreatDoor.MkW
open Go

section
variable {P : Program} {ops : Array Oper} {md : Region.Mode}

theorem wpMl_quad {w00 w10 w01 w11 : World} {p q k : Nat} {Q : Act → Prop} {a : Act} {o : Oper} {rest : List Oper} {v : Value} (hp : k ≠ p) (hq : k ≠ q)
    (h0 : ∀ K : Value → Prop, K v → if Region.wanted o (yielded ops a.tmps) then yieldTo w00 K ((execOp a.eval o).run P w00) else w00 = w00 ∧ K undef)
    (h1 : ∀ K : Value → Prop, K v → if Region.wanted o (yielded ops a.tmps) then yieldTo w10 K ((execOp a.eval o).run P w10) else w10 = w10 ∧ K undef)
    (h2 : ∀ K : Value → Prop, K v → if Region.wanted o (yielded ops a.tmps) then yieldTo w01 K ((execOp a.eval o).run P w01) else w01 = w01 ∧ K undef)
    (h3 : ∀ K : Value → Prop, K v → if Region.wanted o (yielded ops a.tmps) then yieldTo w11 K ((execOp a.eval o).run P w11) else w11 = w11 ∧ K undef)
    (h : wpMl P ops (fam2 w00 w10 w01 w11 p q) Q (k + 1) rest (a.put o.dst v)) : wpMl P ops (fam2 w00 w10 w01 w11 p q) Q k (o :: rest) a := by
  refine ⟨v, fun w w' ht => ?_, h⟩
  simp only [fam2, if_neg hp, if_neg hq] at ht
  obtain ⟨rfl, rfl | rfl | rfl | rfl⟩ := ht
  · exact yieldsTo_upon h0
  · exact yieldsTo_upon h1
  · exact yieldsTo_upon h2
  · exact yieldsTo_upon h3

theorem yieldsTo_call {w w' : World} {o : Oper} {v : Value} {a : Act} {f : FuncId} {args : Array Value} (hg : o.guard = none) (hr : (execOp a.eval o).run P w = .ok (.enter f args) w) (hc : Calls P f args w fun e w'' => e = .returned v ∧ w'' = w') : YieldsTo P ops w w' o v a :=
  .inl ⟨by simp [Region.wanted, hg], .inr (.inr ⟨f, args, hr, hc⟩)⟩

theorem wpMl_firstC {w00 w10 w01 w11 : World} {p q : Nat} {Q : Act → Prop} {a : Act} {o : Oper} {rest : List Oper} {v : Value}
    (h1 : YieldsTo P ops w00 w10 o v a) (h2 : YieldsTo P ops w01 w11 o v a)
    (h : wpMl P ops (fam2 w00 w10 w01 w11 p q) Q (p + 1) rest (a.put o.dst v)) : wpMl P ops (fam2 w00 w10 w01 w11 p q) Q p (o :: rest) a := by
  refine ⟨v, fun w w' ht => ?_, h⟩
  simp only [fam2, if_true] at ht
  rcases ht with ⟨rfl, rfl⟩ | ⟨rfl, rfl⟩
  · exact h1
  · exact h2

theorem fam2_T {w00 w10 w01 w11 : World} {p q i : Nat} {listed : Array Bool} (hpq : q ≠ p) (hps : p < listed.size) (hqs : q < listed.size) (hun : listed.getD i false = false) :
    (fam2 w00 w10 w01 w11 p q).T i ((fam2 w00 w10 w01 w11 p q).W listed) ((fam2 w00 w10 w01 w11 p q).W (listed.setIfInBounds i true)) := by
  by_cases e : i = p
  · subst e
    have e2 : (listed.setIfInBounds i true).getD i false = true := by simp [hps]
    have e3 : (listed.setIfInBounds i true).getD q false = listed.getD q false := getD_set_ne false (Ne.symm hpq)
    simp only [fam2, if_true, hun, e2, e3, Bool.false_eq_true, if_false]
    by_cases hg : listed.getD q false = true
    · right; rw [if_pos hg, if_pos hg]; exact ⟨rfl, rfl⟩
    · left; rw [if_neg hg, if_neg hg]; exact ⟨rfl, rfl⟩
  · by_cases e' : i = q
    · subst e'
      have e2 : (listed.setIfInBounds i true).getD i false = true := by simp [hqs]
      have e3 : (listed.setIfInBounds i true).getD p false = listed.getD p false := getD_set_ne false e
      simp only [fam2, if_neg e, if_true, hun, e2, e3, Bool.false_eq_true, if_false]
      by_cases hg : listed.getD p false = true
      · right; rw [if_pos hg, if_pos hg]; exact ⟨rfl, rfl⟩
      · left; rw [if_neg hg, if_neg hg]; exact ⟨rfl, rfl⟩
    · have e2 : (listed.setIfInBounds i true).getD p false = listed.getD p false := getD_set_ne false e
      have e3 : (listed.setIfInBounds i true).getD q false = listed.getD q false := getD_set_ne false e'
      simp only [fam2, if_neg e, if_neg e', e2, e3, true_and]
      by_cases hg : listed.getD p false = true
      · rw [if_pos hg]
        by_cases hg' : listed.getD q false = true
        · rw [if_pos hg']; exact .inr (.inr (.inr rfl))
        · rw [if_neg hg']; exact .inr (.inl rfl)
      · rw [if_neg hg]
        by_cases hg' : listed.getD q false = true
        · rw [if_pos hg']; exact .inr (.inr (.inl rfl))
        · rw [if_neg hg']; exact .inl rfl

theorem wp_region_make2 {id : Nat} {Q : Exit → Act → World → Prop} {a : Act} {w w10 w01 w11 : World} {l : List Oper} (n p q : Nat) (hm : P.follows .mixedOrders = true) (hB : stage1B l.toArray n = true) (hpn : p < n) (hqn : q < n) (hpq : q ≠ p)
    (h : wpMl P l.toArray (fam2 { w with drawn := w.drawn + 1 } w10 w01 w11 p q) (fun a'' => wpAny P .any l.toArray Q (l.length - n) (firsts l.length n) a'' w11) 0 (l.take n) a) :
    (Code.region id l.toArray true).wp P Q a w := by
  simp only [stage1B, Bool.and_eq_true, decide_eq_true_eq] at hB
  obtain ⟨⟨⟨⟨hsel, hn⟩, hs⟩, hc⟩, hlex⟩ := hB
  have hn' : n < l.length := by simpa using hn
  have htl : (l.take n).length = n := by simp; omega
  have inv0 : HeadInv .any l.toArray n (Array.replicate l.toArray.size false) :=
    ⟨by simp, fun j oj _ hl => (by rw [getD_replicate_false] at hl; cases hl), fun t _ ht => getD_in (by simpa using ht) (getD_replicate_false _ _)⟩
  have H := wpAnyM_lex (md := .any) (I := HeadInv .any l.toArray n) hsel (fun listed j inv hj hjn => inv.set hj hjn) (fun listed i inv hi hu => tail_waits2 hs hc hn inv _ i rfl hi hu) (fun listed inv => inv.size) (Nat.le_of_lt hn)
    (l.take n) 0 _ a (fun j hj => by
      have hj' : j < n := by rw [htl] at hj; exact hj
      simp [hj']) (by simpa using htl) inv0 (fun j hj => absurd hj (Nat.not_lt_zero _)) (by rw [htl]; exact hlex) h
  refine wp_region_any hm ?_
  have := wpAny_of_headM (md := .any) (Q' := Q) (g := l.length - n) (F := fam2 { w with drawn := w.drawn + 1 } w10 w01 w11 p q)
    (fun listed i hls hr => fam2_T hpq (by rw [hls]; simp; omega) (by rw [hls]; simp; omega) (getD_both (mem_ready.1 hr).1))
    (fun listed a' hls hL => by
      obtain ⟨⟨inv, hall⟩, hq⟩ := hL
      have e := firsts_of inv (Nat.le_of_lt hn) hall
      have e2 : (fam2 { w with drawn := w.drawn + 1 } w10 w01 w11 p q).W listed = w11 := by
        simp only [fam2]
        rw [if_pos (hall p hpn), if_pos (hall q hqn)]
      rw [e2, e]
      simpa using hq) _ _ _ (by simp) H
  rw [htl, show n + (l.length - n) = l.toArray.size by simp; omega] at this
  have hW : (fam2 { w with drawn := w.drawn + 1 } w10 w01 w11 p q).W (Array.replicate l.toArray.size false) = { w with drawn := w.drawn + 1 } := by
    simp only [fam2, getD_replicate_false, Bool.false_eq_true, if_false]
  rw [hW] at this
  exact this
end
end Go.Proofs.YtmifmmpbmcfmpaaGreatDoor.MkW
