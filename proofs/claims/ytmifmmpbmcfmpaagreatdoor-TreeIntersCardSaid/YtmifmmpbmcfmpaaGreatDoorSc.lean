import Derived.Test.YtmifmmpbmcfmpaaGreatDoorSb
import Derived.Lib.Bytealg
set_option linter.unusedVariables false
set_option linter.unusedSimpArgs false
namespace Go.S2

/-- The same, in a frame with other slots. -/
def FS.wt (tm : Tr TV) (fs : FS) : FS := { tm := tm, lc := fs.lc, df := fs.df }
def OR.wt (tm : Tr TV) : OR → OR
  | .ok x fs h => .ok x (fs.wt tm) h
  | r => r

section
variable {C : Ctx} {fs : FS} {h : H} {tm : Tr TV}

theorem evalV_wt {o : Operand} (e : evalO (fs.wt tm) o = evalO fs o) : evalV (fs.wt tm) o = evalV fs o := by simp [evalV, e]

theorem evalVs_wt : ∀ {os : List Operand}, (∀ o ∈ os, evalO (fs.wt tm) o = evalO fs o) → evalVs (fs.wt tm) os = evalVs fs os
  | [], _ => rfl
  | o :: os, e => by
    simp only [evalVs]
    rw [evalV_wt (e o (by simp)), evalVs_wt (fun x hx => e x (by simp [hx]))]

theorem evalParts_wt : ∀ {ps : List (Nat × Operand)}, (∀ o ∈ ps.map (·.2), evalO (fs.wt tm) o = evalO fs o) → evalParts (fs.wt tm) ps = evalParts fs ps
  | [], _ => rfl
  | (i, o) :: ps, e => by
    simp only [evalParts]
    rw [evalV_wt (e o (by simp)), evalParts_wt (fun x hx => e x (by simp at hx ⊢; exact .inr hx))]

theorem evalOpt_wt {o : Option Operand} (e : ∀ x, o = some x → evalO (fs.wt tm) x = evalO fs x) : evalOpt (fs.wt tm) o = evalOpt fs o := by
  cases o with
  | none => rfl
  | some x => simp [evalOpt, evalV_wt (e x rfl)]

theorem okV_wt (o : Option V) : okV (fs.wt tm) h o = (okV fs h o).wt tm := by cases o <;> rfl
theorem okT_wt (o : Option TV) : okT (fs.wt tm) h o = (okT fs h o).wt tm := by cases o <;> rfl

theorem with1_wt {x : Operand} {k : V → FS → H → OR} (e : evalO (fs.wt tm) x = evalO fs x) (hk : ∀ v, k v (fs.wt tm) h = (k v fs h).wt tm) : with1 x k (fs.wt tm) h = (with1 x k fs h).wt tm := by
  unfold with1
  rw [evalV_wt e]
  cases evalV fs x with
  | none => rfl
  | some v => exact hk v

theorem with2_wt {x y : Operand} {k : V → V → FS → H → OR} (e : evalO (fs.wt tm) x = evalO fs x) (e' : evalO (fs.wt tm) y = evalO fs y) (hk : ∀ u v, k u v (fs.wt tm) h = (k u v fs h).wt tm) :
    with2 x y k (fs.wt tm) h = (with2 x y k fs h).wt tm := by
  unfold with2
  rw [evalV_wt e, evalV_wt e']
  cases evalV fs x with
  | none => rfl
  | some u => cases evalV fs y with
    | none => rfl
    | some v => exact hk u v

theorem loc_wt (s : Nat) : (fs.wt tm).loc s = fs.loc s := rfl

theorem newA_wt (hp : Bool) (d : Option Tmp) (el : TypeId) (cs : List V) : newA hp d el cs (fs.wt tm) h = (newA hp d el cs fs h).wt tm := by
  unfold newA
  split
  · rfl
  · cases d with
    | none => rfl
    | some d =>
      simp only [loc_wt]
      split <;> rfl

theorem loadA_wt (t : TypeId) (a : TV) : loadA C t a (fs.wt tm) h = (loadA C t a fs h).wt tm := by
  unfold loadA
  split
  · simp only [loc_wt]
    split
    · exact okV_wt _
    · rfl
  · split
    · exact okV_wt _
    · rfl
  · rfl

theorem storeA_wt (t : TypeId) (a : TV) (x : V) : storeA C t a x (fs.wt tm) h = (storeA C t a x fs h).wt tm := by
  unfold storeA
  split
  · rfl
  · split
    · simp only [loc_wt]
      split
      · split <;> rfl
      · rfl
    · split
      · split
        · split <;> rfl
        · rfl
      · rfl
    · rfl

theorem mvA_wt {x : Operand} (e : evalO (fs.wt tm) x = evalO fs x) : mvA x (fs.wt tm) h = (mvA x fs h).wt tm := by
  unfold mvA
  rw [e]
  split <;> rfl

theorem convA_wt (s d : TypeId) (x : V) : convA C s d x (fs.wt tm) h = (convA C s d x fs h).wt tm := by
  unfold convA
  repeat' split
  all_goals rfl

theorem mkIfaceA_wt (t : TypeId) (x : V) : mkIfaceA C t x (fs.wt tm) h = (mkIfaceA C t x fs h).wt tm := by
  unfold mkIfaceA
  split <;> rfl

theorem mkSliceA_wt (t : TypeId) (l c : V) : mkSliceA C t l c (fs.wt tm) h = (mkSliceA C t l c fs h).wt tm := by
  unfold mkSliceA
  repeat' split
  all_goals rfl

theorem sliceA_wt (t : TypeId) (x : TV) (lo hi mx : Option V) : sliceA C t x lo hi mx (fs.wt tm) h = (sliceA C t x lo hi mx fs h).wt tm := by
  unfold sliceA
  repeat' split
  all_goals rfl

theorem iterA_wt (d : Option Tmp) (o : LO) : iterA d o (fs.wt tm) h = (iterA d o fs h).wt tm := by
  unfold iterA
  cases d with
  | none => rfl
  | some d =>
    simp only [loc_wt]
    split <;> rfl

theorem rangeA_wt (t : TypeId) (d : Option Tmp) (x : V) : rangeA C t d x (fs.wt tm) h = (rangeA C t d x fs h).wt tm := by
  unfold rangeA
  split
  · exact iterA_wt _ _
  · exact iterA_wt _ _
  · split
    · exact iterA_wt _ _
    · rfl
  · rfl

theorem nextA_wt (it : TV) (s : Bool) : nextA it s (fs.wt tm) h = (nextA it s fs h).wt tm := by
  unfold nextA mnextA
  simp only [loc_wt]
  repeat' split
  all_goals rfl

theorem entryA_wt (it : TV) : entryA it (fs.wt tm) h = (entryA it fs h).wt tm := by
  unfold entryA
  simp only [loc_wt]
  repeat' split
  all_goals rfl

theorem extractA_wt (i : Nat) (x : V) : extractA i x (fs.wt tm) h = (extractA i x fs h).wt tm := by
  unfold extractA
  split
  · exact okV_wt _
  · rfl

theorem appendGrow_wt (e : TypeId) (ti : TI) (base : Option (Nat × Nat)) (l : Nat) (ex : Bool) (n : Nat) (new : List V) : appendGrow e ti base l ex n new (fs.wt tm) h = (appendGrow e ti base l ex n new fs h).wt tm := by
  unfold appendGrow
  repeat' split
  all_goals rfl

theorem appendHere_wt (ti : TI) (i o l c : Nat) (ex : Bool) (n : Nat) (new : List V) : appendHere ti i o l c ex n new (fs.wt tm) h = (appendHere ti i o l c ex n new fs h).wt tm := by
  unfold appendHere
  repeat' split
  all_goals rfl

theorem appendA_wt (t : TypeId) (s : V) (n : Nat) (new : List V) : appendA C t s n new (fs.wt tm) h = (appendA C t s n new fs h).wt tm := by
  unfold appendA
  repeat' split
  all_goals first | rfl | exact appendHere_wt .. | exact appendGrow_wt ..

theorem append0_wt (t : TypeId) (s : V) : append0 C t s (fs.wt tm) h = (append0 C t s fs h).wt tm := by
  unfold append0
  repeat' split
  all_goals rfl

theorem append2_wt (ts : List TypeId) (s x : TV) : append2 C ts s x (fs.wt tm) h = (append2 C ts s x fs h).wt tm := by
  unfold append2
  simp only [loc_wt]
  repeat' split
  all_goals first | rfl | exact append0_wt .. | exact appendA_wt ..

theorem builtinA_wt (b : Builtin) (ts : List TypeId) (args : List V) : builtinA C b ts args (fs.wt tm) h = (builtinA C b ts args fs h).wt tm := by
  unfold builtinA
  repeat' split
  all_goals first | rfl | exact okV_wt _

theorem calleeA_wt {f : Operand} {args : List Operand} (e : evalO (fs.wt tm) f = evalO fs f) (e' : ∀ o ∈ args, evalO (fs.wt tm) o = evalO fs o) : calleeA f args (fs.wt tm) = calleeA f args fs := by
  unfold calleeA
  rw [evalV_wt e, evalVs_wt e']

theorem callA_wt {c : Call} (e : ∀ x ∈ c.operands, evalO (fs.wt tm) x = evalO fs x) : callA C c (fs.wt tm) h = (callA C c fs h).wt tm := by
  have hargs : ∀ o ∈ c.args.toList, evalO (fs.wt tm) o = evalO fs o := fun o ho => e o (by simp [Call.operands] at ho ⊢; exact .inr ho)
  unfold callA
  split
  · rename_i f hf
    rw [calleeA_wt (e f (by simp [Call.operands, hf])) hargs]
    split <;> rfl
  · split
    · split
      · rename_i s x he
        rw [hargs s (by rw [he]; simp), hargs x (by rw [he]; simp)]
        exact append2_wt ..
      · rfl
    · rw [evalVs_wt hargs]
      split
      · exact builtinA_wt ..
      · rfl
  · rfl

theorem deferA_wt {c : Call} (e : ∀ x ∈ c.operands, evalO (fs.wt tm) x = evalO fs x) : deferA c (fs.wt tm) h = (deferA c fs h).wt tm := by
  have hargs : ∀ o ∈ c.args.toList, evalO (fs.wt tm) o = evalO fs o := fun o ho => e o (by simp [Call.operands] at ho ⊢; exact .inr ho)
  unfold deferA
  split
  · rename_i f hf
    rw [calleeA_wt (e f (by simp [Call.operands, hf])) hargs]
    split
    · split <;> rfl
    · rfl
  · rfl

/-- An operation looks at no slot but those that it names. -/
theorem opA_wt (esc : List Tmp) (o : Oper) (e : ∀ x ∈ o.op.operands, evalO (fs.wt tm) x = evalO fs x) : opA C esc o (fs.wt tm) h = (opA C esc o fs h).wt tm := by
  obtain ⟨dst, op, ty, pos, af, gd⟩ := o
  have e1 : ∀ x, x ∈ op.operands → evalO (fs.wt tm) x = evalO fs x := e
  cases op with
  | move x => exact mvA_wt (e1 x (by simp [Op.operands]))
  | assign x => exact mvA_wt (e1 x (by simp [Op.operands]))
  | pick c x y =>
    simp only [opA, pickA]
    rw [e1 c (by simp [Op.operands])]
    split
    · exact mvA_wt (e1 x (by simp [Op.operands]))
    · exact mvA_wt (e1 y (by simp [Op.operands]))
    · rfl
  | alloc el =>
    simp only [opA, allocA]
    split
    · exact newA_wt ..
    · rfl
  | box el x =>
    simp only [opA, boxA]
    rw [evalV_wt (e1 x (by simp [Op.operands]))]
    split
    · split
      · exact newA_wt ..
      · rfl
    · rfl
  | build t ps =>
    simp only [opA, buildO]
    rw [evalParts_wt (fun o ho => e1 o (by simpa [Op.operands] using ho))]
    split
    · exact okV_wt _
    · rfl
  | buildSlice t len ps =>
    simp only [opA, buildSliceA]
    rw [evalParts_wt (fun o ho => e1 o (by simpa [Op.operands] using ho))]
    simp only [loc_wt]
    repeat' split
    all_goals rfl
  | load t x => simp only [opA]; rw [e1 x (by simp [Op.operands])]; exact loadA_wt ..
  | store t x y =>
    simp only [opA, storeO]
    rw [e1 x (by simp [Op.operands]), evalV_wt (e1 y (by simp [Op.operands]))]
    split
    · exact storeA_wt ..
    · rfl
  | nilCheck x => simp only [opA, nilCheckA]; rw [e1 x (by simp [Op.operands])]; split <;> rfl
  | binOp op t x y c =>
    simp only [opA, binO]
    rw [evalV_wt (e1 x (by simp [Op.operands])), evalV_wt (e1 y (by simp [Op.operands]))]
    split
    · exact okV_wt _
    · rfl
  | unOp op t x => exact with1_wt (k := fun a fs h => okV fs h (unA op a)) (e1 x (by simp [Op.operands])) fun v => okV_wt _
  | convert s d x => exact with1_wt (e1 x (by simp [Op.operands])) fun v => convA_wt ..
  | makeInterface t x => exact with1_wt (e1 x (by simp [Op.operands])) fun v => mkIfaceA_wt ..
  | makeFunc f p q =>
    cases f with
    | func f =>
      simp only [opA, mkFuncA]
      rw [evalVs_wt (fun o ho => e1 o (by simp [Op.operands] at ho ⊢; exact .inl ho)), evalVs_wt (fun o ho => e1 o (by simp [Op.operands] at ho ⊢; exact .inr ho))]
      split <;> rfl
    | _ => rfl
  | makeMap t r => cases r <;> rfl
  | makeSlice t l c => exact with2_wt (e1 l (by simp [Op.operands])) (e1 c (by simp [Op.operands])) fun u v => mkSliceA_wt ..
  | slice t x lo hi mx =>
    simp only [opA, sliceO]
    rw [e1 x (by simp [Op.operands]), evalOpt_wt (fun y hy => e1 y (by simp [Op.operands, hy])), evalOpt_wt (fun y hy => e1 y (by simp [Op.operands, hy])), evalOpt_wt (fun y hy => e1 y (by simp [Op.operands, hy]))]
    split
    · exact sliceA_wt ..
    · rfl
  | fieldAddr t x f => simp only [opA]; rw [e1 x (by simp [Op.operands])]; exact okT_wt _
  | field t x f => exact with1_wt (k := fun a fs h => okV fs h (fieldA C t a f)) (e1 x (by simp [Op.operands])) fun v => okV_wt _
  | indexAddr t x i =>
    simp only [opA, indexAddrO]
    rw [e1 x (by simp [Op.operands]), evalV_wt (e1 i (by simp [Op.operands]))]
    split
    · exact okT_wt _
    · rfl
  | index t x i => exact with2_wt (k := fun a b fs h => okV fs h (indexA C t a b)) (e1 x (by simp [Op.operands])) (e1 i (by simp [Op.operands])) fun u v => okV_wt _
  | lookup t x i ok => exact with2_wt (k := fun a b fs h => okV fs h (lookupA C t a b ok h)) (e1 x (by simp [Op.operands])) (e1 i (by simp [Op.operands])) fun u v => okV_wt _
  | mapUpdate t x k y =>
    simp only [opA, updateO]
    rw [evalV_wt (e1 x (by simp [Op.operands])), evalV_wt (e1 k (by simp [Op.operands])), evalV_wt (e1 y (by simp [Op.operands]))]
    repeat' split
    all_goals rfl
  | insert t x k y =>
    simp only [opA, updateO]
    rw [evalV_wt (e1 x (by simp [Op.operands])), evalV_wt (e1 k (by simp [Op.operands])), evalV_wt (e1 y (by simp [Op.operands]))]
    repeat' split
    all_goals rfl
  | range t x => exact with1_wt (e1 x (by simp [Op.operands])) fun v => rangeA_wt ..
  | next it s => simp only [opA]; rw [e1 it (by simp [Op.operands])]; exact nextA_wt ..
  | entry it => simp only [opA]; rw [e1 it (by simp [Op.operands])]; exact entryA_wt ..
  | typeAssert x xt t ok => exact with1_wt (k := fun a fs h => okV fs h (assertA C a t ok)) (e1 x (by simp [Op.operands])) fun v => okV_wt _
  | extract t i => exact with1_wt (e1 t (by simp [Op.operands])) fun v => extractA_wt ..
  | call c => exact callA_wt e1
  | defer c => exact deferA_wt e1
  | panic x => exact with1_wt (e1 x (by simp [Op.operands])) fun v => by unfold panicA; split <;> rfl
  | _ => rfl
end
end Go.S2

namespace Go.S2

/-- Two frames that part in the variables of 'D' alone. -/
structure Near (D : Nat → Prop) (fs fs' : FS) : Prop where
  tm : fs'.tm = fs.tm
  df : fs'.df = fs.df
  loc : ∀ s, ¬ D s → fs'.loc s = fs.loc s

/-- A value of a slot that is no place in a variable of 'D'. -/
def Off (D : Nat → Prop) : TV → Prop
  | .l s _ => ¬ D s
  | .ls s _ => ¬ D s
  | _ => True

/-- What an operation comes to in two such frames. -/
def Same2 (D : Nat → Prop) (fs fs' : FS) : OR → OR → Prop
  | .ok x f h, .ok x' f' h' => x' = x ∧ h' = h ∧ Near D f f' ∧ (∀ s, D s → f.loc s = fs.loc s ∧ f'.loc s = fs'.loc s)
  | .call f a, .call f' a' => f' = f ∧ a' = a
  | .pan v, .pan v' => v' = v
  | .fail, .fail => True
  | _, _ => False

section
variable {C : Ctx} {D : Nat → Prop} {fs fs' : FS} {h : H}

theorem Near.tmp (N : Near D fs fs') (t : Tmp) : fs'.tmp t = fs.tmp t := by simp [FS.tmp, N.tm]
theorem Near.evalO (N : Near D fs fs') (x : Operand) : evalO fs' x = evalO fs x := by
  cases x <;> first | exact N.tmp _ | rfl
theorem Near.evalV (N : Near D fs fs') (x : Operand) : evalV fs' x = evalV fs x := by simp [S2.evalV, N.evalO]
theorem Near.evalVs (N : Near D fs fs') : ∀ (l : List Operand), evalVs fs' l = evalVs fs l
  | [] => rfl
  | x :: l => by simp [S2.evalVs, N.evalV, N.evalVs l]
theorem Near.evalParts (N : Near D fs fs') : ∀ (l : List (Nat × Operand)), evalParts fs' l = evalParts fs l
  | [] => rfl
  | (i, x) :: l => by simp [S2.evalParts, N.evalV, N.evalParts l]
theorem Near.evalOpt (N : Near D fs fs') (x : Option Operand) : evalOpt fs' x = evalOpt fs x := by
  cases x <;> simp [S2.evalOpt, N.evalV]

theorem Same2.ok (N : Near D fs fs') (x : TV) (h : H) : Same2 D fs fs' (.ok x fs h) (.ok x fs' h) := ⟨rfl, rfl, N, fun _ _ => ⟨rfl, rfl⟩⟩
theorem Same2.okV (N : Near D fs fs') (o : Option V) : Same2 D fs fs' (okV fs h o) (okV fs' h o) := by
  cases o <;> first | exact trivial | exact Same2.ok N _ _
theorem Same2.okT (N : Near D fs fs') (o : Option TV) : Same2 D fs fs' (okT fs h o) (okT fs' h o) := by
  cases o <;> first | exact trivial | exact Same2.ok N _ _
theorem Same2.fail : Same2 D fs fs' .fail .fail := trivial

theorem loc_setL' (f : FS) (s t : Nat) (o : LO) : (f.setL s o).loc t = if s = t then some o else f.loc t := FS.loc_setL f s t o

theorem Same2.setL (N : Near D fs fs') {s : Nat} (hs : ¬ D s) (x : TV) (o : LO) (h : H) : Same2 D fs fs' (.ok x (fs.setL s o) h) (.ok x (fs'.setL s o) h) := by
  refine ⟨rfl, rfl, ⟨N.tm, N.df, fun t ht => ?_⟩, fun t ht => ?_⟩
  · rw [loc_setL', loc_setL', N.loc t ht]
  · have : s ≠ t := fun e => hs (e ▸ ht)
    rw [loc_setL', loc_setL', if_neg this, if_neg this]
    exact ⟨rfl, rfl⟩

theorem Same2.with1 (N : Near D fs fs') {x : Operand} {k : V → FS → H → OR} (hk : ∀ v, Same2 D fs fs' (k v fs h) (k v fs' h)) : Same2 D fs fs' (with1 x k fs h) (with1 x k fs' h) := by
  unfold S2.with1
  rw [N.evalV]
  cases S2.evalV fs x with
  | none => exact trivial
  | some v => exact hk v

theorem Same2.with2 (N : Near D fs fs') {x y : Operand} {k : V → V → FS → H → OR} (hk : ∀ u v, Same2 D fs fs' (k u v fs h) (k u v fs' h)) : Same2 D fs fs' (with2 x y k fs h) (with2 x y k fs' h) := by
  unfold S2.with2
  rw [N.evalV, N.evalV]
  cases S2.evalV fs x with
  | none => exact trivial
  | some u => cases S2.evalV fs y with
    | none => exact trivial
    | some v => exact hk u v

theorem Same2.newA (N : Near D fs fs') (hp : Bool) (d : Option Tmp) (hd : ∀ t, d = some t → ¬ D t) (el : TypeId) (cs : List V) : Same2 D fs fs' (newA hp d el cs fs h) (newA hp d el cs fs' h) := by
  unfold S2.newA
  split
  · exact .ok N _ _
  · cases d with
    | none => exact trivial
    | some d =>
      have hd := hd d rfl
      simp only [N.loc d hd]
      split
      · exact .setL N hd _ _ _
      · exact trivial

theorem Same2.loadA (N : Near D fs fs') (t : TypeId) (a : TV) (ha : Off D a) : Same2 D fs fs' (loadA C t a fs h) (loadA C t a fs' h) := by
  unfold S2.loadA
  split
  · rename_i s o
    simp only [N.loc s ha]
    split
    · exact .okV N _
    · exact trivial
  · split
    · exact .okV N _
    · exact trivial
  · exact trivial

theorem Same2.storeA (N : Near D fs fs') (t : TypeId) (a : TV) (x : V) (ha : Off D a) : Same2 D fs fs' (storeA C t a x fs h) (storeA C t a x fs' h) := by
  unfold S2.storeA
  split
  · exact trivial
  · split
    · rename_i s o
      simp only [N.loc s ha]
      split
      · split
        · exact .setL N ha _ _ _
        · exact trivial
      · exact trivial
    · split
      · split
        · split
          · exact .ok N _ _
          · exact trivial
        · exact trivial
      · exact trivial
    · exact trivial

theorem Same2.mvA (N : Near D fs fs') (x : Operand) : Same2 D fs fs' (mvA x fs h) (mvA x fs' h) := by
  unfold S2.mvA
  rw [N.evalO]
  split
  · exact trivial
  · exact .ok N _ _

/-- The frame is handed on as it is. -/
theorem Same2.plain {k : FS → H → OR} (N : Near D fs fs') (hk : (∃ x h', ∀ f, k f h = .ok x f h') ∨ (∀ f, k f h = .fail) ∨ ∃ v, ∀ f, k f h = .pan v) : Same2 D fs fs' (k fs h) (k fs' h) := by
  rcases hk with ⟨x, h', e⟩ | e | ⟨v, e⟩
  · rw [e, e]; exact .ok N _ _
  · rw [e, e]; exact trivial
  · rw [e, e]; rfl

theorem convA_plain (s d : TypeId) (x : V) : (∃ y h', ∀ f, convA C s d x f h = .ok y f h') ∨ (∀ f, convA C s d x f h = .fail) ∨ ∃ v, ∀ f, convA C s d x f h = .pan v := by
  unfold convA
  repeat' split
  all_goals first | exact .inr (.inl fun _ => rfl) | exact .inl ⟨_, _, fun _ => rfl⟩

theorem sliceA_plain (t : TypeId) (x : TV) (lo hi mx : Option V) : (∃ y h', ∀ f, sliceA C t x lo hi mx f h = .ok y f h') ∨ (∀ f, sliceA C t x lo hi mx f h = .fail) ∨ ∃ v, ∀ f, sliceA C t x lo hi mx f h = .pan v := by
  unfold sliceA
  repeat' split
  all_goals first | exact .inr (.inl fun _ => rfl) | exact .inl ⟨_, _, fun _ => rfl⟩

theorem mkSliceA_plain (t : TypeId) (l c : V) : (∃ y h', ∀ f, mkSliceA C t l c f h = .ok y f h') ∨ (∀ f, mkSliceA C t l c f h = .fail) ∨ ∃ v, ∀ f, mkSliceA C t l c f h = .pan v := by
  unfold mkSliceA
  repeat' split
  all_goals first | exact .inr (.inl fun _ => rfl) | exact .inl ⟨_, _, fun _ => rfl⟩

theorem appendGrow_plain (e : TypeId) (ti : TI) (base : Option (Nat × Nat)) (l : Nat) (ex : Bool) (n : Nat) (new : List V) :
    (∃ y h', ∀ f, appendGrow e ti base l ex n new f h = .ok y f h') ∨ (∀ f, appendGrow e ti base l ex n new f h = .fail) ∨ ∃ v, ∀ f, appendGrow e ti base l ex n new f h = .pan v := by
  unfold appendGrow
  repeat' split
  all_goals first | exact .inr (.inl fun _ => rfl) | exact .inl ⟨_, _, fun _ => rfl⟩

theorem appendHere_plain (ti : TI) (i o l c : Nat) (ex : Bool) (n : Nat) (new : List V) :
    (∃ y h', ∀ f, appendHere ti i o l c ex n new f h = .ok y f h') ∨ (∀ f, appendHere ti i o l c ex n new f h = .fail) ∨ ∃ v, ∀ f, appendHere ti i o l c ex n new f h = .pan v := by
  unfold appendHere
  repeat' split
  all_goals first | exact .inr (.inl fun _ => rfl) | exact .inl ⟨_, _, fun _ => rfl⟩

theorem appendA_plain (t : TypeId) (s : V) (n : Nat) (new : List V) :
    (∃ y h', ∀ f, appendA C t s n new f h = .ok y f h') ∨ (∀ f, appendA C t s n new f h = .fail) ∨ ∃ v, ∀ f, appendA C t s n new f h = .pan v := by
  unfold appendA
  repeat' split
  all_goals first | exact .inr (.inl fun _ => rfl) | exact appendHere_plain .. | exact appendGrow_plain ..

theorem append0_plain (t : TypeId) (s : V) :
    (∃ y h', ∀ f, append0 C t s f h = .ok y f h') ∨ (∀ f, append0 C t s f h = .fail) ∨ ∃ v, ∀ f, append0 C t s f h = .pan v := by
  unfold append0
  repeat' split
  all_goals first | exact .inr (.inl fun _ => rfl) | exact .inl ⟨_, _, fun _ => rfl⟩

theorem Same2.append2 (N : Near D fs fs') (ts : List TypeId) (s x : TV) (hx : Off D x) : Same2 D fs fs' (append2 C ts s x fs h) (append2 C ts s x fs' h) := by
  unfold S2.append2
  split
  · split
    · exact trivial
    · split
      · split
        · split
          · exact .plain N (append0_plain ..)
          · split
            · split
              · split
                · exact .plain N (appendA_plain ..)
                · exact trivial
              · exact trivial
            · exact trivial
          · exact trivial
        · rename_i d n
          simp only [N.loc d hx]
          split
          · split
            · split
              · exact .plain N (appendA_plain ..)
              · exact trivial
            · exact trivial
          · exact trivial
        · exact trivial
      · exact trivial
  · exact trivial

theorem builtinA_plain (b : Builtin) (ts : List TypeId) (args : List V) :
    (∃ y h', ∀ f, builtinA C b ts args f h = .ok y f h') ∨ (∀ f, builtinA C b ts args f h = .fail) ∨ ∃ v, ∀ f, builtinA C b ts args f h = .pan v := by
  unfold builtinA
  split
  · split
    · rename_i t _ x _
      cases hh : lenA C t x h with
      | none => exact .inr (.inl fun _ => rfl)
      | some r => exact .inl ⟨_, _, fun _ => rfl⟩
    · exact .inr (.inl fun _ => rfl)
  · split
    · exact .inr (.inr ⟨_, fun _ => rfl⟩)
    · exact .inr (.inl fun _ => rfl)
  · split
    · exact .inl ⟨_, _, fun _ => rfl⟩
    · exact .inr (.inl fun _ => rfl)
  · split
    · exact .inl ⟨_, _, fun _ => rfl⟩
    · exact .inr (.inl fun _ => rfl)
  · split
    · split
      · exact .inl ⟨_, _, fun _ => rfl⟩
      · exact .inr (.inl fun _ => rfl)
    · exact .inr (.inl fun _ => rfl)
  · exact .inr (.inl fun _ => rfl)

theorem Same2.callA (N : Near D fs fs') (c : Call) (ho : ∀ x ∈ c.operands, Off D (S2.evalO fs x)) : Same2 D fs fs' (callA C c fs h) (callA C c fs' h) := by
  unfold S2.callA
  split
  · unfold calleeA
    rw [N.evalV, N.evalVs]
    split
    · exact ⟨rfl, rfl⟩
    · exact trivial
  · split
    · split
      · rename_i s x he
        rw [N.evalO, N.evalO]
        exact .append2 N _ _ _ (ho x (by
          have : x ∈ c.args.toList := by rw [he]; simp
          simp [Call.operands] at this ⊢; exact .inr this))
      · exact trivial
    · rw [N.evalVs]
      split
      · exact .plain N (builtinA_plain ..)
      · exact trivial
  · exact trivial

theorem Same2.iterA (N : Near D fs fs') (d : Option Tmp) (hd : ∀ t, d = some t → ¬ D t) (o : LO) : Same2 D fs fs' (iterA d o fs h) (iterA d o fs' h) := by
  unfold S2.iterA
  cases d with
  | none => exact trivial
  | some d =>
    have hd := hd d rfl
    simp only [N.loc d hd]
    split
    · exact .setL N hd _ _ _
    · exact trivial

theorem Same2.nextA (N : Near D fs fs') (it : TV) (b : Bool) (hi : Off D it) : Same2 D fs fs' (nextA it b fs h) (nextA it b fs' h) := by
  unfold S2.nextA
  split
  · rename_i s
    simp only [N.loc s hi]
    split
    · split
      · exact trivial
      · split
        · exact .setL N hi _ _ _
        · exact .ok N _ _
    · split
      · exact .ok N _ _
      · exact trivial
    · split
      · split
        · unfold mnextA
          split
          · exact trivial
          · split
            · exact .ok N _ _
            · split
              · exact .setL N hi _ _ _
              · exact trivial
            · exact trivial
        · exact trivial
      · exact trivial
    · exact trivial
  · exact trivial

theorem Same2.entryA (N : Near D fs fs') (it : TV) (hi : Off D it) : Same2 D fs fs' (entryA it fs h) (entryA it fs' h) := by
  unfold S2.entryA
  split
  · rename_i s
    simp only [N.loc s hi]
    repeat' split
    all_goals first | exact trivial | exact .ok N _ _
  · exact trivial

/-- An operation looks at no variable of the frame's own but those in whose places its operands are. -/
theorem opA_near (N : Near D fs fs') (esc : List Tmp) (o : Oper) (ho : ∀ x ∈ o.op.operands, Off D (evalO fs x)) (hd : ∀ t, o.dst = some t → ¬ D t) : Same2 D fs fs' (opA C esc o fs h) (opA C esc o fs' h) := by
  obtain ⟨dst, op, ty, pos, af, gd⟩ := o
  have e1 : ∀ x, x ∈ op.operands → Off D (evalO fs x) := ho
  have hd : ∀ t, dst = some t → ¬ D t := hd
  cases op with
  | move x => exact .mvA N x
  | assign x => exact .mvA N x
  | pick c x y =>
    simp only [opA, pickA]
    rw [N.evalO]
    split
    · exact .mvA N x
    · exact .mvA N y
    · exact trivial
  | alloc el =>
    simp only [opA, allocA]
    split
    · exact .newA N _ _ hd _ _
    · exact trivial
  | box el x =>
    simp only [opA, boxA]
    rw [N.evalV]
    split
    · split
      · exact .newA N _ _ hd _ _
      · exact trivial
    · exact trivial
  | build t ps =>
    simp only [opA, buildO]
    rw [N.evalParts]
    split
    · exact .okV N _
    · exact trivial
  | buildSlice t len ps =>
    simp only [opA, buildSliceA]
    rw [N.evalParts]
    split
    · split
      · split
        · exact trivial
        · split
          · split
            · exact .ok N _ _
            · cases dst with
              | none => exact trivial
              | some d =>
                have hd := hd d rfl
                simp only [N.loc d hd]
                split
                · exact .setL N hd _ _ _
                · exact trivial
          · exact trivial
      · exact trivial
    · exact trivial
  | load t x => simp only [opA]; rw [N.evalO]; exact .loadA N _ _ (e1 x (by simp [Op.operands]))
  | store t x y =>
    simp only [opA, storeO]
    rw [N.evalO, N.evalV]
    split
    · exact .storeA N _ _ _ (e1 x (by simp [Op.operands]))
    · exact trivial
  | nilCheck x =>
    simp only [opA, nilCheckA]
    rw [N.evalO]
    split <;> first | exact trivial | exact .ok N _ _
  | binOp op t x y c =>
    simp only [opA, binO]
    rw [N.evalV, N.evalV]
    split
    · exact .okV N _
    · exact trivial
  | unOp op t x => exact .with1 (k := fun a fs h => okV fs h (unA op a)) N fun v => .okV N _
  | convert s d x => exact .with1 N fun v => .plain (k := convA C s d v) N (convA_plain ..)
  | makeInterface t x =>
    refine .with1 N fun v => ?_
    unfold mkIfaceA
    split <;> first | exact trivial | exact .ok N _ _
  | makeFunc f p q =>
    cases f with
    | func f =>
      simp only [opA, mkFuncA]
      rw [N.evalVs, N.evalVs]
      split <;> first | exact trivial | exact .ok N _ _
    | _ => exact trivial
  | makeMap t r => cases r <;> first | exact trivial | exact .ok N _ _
  | makeSlice t l c => exact .with2 N fun u v => .plain (k := mkSliceA C t u v) N (mkSliceA_plain ..)
  | slice t x lo hi mx =>
    simp only [opA, sliceO]
    rw [N.evalO, N.evalOpt, N.evalOpt, N.evalOpt]
    split
    · rename_i l' h' m' _ _ _
      exact .plain (k := sliceA C t (evalO fs x) l' h' m') N (sliceA_plain ..)
    · exact trivial
  | fieldAddr t x f => simp only [opA]; rw [N.evalO]; exact .okT N _
  | field t x f => exact .with1 (k := fun a fs h => okV fs h (fieldA C t a f)) N fun v => .okV N _
  | indexAddr t x i =>
    simp only [opA, indexAddrO]
    rw [N.evalO, N.evalV]
    split
    · exact .okT N _
    · exact trivial
  | index t x i => exact .with2 (k := fun a b fs h => okV fs h (indexA C t a b)) N fun u v => .okV N _
  | lookup t x i ok => exact .with2 (k := fun a b fs h => okV fs h (lookupA C t a b ok h)) N fun u v => .okV N _
  | mapUpdate t x k y =>
    simp only [opA, updateO]
    rw [N.evalV, N.evalV, N.evalV]
    split
    · split
      · exact .ok N _ _
      · exact trivial
    · exact trivial
  | insert t x k y =>
    simp only [opA, updateO]
    rw [N.evalV, N.evalV, N.evalV]
    split
    · split
      · exact .ok N _ _
      · exact trivial
    · exact trivial
  | range t x =>
    refine .with1 (k := fun a fs h => rangeA C t dst a fs h) N fun v => ?_
    simp only [rangeA]
    split
    · exact .iterA N _ hd _
    · exact .iterA N _ hd _
    · split
      · exact .iterA N _ hd _
      · exact trivial
    · exact trivial
  | next it s => simp only [opA]; rw [N.evalO]; exact .nextA N _ _ (e1 it (by simp [Op.operands]))
  | entry it => simp only [opA]; rw [N.evalO]; exact .entryA N _ (e1 it (by simp [Op.operands]))
  | typeAssert x xt t ok => exact .with1 (k := fun a fs h => okV fs h (assertA C a t ok)) N fun v => .okV N _
  | extract t i =>
    refine .with1 N fun v => ?_
    unfold extractA
    split
    · exact .okV N _
    · exact trivial
  | call c => exact .callA N c e1
  | defer c =>
    simp only [opA, deferA]
    split
    · unfold calleeA
      rw [N.evalV, N.evalVs]
      split
      · split
        · refine ⟨rfl, rfl, ⟨N.tm, by simp [N.df], N.loc⟩, fun _ _ => ⟨rfl, rfl⟩⟩
        · exact trivial
      · exact trivial
    · exact trivial
  | panic x =>
    refine .with1 N fun v => ?_
    unfold panicA
    split
    · rfl
    · exact trivial
  | _ => exact trivial
end
end Go.S2

namespace Go.S2
section
variable {C : Ctx} {P : Program} {run : Run} {esc : List Tmp} {all : List Oper}

theorem tmpT_put (tm : Tr TV) (d : Option Tmp) (x : TV) (t : Tmp) : tmpT (putT tm d x) t = if d = some t then x else tmpT tm t := by
  cases d with
  | none => simp [putT]
  | some d =>
    simp only [putT, tmpT, Tr.get_put]
    by_cases h : d = t <;> simp [h]

theorem tmp_fs (s : Sn) (tm : Tr TV) (t : Tmp) : (s.fs tm).tmp t = tmpT tm t := rfl

/-- Two lists of slots that an operation does not tell apart. -/
def Alike (all : List Oper) (o : Oper) (tm tm' : Tr TV) : Prop := ∀ t, Looks all o t → tmpT tm' t = tmpT tm t

theorem wantA_congr {o : Oper} {tm tm' : Tr TV} (h : Alike all o tm tm') : wantA all o tm' = wantA all o tm := by
  unfold wantA
  split
  · rfl
  · rename_i j want hg
    split
    · rename_i d hd
      rw [h d (.inr ⟨j, want, hg, hd⟩)]
    · rfl

theorem evalO_congr {o : Oper} {tm tm' : Tr TV} (h : Alike all o tm tm') (s : Sn) : ∀ x ∈ o.op.operands, evalO (s.fs tm') x = evalO (s.fs tm) x := by
  intro x hx
  cases x with
  | tmp t => exact h t (.inl (by simpa using hx))
  | _ => rfl

theorem opA_congr {o : Oper} {tm tm' : Tr TV} (h : Alike all o tm tm') (s : Sn) : opA C esc o (s.fs tm') s.h = (opA C esc o (s.fs tm) s.h).wt tm' :=
  opA_wt (tm := tm') (fs := s.fs tm) esc o (evalO_congr h s)

theorem effA_congr {o : Oper} {tm tm' : Tr TV} (h : Alike all o tm tm') (s : Sn) : effA C run esc o tm' s = effA C run esc o tm s := by
  unfold effA
  rw [opA_congr h s]
  cases opA C esc o (s.fs tm) s.h <;> rfl

theorem oneA_congr {o : Oper} {tm tm' : Tr TV} (h : Alike all o tm tm') (s : Sn) : oneA C run esc all o tm' s = oneA C run esc all o tm s := by
  unfold oneA
  rw [wantA_congr h, effA_congr h]

/-- An operation leaves the slots to its own writing. -/
theorem opA_tm {o : Oper} {fs fs' : FS} {h h' : H} {x : TV} (hr : opA C esc o fs h = .ok x fs' h') : fs'.tm = fs.tm := by
  have := opA_wt (C := C) (tm := fs.tm) (fs := fs) (h := h) esc o (fun _ _ => rfl)
  have e : fs.wt fs.tm = fs := rfl
  rw [e, hr] at this
  simp only [OR.wt] at this
  injection this with _ h2
  rw [h2]; rfl

/-! ### Quiet operations -/
def Keeps (r : OR) (fs : FS) (h : H) : Prop := ∀ x fs' h', r = .ok x fs' h' → fs' = fs ∧ h' = h

theorem Keeps.fail {fs : FS} {h : H} : Keeps .fail fs h := fun _ _ _ e => by cases e
theorem Keeps.pan {v : V} {fs : FS} {h : H} : Keeps (.pan v) fs h := fun _ _ _ e => by cases e
theorem Keeps.ok {x : TV} {fs : FS} {h : H} : Keeps (.ok x fs h) fs h := fun _ _ _ e => by cases e; exact ⟨rfl, rfl⟩
theorem Keeps.okV {o : Option V} {fs : FS} {h : H} : Keeps (okV fs h o) fs h := by cases o <;> first | exact .fail | exact .ok
theorem Keeps.okT {o : Option TV} {fs : FS} {h : H} : Keeps (okT fs h o) fs h := by cases o <;> first | exact .fail | exact .ok
theorem Keeps.mvA {x : Operand} {fs : FS} {h : H} : Keeps (mvA x fs h) fs h := by unfold S2.mvA; split <;> first | exact .fail | exact .ok
theorem Keeps.with1 {x : Operand} {k : V → FS → H → OR} {fs : FS} {h : H} (hk : ∀ a, Keeps (k a fs h) fs h) : Keeps (with1 x k fs h) fs h := by
  unfold S2.with1; split
  · exact hk _
  · exact .fail
theorem Keeps.with2 {x y : Operand} {k : V → V → FS → H → OR} {fs : FS} {h : H} (hk : ∀ a b, Keeps (k a b fs h) fs h) : Keeps (with2 x y k fs h) fs h := by
  unfold S2.with2; split
  · exact hk _ _
  · exact .fail
theorem Keeps.loadA {t : TypeId} {a : TV} {fs : FS} {h : H} : Keeps (loadA C t a fs h) fs h := by
  unfold S2.loadA
  repeat' split
  all_goals first | exact .fail | exact .okV
theorem Keeps.convA {s d : TypeId} {x : V} {fs : FS} {h : H} (hd : ∀ e, tkind C d ≠ .slice e) : Keeps (convA C s d x fs h) fs h := by
  unfold S2.convA
  split
  · exact .fail
  · split
    any_goals first | exact .fail | exact .ok
    · exact absurd (by assumption) (hd _)
    · split <;> first | exact .fail | exact .ok
    · split
      · split <;> first | exact .fail | exact .ok
      · exact .fail
theorem Keeps.sliceA {t : TypeId} {x : TV} {lo hi mx : Option V} {fs : FS} {h : H} : Keeps (sliceA C t x lo hi mx fs h) fs h := by
  unfold S2.sliceA
  repeat' split
  all_goals first | exact .fail | exact .ok
theorem Keeps.builtin {ts : List TypeId} {args : List V} {fs : FS} {h : H} : Keeps (builtinA C .len ts args fs h) fs h := by
  simp only [S2.builtinA]
  split <;> first | exact .fail | exact .okV

theorem quiet_keeps {o : Oper} (hq : quietA C o.op = true) (fs : FS) (h : H) : Keeps (opA C esc o fs h) fs h := by
  obtain ⟨dst, op, ty, pos, af, gd⟩ := o
  simp only at hq
  cases op with
  | move x => exact .mvA
  | assign x => exact .mvA
  | pick c x y =>
    simp only [opA, pickA]
    split <;> first | exact .mvA | exact .fail
  | build t ps =>
    simp only [opA, buildO]
    split <;> first | exact .okV | exact .fail
  | load t x => exact .loadA
  | nilCheck x => simp only [opA, nilCheckA]; split <;> first | exact .ok | exact .fail
  | binOp op t x y c =>
    simp only [opA, binO]
    split <;> first | exact .okV | exact .fail
  | unOp op t x => exact .with1 (k := fun a fs h => okV fs h (unA op a)) fun a => .okV
  | makeInterface t x =>
    refine .with1 fun a => ?_
    unfold mkIfaceA; split <;> first | exact .ok | exact .fail
  | makeFunc f p q =>
    cases f with
    | func f => simp only [opA, mkFuncA]; split <;> first | exact .ok | exact .fail
    | _ => exact .fail
  | slice t x lo hi mx =>
    simp only [opA, sliceO]
    split <;> first | exact .sliceA | exact .fail
  | fieldAddr t x f => exact .okT
  | field t x f => exact .with1 (k := fun a fs h => okV fs h (fieldA C t a f)) fun a => .okV
  | indexAddr t x i => simp only [opA, indexAddrO]; split <;> first | exact .okT | exact .fail
  | index t x i => exact .with2 (k := fun a b fs h => okV fs h (indexA C t a b)) fun a b => .okV
  | lookup t x i ok => exact .with2 (k := fun a b fs h => okV fs h (lookupA C t a b ok h)) fun a b => .okV
  | typeAssert x xt t ok => exact .with1 (k := fun a fs h => okV fs h (assertA C a t ok)) fun a => .okV
  | extract t i =>
    refine .with1 fun a => ?_
    unfold extractA; split <;> first | exact .okV | exact .fail
  | convert s d x =>
    refine .with1 fun a => .convA fun e he => ?_
    simp only [quietA, he] at hq
    cases hq
  | call c =>
    simp only [quietA] at hq
    split at hq
    · rename_i hc
      simp only [opA, callA, hc]
      split <;> first | exact .builtin | exact .fail
    · cases hq
  | _ => simp [quietA] at hq

theorem quietO_one {o : Oper} {tm : Tr TV} {s : Sn} {x : TV} (hq : calmA C esc o = true) (hna : ownAlloc esc o = none) (h : quietO C esc all o tm s = some x) : oneA C run esc all o tm s = .ok x s := by
  unfold calmA at hq
  rw [hna] at hq
  unfold quietO at h
  rw [hna] at h
  simp only at h hq
  unfold oneA
  split at h
  · cases h
  · rename_i hw
    simp only [effA]
    split at h
    · rename_i x' fs' h' hr
      cases h
      obtain ⟨e1, e2⟩ := quiet_keeps (esc := esc) hq _ _ _ _ _ hr
      rw [hr]
      subst e1; subst e2
      rfl
    · cases h
  · cases h
    rfl

theorem ownAlloc_s {o : Oper} {d : Tmp} {e : TypeId} (h : ownAlloc esc o = some (d, e)) : o.guard = none ∧ o.op = .alloc e ∧ o.dst = some d ∧ memT esc (some d) = false := by
  unfold ownAlloc at h
  split at h
  · cases h
  · rename_i hg
    split at h
    · rename_i e' ho
      split at h
      · rename_i d' hd
        split at h
        · cases h
        · rename_i hm
          cases h
          exact ⟨hg, ho, hd, by simpa using hm⟩
      · cases h
    · cases h

/-- The variables that a region lays for itself. -/
def Lays (esc : List Tmp) (l : List Oper) (s : Nat) : Prop := ∃ o ∈ l, ∃ e, ownAlloc esc o = some (s, e)

theorem preA_s : ∀ (l : List Oper) (lc lc' : Tr LO), preA C esc l lc = some lc' →
    (∀ o ∈ l, ∀ d e, ownAlloc esc o = some (d, e) → ∃ z, tzero C e = some z ∧ lc'.get d = some (.cells z) ∧ lc.get d = none) ∧ (∀ s, ¬ Lays esc l s → lc'.get s = lc.get s)
  | [], lc, lc', h => by
    simp only [preA] at h
    cases h
    exact ⟨fun o ho => by simp at ho, fun _ _ => rfl⟩
  | o :: l, lc, lc', h => by
    simp only [preA] at h
    split at h
    · rename_i hna
      obtain ⟨h1, h2⟩ := preA_s l lc lc' h
      refine ⟨fun o' ho' d e hd => ?_, fun s hs => h2 s fun ⟨o', ho', e, he⟩ => hs ⟨o', by simp [ho'], e, he⟩⟩
      rcases List.mem_cons.1 ho' with rfl | ho'
      · rw [hna] at hd; cases hd
      · exact h1 o' ho' d e hd
    · rename_i d e hna
      split at h
      · rename_i z hn hz
        obtain ⟨h1, h2⟩ := preA_s l _ lc' h
        have hnl : ¬ Lays esc l d := by
          rintro ⟨o', ho', e', he'⟩
          obtain ⟨z', _, _, h5⟩ := h1 o' ho' d e' he'
          rw [Tr.get_put, if_pos rfl] at h5
          cases h5
        refine ⟨fun o' ho' d' e' hd' => ?_, fun s hs => ?_⟩
        · rcases List.mem_cons.1 ho' with rfl | ho'
          · rw [hna] at hd'
            cases hd'
            exact ⟨z, hz, by rw [h2 d hnl, Tr.get_put, if_pos rfl], hn⟩
          · obtain ⟨z', h3, h4, h5⟩ := h1 o' ho' d' e' hd'
            refine ⟨z', h3, h4, ?_⟩
            rw [Tr.get_put] at h5
            split at h5
            · cases h5
            · exact h5
        · rw [h2 s fun ⟨o', ho', e', he'⟩ => hs ⟨o', by simp [ho'], e', he'⟩, Tr.get_put, if_neg]
          intro e'
          exact hs ⟨o, by simp, e, by rw [hna, e']⟩
      · cases h

theorem unlayA_s (s : Nat) : ∀ (l : List Oper) (lc : Tr LO), (Lays esc l s → (unlayA esc l lc).get s = none) ∧ (¬ Lays esc l s → (unlayA esc l lc).get s = lc.get s)
  | [], lc => ⟨fun ⟨o, ho, _⟩ => by simp at ho, fun _ => rfl⟩
  | o :: l, lc => by
    simp only [unlayA]
    split
    · rename_i hna
      obtain ⟨h1, h2⟩ := unlayA_s s l lc
      constructor
      · rintro ⟨o', ho', e, he⟩
        rcases List.mem_cons.1 ho' with rfl | ho'
        · rw [hna] at he; cases he
        · exact h1 ⟨o', ho', e, he⟩
      · intro hs
        exact h2 fun ⟨o', ho', e, he⟩ => hs ⟨o', by simp [ho'], e, he⟩
    · rename_i d e hna
      obtain ⟨h1, h2⟩ := unlayA_s s l (Tr.put (d + 1) lc d none)
      constructor
      · rintro ⟨o', ho', e', he'⟩
        by_cases hl : Lays esc l s
        · exact h1 hl
        · rw [h2 hl, Tr.get_put]
          rcases List.mem_cons.1 ho' with rfl | ho'
          · rw [hna] at he'; cases he'; rw [if_pos rfl]
          · exact absurd ⟨o', ho', e', he'⟩ hl
      · intro hs
        rw [h2 fun ⟨o', ho', e', he'⟩ => hs ⟨o', by simp [ho'], e', he'⟩, Tr.get_put, if_neg]
        intro e'
        exact hs ⟨o, by simp, e, by rw [hna, e']⟩

/-- The variables in which an operation's operands are places lie ahead of it. -/
def PlOk (all : List Oper) (p : Nat) (tm : Tr TV) (o : Oper) : Prop :=
  ∀ t, Operand.tmp t ∈ o.op.operands.toList → ∀ s, (∃ x, tmpT tm t = .l s x ∨ tmpT tm t = .ls s x) → ∀ (q : Nat) (oq : Oper), all[q]? = some oq → oq.dst = some s → hasB p q = true

theorem placesOk_s {p : Nat} {tm : Tr TV} : ∀ (l : List Operand), placesOk all p tm l = true → ∀ t, Operand.tmp t ∈ l → ∀ s, (∃ x, tmpT tm t = .l s x ∨ tmpT tm t = .ls s x) →
    ∀ (q : Nat) (oq : Oper), all[q]? = some oq → oq.dst = some s → hasB p q = true
  | [], _, t, ht, _, _, _, _, _, _ => by simp at ht
  | x :: l, h, t, ht, s, hs, q, oq, hq, hd => by
    have hrest : placesOk all p tm l = true ∧ (x = .tmp t → prodOk p s all 0 = true) := by
      cases x with
      | tmp u =>
        simp only [placesOk] at h
        split at h
        · rename_i s' o' hv
          split at h
          · rename_i hp
            refine ⟨h, fun e => ?_⟩
            cases e
            obtain ⟨x, hx | hx⟩ := hs
            · rw [hv] at hx; cases hx; exact hp
            · rw [hv] at hx; cases hx
          · cases h
        · rename_i s' o' hv
          split at h
          · rename_i hp
            refine ⟨h, fun e => ?_⟩
            cases e
            obtain ⟨x, hx | hx⟩ := hs
            · rw [hv] at hx; cases hx
            · rw [hv] at hx; cases hx; exact hp
          · cases h
        · rename_i h1 h2
          refine ⟨h, fun e => ?_⟩
          cases e
          obtain ⟨x, hx | hx⟩ := hs
          · exact absurd hx (h1 _ _)
          · exact absurd hx (h2 _ _)
      | _ => simp only [placesOk] at h; exact ⟨h, fun e => by cases e⟩
    rcases List.mem_cons.1 ht with e | ht
    · have := prodOk_s p s all 0 (hrest.2 e.symm) q oq hq hd
      simpa using this
    · exact placesOk_s l hrest.1 t ht s hs q oq hq hd

theorem PlOk.congr {p : Nat} {tm tm' : Tr TV} {o : Oper} (h : PlOk all p tm o) (ha : Alike all o tm tm') : PlOk all p tm' o := by
  intro t ht s hs q oq hq hd
  rw [ha t (.inl ht)] at hs
  exact h t ht s hs q oq hq hd

/-- One operation in a frame that has fewer variables. -/
theorem oneA_near {D : Nat → Prop} {o : Oper} {tm : Tr TV} {s s' : Sn} (N : Near D (s.fs tm) (s'.fs tm)) (hh : s'.h = s.h) (ho : ∀ x ∈ o.op.operands, Off D (evalO (s.fs tm) x)) (hd : ∀ t, o.dst = some t → ¬ D t) :
    (∀ x s1, oneA C run esc all o tm s = .ok x s1 → ∃ s1', oneA C run esc all o tm s' = .ok x s1' ∧ s1'.h = s1.h ∧ (∀ tm, Near D (s1.fs tm) (s1'.fs tm)) ∧ ∀ t, D t → s1.lc.get t = s.lc.get t ∧ s1'.lc.get t = s'.lc.get t) ∧
    (∀ v s1, oneA C run esc all o tm s = .pan v s1 → ∃ s1', oneA C run esc all o tm s' = .pan v s1' ∧ s1'.h = s1.h ∧ (∀ tm, Near D (s1.fs tm) (s1'.fs tm)) ∧ ∀ t, D t → s1.lc.get t = s.lc.get t ∧ s1'.lc.get t = s'.lc.get t) := by
  have Nany : ∀ tm, Near D (s.fs tm) (s'.fs tm) := fun tm => ⟨rfl, N.df, N.loc⟩
  have hop := opA_near (C := C) (h := s.h) N esc o ho hd
  unfold oneA
  cases hw : wantA all o tm with
  | none => exact ⟨fun _ _ e => (nomatch e), fun _ _ e => (nomatch e)⟩
  | some b =>
    cases b with
    | false =>
      refine ⟨fun x s1 e => ?_, fun _ _ e => (nomatch e)⟩
      cases e
      exact ⟨s', rfl, hh, Nany, fun _ _ => ⟨rfl, rfl⟩⟩
    | true =>
      simp only [effA]
      rw [hh]
      cases h1 : opA C esc o (s.fs tm) s.h with
      | fail =>
        exact ⟨fun _ _ e => (nomatch e), fun _ _ e => (nomatch e)⟩
      | ok x f hr =>
        rw [h1] at hop
        cases h2 : opA C esc o (s'.fs tm) s.h with
        | ok x' f' hr' =>
          rw [h2] at hop
          obtain ⟨rfl, rfl, N1, hD⟩ := hop
          refine ⟨fun y s1 e => ?_, fun _ _ e => (nomatch e)⟩
          cases e
          exact ⟨_, rfl, rfl, fun tm => ⟨rfl, N1.df, N1.loc⟩, fun t ht => hD t ht⟩
        | _ => rw [h2] at hop; exact hop.elim
      | call f args =>
        rw [h1] at hop
        cases h2 : opA C esc o (s'.fs tm) s.h with
        | call f' args' =>
          rw [h2] at hop
          obtain ⟨rfl, rfl⟩ := hop
          simp only
          cases run f' args' s.h with
          | fail => exact ⟨fun _ _ e => (nomatch e), fun _ _ e => (nomatch e)⟩
          | ok v h3 =>
            refine ⟨fun y s1 e => ?_, fun _ _ e => (nomatch e)⟩
            cases e
            exact ⟨_, rfl, rfl, Nany, fun _ _ => ⟨rfl, rfl⟩⟩
          | pan v h3 =>
            refine ⟨fun _ _ e => (nomatch e), fun y s1 e => ?_⟩
            cases e
            exact ⟨_, rfl, rfl, Nany, fun _ _ => ⟨rfl, rfl⟩⟩
        | _ => rw [h2] at hop; exact hop.elim
      | pan v =>
        rw [h1] at hop
        cases h2 : opA C esc o (s'.fs tm) s.h with
        | pan v' =>
          rw [h2] at hop
          have hop : v' = v := hop
          subst hop
          refine ⟨fun _ _ e => (nomatch e), fun y s1 e => ?_⟩
          cases e
          exact ⟨_, rfl, hh, Nany, fun _ _ => ⟨rfl, rfl⟩⟩
        | _ => rw [h2] at hop; exact hop.elim

/-! ### What the text's order has shown -/
/-- The slots ahead of operation 'i'. -/
def TmAt (all : List Oper) (tm0 tmF : Tr TV) (i : Nat) (tm : Tr TV) : Prop :=
  (∀ t, (∀ (j : Nat) (oj : Oper), all[j]? = some oj → oj.dst = some t → i ≤ j) → tmpT tm t = tmpT tm0 t) ∧
  (∀ (j : Nat) (oj : Oper) (t : Tmp), j < i → all[j]? = some oj → oj.dst = some t → tmpT tm t = tmpT tmF t)

/-- An operation that the text has come to. -/
structure ShE (all : List Oper) (tm0 tmF : Tr TV) (k : Nat) (e : PE) : Prop where
  at_ : all[e.i]? = some e.o
  mask : e.p = MS all e.i
  lt : e.i < k
  tms : TmAt all tm0 tmF e.i e.tm
  pl : PlOk all (MS all e.i) e.tm e.o
  out : ∀ d, e.o.dst = some d → tmpT tmF d = e.x

/-- The effects, the last one first: each one, at the snapshot ahead of it, comes to the snapshot behind it. -/
def EffOk (C : Ctx) (run : Run) (esc : List Tmp) (all : List Oper) (s0 : Sn) : Sn → List (PE × Sn) → Prop
  | s, [] => s = s0
  | s, e :: r => e.2 = s ∧ ∃ s', oneA C run esc all e.1.o e.1.tm s' = .ok e.1.x s ∧ EffOk C run esc all s0 s' r

def PanOk (C : Ctx) (run : Run) (esc : List Tmp) (all : List Oper) (tm0 tmF : Tr TV) (s : Sn) (es : List (PE × Sn)) : Option (Nat × V × Sn) → Prop
  | none => True
  | some (i, v, s') => ∃ o tm, all[i]? = some o ∧ calmA C esc o = false ∧ TmAt all tm0 tmF i tm ∧ PlOk all (MS all i) tm o ∧ (∀ e ∈ es, hasB (MS all i) e.1.i = true) ∧ oneA C run esc all o tm s = .pan v s'

structure Shown (C : Ctx) (run : Run) (esc : List Tmp) (all : List Oper) (tm0 : Tr TV) (s0 : Sn) (k : Nat) (tm : Tr TV) (s : Sn) (qs : List PE) (es : List (PE × Sn)) (pn : Option (Nat × V × Sn)) : Prop where
  eff : EffOk C run esc all s0 s es
  pan : PanOk C run esc all tm0 tm s es pn
  belowP : ∀ y : Nat × V × Sn, pn = some y → y.1 < k
  q : ∀ e ∈ qs, ShE all tm0 tm k e ∧ calmA C esc e.o = true
  e : ∀ e ∈ es, ShE all tm0 tm k e.1 ∧ calmA C esc e.1.o = false
  desc : es.Pairwise fun a b => b.1.i < a.1.i
  every : ∀ (i : Nat) (o : Oper), i < k → all[i]? = some o → behindPan (MS all i) pn = false → (calmA C esc o = true → ∃ e ∈ qs, e.i = i) ∧ (calmA C esc o = false → (∃ e ∈ es, e.1.i = i) ∨ ∃ v s', pn = some (i, v, s'))
  now : ∀ t, (∀ (j : Nat) (oj : Oper), all[j]? = some oj → oj.dst = some t → k ≤ j) → tmpT tm t = tmpT tm0 t

theorem TmAt.put (F : Form all) {tm0 tm tmi : Tr TV} {i k : Nat} {ok : Oper} (hk : all[k]? = some ok) (hik : i ≤ k) (x : TV) (h : TmAt all tm0 tm i tmi) : TmAt all tm0 (putT tm ok.dst x) i tmi := by
  refine ⟨h.1, fun j oj t hj hoj hd => ?_⟩
  rw [h.2 j oj t hj hoj hd, tmpT_put, if_neg]
  intro hd'
  have := F.nodup j k oj ok t hoj hk hd hd'
  omega

theorem ShE.put (F : Form all) {tm0 tm : Tr TV} {k : Nat} {ok : Oper} (hk : all[k]? = some ok) (x : TV) {e : PE} (h : ShE all tm0 tm k e) : ShE all tm0 (putT tm ok.dst x) (k + 1) e := by
  refine ⟨h.at_, h.mask, Nat.lt_succ_of_lt h.lt, h.tms.put F hk (Nat.le_of_lt h.lt) x, h.pl, fun d hd => ?_⟩
  rw [tmpT_put, if_neg]
  · exact h.out d hd
  · intro hd'
    have h1 := F.nodup e.i k e.o ok d h.at_ hk hd hd'
    have h2 := h.lt
    omega

theorem ShE.up {tm0 tm : Tr TV} {k : Nat} {e : PE} (h : ShE all tm0 tm k e) : ShE all tm0 tm (k + 1) e :=
  ⟨h.at_, h.mask, Nat.lt_succ_of_lt h.lt, h.tms, h.pl, h.out⟩

theorem PanOk.put (F : Form all) {tm0 tm : Tr TV} {s : Sn} {es : List (PE × Sn)} {k : Nat} {ok : Oper} (hk : all[k]? = some ok) (x : TV) {pan : Option (Nat × V × Sn)} (hlt : ∀ y : Nat × V × Sn, pan = some y → y.1 < k)
    (h : PanOk C run esc all tm0 tm s es pan) : PanOk C run esc all tm0 (putT tm ok.dst x) s es pan := by
  cases pan with
  | none => trivial
  | some y =>
    obtain ⟨j, v, s'⟩ := y
    obtain ⟨o, tmj, h1, h2, h3, h4, h5, h6⟩ := h
    exact ⟨o, tmj, h1, h2, h3.put F hk (Nat.le_of_lt (hlt _ rfl)) x, h4, h5, h6⟩

theorem allHas_s {p : Nat} : ∀ {es : List (PE × Sn)}, allHas p es = true → ∀ e ∈ es, hasB p e.1.i = true
  | [], _, e, he => by simp at he
  | a :: es, h, e, he => by
    simp only [allHas] at h
    split at h
    · rename_i h1
      rcases List.mem_cons.1 he with rfl | he
      · exact h1
      · exact allHas_s h e he
    · cases h

theorem passA_s (F : Form all) {tm0 : Tr TV} {s0 : Sn} : ∀ (os : List Oper) (ps : List Nat) (i : Nat) (tm : Tr TV) (s : Sn) (qs : List PE) (es : List (PE × Sn)) (pan : Option (Nat × V × Sn)) (tm' : Tr TV) (s' : Sn)
    (qs' : List PE) (es' : List (PE × Sn)) (pan' : Option (Nat × V × Sn)), all.drop i = os → (masksA all []).drop i = ps → Shown C run esc all tm0 s0 i tm s qs es pan →
    passA C run esc all os ps i tm s qs es pan = .go tm' s' qs' es' pan' → Shown C run esc all tm0 s0 all.length tm' s' qs' es' pan' := by
  intro os
  induction os with
  | nil =>
    intro ps i tm s qs es pan tm' s' qs' es' pan' hd _ Sh he
    simp only [passA] at he
    cases he
    have hl : all.length ≤ i := by
      have := congrArg List.length hd
      simp at this; omega
    have hb : ∀ j o, all[j]? = some o → j < all.length := fun j o ho => (List.getElem?_eq_some_iff.1 ho).1
    have hE : ∀ e, ShE all tm0 tm i e → ShE all tm0 tm all.length e := fun e h => ⟨h.at_, h.mask, hb _ _ h.at_, h.tms, h.pl, h.out⟩
    refine ⟨Sh.eff, Sh.pan, ?_, fun e he => ⟨hE e (Sh.q e he).1, (Sh.q e he).2⟩, fun e he => ⟨hE e.1 (Sh.e e he).1, (Sh.e e he).2⟩, Sh.desc, fun j o hj => Sh.every j o (by omega), fun t ht => Sh.now t fun j oj hoj hdj => ?_⟩
    · intro y hy
      subst hy
      obtain ⟨j, v, s'⟩ := y
      obtain ⟨o, _, h1, _⟩ := Sh.pan
      exact hb j o h1
    · have h1 := ht j oj hoj hdj
      have h2 := hb j oj hoj
      omega
  | cons o os ih =>
    intro ps i tm s qs es pan tm' s' qs' es' pan' hd hp Sh he
    have hi : all[i]? = some o := by
      have : (all.drop i)[0]? = some o := by rw [hd]; rfl
      rw [List.getElem?_drop] at this
      simpa using this
    have hd' : all.drop (i + 1) = os := by rw [← List.drop_drop, hd]; rfl
    have hil : i < all.length := (List.getElem?_eq_some_iff.1 hi).1
    cases ps with
    | nil =>
      have := congrArg List.length hp
      simp [masksA_length] at this
      omega
    | cons p ps =>
      have hpi : MS all i = p := by
        have : ((masksA all []).drop i)[0]? = some p := by rw [hp]; rfl
        rw [List.getElem?_drop] at this
        simp only [Nat.add_zero] at this
        simp [MS, this]
      have hp' : (masksA all []).drop (i + 1) = ps := by rw [← List.drop_drop, hp]; rfl
      have hlt2 : ∀ y : Nat × V × Sn, pan = some y → y.1 < i + 1 := fun y hy => Nat.lt_succ_of_lt (Sh.belowP y hy)
      -- the slots ahead of 'i'
      have hTm : TmAt all tm0 tm i tm := ⟨Sh.now, fun _ _ _ _ _ _ => rfl⟩
      have hnow' : ∀ x t, (∀ (j : Nat) (oj : Oper), all[j]? = some oj → oj.dst = some t → i + 1 ≤ j) → tmpT (putT tm o.dst x) t = tmpT tm0 t := by
        intro x t ht
        rw [tmpT_put, if_neg (fun hd => by have := ht i o hi hd; omega)]
        exact Sh.now t fun j oj h1 h2 => by have := ht j oj h1 h2; omega
      have hnow : ∀ t, (∀ (j : Nat) (oj : Oper), all[j]? = some oj → oj.dst = some t → i + 1 ≤ j) → tmpT tm t = tmpT tm0 t := fun t ht => Sh.now t fun j oj h1 h2 => by have := ht j oj h1 h2; omega
      simp only [passA] at he
      split at he
      · rename_i hb
        refine ih ps (i + 1) tm s qs es pan tm' s' qs' es' pan' hd' hp' ⟨Sh.eff, Sh.pan, hlt2, fun e he => ⟨(Sh.q e he).1.up, (Sh.q e he).2⟩, fun e he => ⟨(Sh.e e he).1.up, (Sh.e e he).2⟩, Sh.desc, fun j oj hj hoj hn => ?_, hnow⟩ he
        rcases Nat.lt_succ_iff_lt_or_eq.1 hj with hj | rfl
        · exact Sh.every j oj hj hoj hn
        · rw [hpi, hb] at hn; cases hn
      · rename_i hb
        split at he
        · cases he
        rename_i hplc
        have hplc : PlOk all (MS all i) tm o := by rw [hpi]; exact placesOk_s _ hplc
        have hnew : ∀ x, ShE all tm0 (putT tm o.dst x) (i + 1) ⟨i, p, o, tm, x⟩ := fun x =>
          ⟨hi, hpi.symm, Nat.lt_succ_self i, hTm.put F hi (Nat.le_refl _) x, hplc, fun d hd => by rw [tmpT_put, if_pos hd]⟩
        split at he
        · rename_i hq
          split at he
          · rename_i x hx
            refine ih ps (i + 1) _ s _ es pan tm' s' qs' es' pan' hd' hp' ⟨Sh.eff, Sh.pan.put F hi x Sh.belowP, hlt2, fun e he => ?_, fun e he => ⟨(Sh.e e he).1.put F hi x, (Sh.e e he).2⟩, Sh.desc, fun j oj hj hoj hn => ?_, hnow' x⟩ he
            · rcases List.mem_cons.1 he with rfl | he
              · exact ⟨hnew x, hq⟩
              · exact ⟨(Sh.q e he).1.put F hi x, (Sh.q e he).2⟩
            · rcases Nat.lt_succ_iff_lt_or_eq.1 hj with hj | rfl
              · obtain ⟨h1, h2⟩ := Sh.every j oj hj hoj hn
                exact ⟨fun hc => by obtain ⟨e, h3, h4⟩ := h1 hc; exact ⟨e, by simp [h3], h4⟩, h2⟩
              · rw [hi] at hoj; cases hoj
                exact ⟨fun _ => ⟨_, List.mem_cons_self, rfl⟩, fun hc => by rw [hq] at hc; cases hc⟩
          · cases he
        · rename_i hq
          have hq : calmA C esc o = false := by simpa using hq
          split at he
          · cases he
          · split at he
            · rename_i x s1 hx
              refine ih ps (i + 1) _ s1 qs ((⟨i, p, o, tm, x⟩, s1) :: es) none tm' s' qs' es' pan' hd' hp' ⟨⟨rfl, s, hx, Sh.eff⟩, trivial, (fun _ h => by cases h), fun e he => ⟨(Sh.q e he).1.put F hi x, (Sh.q e he).2⟩, fun e he => ?_, ?_, fun j oj hj hoj hn => ?_, hnow' x⟩ he
              · rcases List.mem_cons.1 he with rfl | he
                · exact ⟨hnew x, hq⟩
                · exact ⟨(Sh.e e he).1.put F hi x, (Sh.e e he).2⟩
              · rw [List.pairwise_cons]
                exact ⟨fun b hb => (Sh.e b hb).1.lt, Sh.desc⟩
              · rcases Nat.lt_succ_iff_lt_or_eq.1 hj with hj | rfl
                · obtain ⟨h1, h2⟩ := Sh.every j oj hj hoj hn
                  refine ⟨h1, fun hc => ?_⟩
                  rcases h2 hc with ⟨e, h3, h4⟩ | ⟨v, s2, h⟩
                  · exact .inl ⟨e, by simp [h3], h4⟩
                  · cases h
                · rw [hi] at hoj; cases hoj
                  exact ⟨fun hc => (by rw [hq] at hc; cases hc), fun _ => .inl ⟨_, List.mem_cons_self, rfl⟩⟩
            · rename_i v s1 hx
              split at he
              · rename_i hall
                have hP : PanOk C run esc all tm0 tm s es (some (i, v, s1)) := ⟨o, tm, hi, hq, hTm, hplc, fun e he => by rw [hpi]; exact allHas_s hall e he, hx⟩
                refine ih ps (i + 1) tm s qs es _ tm' s' qs' es' pan' hd' hp' ⟨Sh.eff, hP, (fun y hy => by cases hy; exact Nat.lt_succ_self i), fun e he => ⟨(Sh.q e he).1.up, (Sh.q e he).2⟩, fun e he => ⟨(Sh.e e he).1.up, (Sh.e e he).2⟩, Sh.desc, fun j oj hj hoj hn => ?_, hnow⟩ he
                rcases Nat.lt_succ_iff_lt_or_eq.1 hj with hj | rfl
                · obtain ⟨h1, h2⟩ := Sh.every j oj hj hoj rfl
                  refine ⟨h1, fun hc => ?_⟩
                  rcases h2 hc with ⟨e, h3, h4⟩ | ⟨v', s2, h⟩
                  · exact .inl ⟨e, h3, h4⟩
                  · cases h
                · rw [hi] at hoj; cases hoj
                  exact ⟨fun hc => (by rw [hq] at hc; cases hc), fun _ => .inr ⟨v, s1, rfl⟩⟩
              · cases he
            · cases he

/-! ### Snapshots -/
/-- From this snapshot on, whatever order the effects 'rem' take, all comes to the same. -/
def TreeOk (C : Ctx) (run : Run) (esc : List Tmp) (all : List Oper) (qs : List PE) (sF : Sn) : Nat → List PE → List PE → Sn → Prop
  | 0, _, _, _ => False
  | n + 1, rem, done, s => (∀ q ∈ qs, (∀ e ∈ rem, ¬ hasB q.p e.i = true) → (∀ e ∈ done, ¬ hasB e.p q.i = true) → ∃ x, quietO C esc all q.o q.tm s = some x ∧ ∀ d, q.o.dst = some d → x = q.x) ∧
      (rem = [] → s = sF) ∧
      ∀ e ∈ rem, (∀ e' ∈ rem, ¬ hasB e.p e'.i = true) → ∃ x s', oneA C run esc all e.o e.tm s = .ok x s' ∧ (∀ d, e.o.dst = some d → x = e.x) ∧ TreeOk C run esc all qs sF n (dropE e.i rem) (e :: done) s'

theorem anyIn_s {p : Nat} : ∀ {l : List PE}, anyIn p l = false ↔ ∀ e ∈ l, ¬ hasB p e.i = true
  | [] => by simp [anyIn]
  | a :: l => by
    simp only [anyIn, List.mem_cons, forall_eq_or_imp]
    split
    · rename_i h; simp [h]
    · rename_i h; rw [anyIn_s]; simp [h]
theorem aheadOf_s {i : Nat} : ∀ {l : List PE}, aheadOf i l = false ↔ ∀ e ∈ l, ¬ hasB e.p i = true
  | [] => by simp [aheadOf]
  | a :: l => by
    simp only [aheadOf, List.mem_cons, forall_eq_or_imp]
    split
    · rename_i h; simp [h]
    · rename_i h; rw [aheadOf_s]; simp [h]
theorem sameX_s {d : Option Tmp} {x y : TV} (h : sameX d x y = true) : ∀ t, d = some t → x = y := by
  intro t ht
  subst ht
  exact TV.eq_of_beq _ _ h
theorem quietHere_s {rem done : List PE} {s : Sn} : ∀ {qs : List PE}, quietHere C esc all rem done s qs = true →
    ∀ q ∈ qs, (∀ e ∈ rem, ¬ hasB q.p e.i = true) → (∀ e ∈ done, ¬ hasB e.p q.i = true) → ∃ x, quietO C esc all q.o q.tm s = some x ∧ ∀ d, q.o.dst = some d → x = q.x
  | [], _, q, hq, _, _ => by simp at hq
  | a :: qs, h, q, hq, h1, h2 => by
    simp only [quietHere] at h
    split at h
    · rename_i hx
      rcases List.mem_cons.1 hq with rfl | hq
      · rw [anyIn_s.2 h1, aheadOf_s.2 h2] at hx
        cases hx
      · exact quietHere_s h q hq h1 h2
    · split at h
      · rename_i hx
        rcases List.mem_cons.1 hq with rfl | hq
        · unfold hereOk at hx
          split at hx
          · cases hx
          · rename_i x he
            exact ⟨x, he, sameX_s hx⟩
        · exact quietHere_s h q hq h1 h2
      · cases h

theorem dropE_mem {i : Nat} {e : PE} : ∀ {l : List PE}, e ∈ dropE i l ↔ e ∈ l ∧ e.i ≠ i
  | [] => by simp [dropE]
  | a :: l => by
    simp only [dropE]
    split
    · rename_i h
      have h := Nat.eq_of_beq_eq_true h
      rw [dropE_mem]
      constructor
      · rintro ⟨h1, h2⟩; exact ⟨List.mem_cons_of_mem _ h1, h2⟩
      · rintro ⟨h1, h2⟩
        rcases List.mem_cons.1 h1 with rfl | h1
        · exact absurd h h2
        · exact ⟨h1, h2⟩
    · rename_i h
      have hne : a.i ≠ i := fun e => by rw [e] at h; simp at h
      rw [List.mem_cons, dropE_mem, List.mem_cons]
      constructor
      · rintro (rfl | ⟨h1, h2⟩)
        · exact ⟨.inl rfl, hne⟩
        · exact ⟨.inr h1, h2⟩
      · rintro ⟨rfl | h1, h2⟩
        · exact .inl rfl
        · exact .inr ⟨h1, h2⟩
theorem dropE_none {i : Nat} : ∀ {l : List PE}, (∀ e ∈ l, e.i ≠ i) → dropE i l = l
  | [], _ => rfl
  | a :: l, h => by
    have ha : Nat.beq a.i i = false := by
      cases hb : Nat.beq a.i i with
      | false => rfl
      | true => exact absurd (Nat.eq_of_beq_eq_true hb) (h a (by simp))
    simp only [dropE, ha]
    rw [dropE_none fun e he => h e (by simp [he])]

theorem LO.eq_of_beq {a b : LO} (h : LO.beq a b = true) : a = b := by
  cases a <;> cases b <;> simp only [LO.beq, Bool.and_eq_true, beq_iff_eq] at h
  all_goals first
    | (cases h; done)
    | (rw [V.eqs_of_beq _ _ h])
    | (obtain ⟨h1, h2⟩ := h; rw [h1, Nat.eq_of_beq_eq_true h2])
    | (obtain ⟨h1, h2, h3⟩ := h; rw [Nat.eq_of_beq_eq_true h1, Nat.eq_of_beq_eq_true h2, h3])
    | rfl
theorem entsSame_s : ∀ {a b : List (V × V)}, entsSame a b = true → a = b
  | [], [], _ => rfl
  | x :: xs, y :: ys, h => by
    simp only [entsSame, Bool.and_eq_true] at h
    obtain ⟨h1, h2, h3⟩ := h
    have := V.eq_of_beq _ _ h1
    have := V.eq_of_beq _ _ h2
    rw [entsSame_s h3]
    obtain ⟨x1, x2⟩ := x
    obtain ⟨y1, y2⟩ := y
    simp_all
  | [], _ :: _, h => by simp [entsSame] at h
  | _ :: _, [], h => by simp [entsSame] at h
theorem O.eq_of_same {a b : O} (h : O.same a b = true) : a = b := by
  cases a <;> cases b <;> simp only [O.same, Bool.and_eq_true, beq_iff_eq] at h
  all_goals first
    | (cases h; done)
    | (obtain ⟨h1, h2, h3, h4⟩ := h; rw [V.eqs_of_beq _ _ h1, Nat.eq_of_beq_eq_true h2, h3, Nat.eq_of_beq_eq_true h4])
    | (rw [entsSame_s h])
    | (rw [Nat.eq_of_beq_eq_true h])
theorem Tr.eq_of_same {α : Type} {f : α → α → Bool} (hf : ∀ a b, f a b = true → a = b) : ∀ {a b : Tr α}, Tr.same f a b = true → a = b
  | .nil, .nil, _ => rfl
  | .node l v r, .node l' v' r', h => by
    simp only [Tr.same, Bool.and_eq_true] at h
    obtain ⟨h1, h2, h3⟩ := h
    rw [Tr.eq_of_same hf h2, Tr.eq_of_same hf h3]
    congr 1
    split at h1
    · rfl
    · rw [hf _ _ h1]
    · cases h1
  | .nil, .node .., h => by simp [Tr.same] at h
  | .node .., .nil, h => by simp [Tr.same] at h
theorem dfSame_s : ∀ {a b : List (FuncId × List V)}, dfSame a b = true → a = b
  | [], [], _ => rfl
  | x :: xs, y :: ys, h => by
    simp only [dfSame, Bool.and_eq_true] at h
    obtain ⟨h1, h2, h3⟩ := h
    have := Nat.eq_of_beq_eq_true h1
    have := V.eqs_of_beq _ _ h2
    rw [dfSame_s h3]
    obtain ⟨x1, x2⟩ := x
    obtain ⟨y1, y2⟩ := y
    simp_all
  | [], _ :: _, h => by simp [dfSame] at h
  | _ :: _, [], h => by simp [dfSame] at h
theorem Sn.eq_of_same {s t : Sn} (h : Sn.same s t = true) : s = t := by
  obtain ⟨lc, df, ⟨n, v, tr⟩⟩ := s
  obtain ⟨lc', df', ⟨n', v', tr'⟩⟩ := t
  simp only [Sn.same, Bool.and_eq_true] at h
  obtain ⟨h1, h2, h3, h4, h5⟩ := h
  rw [Nat.eq_of_beq_eq_true h1, Nat.eq_of_beq_eq_true h2, Tr.eq_of_same (fun _ _ => O.eq_of_same) h3, Tr.eq_of_same (fun _ _ => LO.eq_of_beq) h4, dfSame_s h5]

theorem treeB_s {qs : List PE} {sF : Sn} : ∀ (n : Nat) (rem done : List PE) (s : Sn), treeB C run esc all qs sF n rem done s = true → TreeOk C run esc all qs sF n rem done s
  | 0, rem, done, s, h => by simp [treeB] at h
  | n + 1, rem, done, s, h => by
    simp only [treeB] at h
    split at h
    · cases h
    · rename_i hq
      refine ⟨quietHere_s hq, fun hr => ?_, fun e he hen => ?_⟩
      · subst hr
        exact Sn.eq_of_same h
      · cases rem with
        | nil => simp at he
        | cons a r =>
          simp only [List.all_eq_true] at h
          have h1 := h e he
          rw [anyIn_s.2 hen] at h1
          simp only at h1
          split at h1
          · rename_i x s' hx
            split at h1
            · rename_i hs
              exact ⟨x, s', hx, sameX_s hs, treeB_s n _ _ _ h1⟩
            · cases h1
          · cases h1

theorem asideB_s {qs : List PE} {sF : Sn} {n : Nat} {rem done : List PE} {s : Sn} : ∀ {l : List PE}, asideB C run esc all qs sF n rem done s l = true →
    ∀ e ∈ l, (∀ e' ∈ rem, ¬ hasB e.p e'.i = true) → ∃ x s', oneA C run esc all e.o e.tm s = .ok x s' ∧ (∀ d, e.o.dst = some d → x = e.x) ∧ TreeOk C run esc all qs sF n (dropE e.i rem) (e :: done) s'
  | [], _, e, he, _ => by simp at he
  | a :: l, h, e, he, hen => by
    simp only [asideB] at h
    split at h
    · rename_i ha
      rcases List.mem_cons.1 he with rfl | he
      · rw [anyIn_s.2 hen] at ha; cases ha
      · exact asideB_s h e he hen
    · split at h
      · rename_i x s' hx
        split at h
        · rename_i hs
          split at h
          · rename_i ht
            rcases List.mem_cons.1 he with rfl | he
            · exact ⟨x, s', hx, sameX_s hs, treeB_s _ _ _ _ ht⟩
            · exact asideB_s h e he hen
          · cases h
        · cases h
      · cases h

/-- The effects, the first one first. -/
def FPath (C : Ctx) (run : Run) (esc : List Tmp) (all : List Oper) (sF : Sn) : Sn → List (PE × Sn) → Prop
  | s, [] => s = sF
  | s, e :: r => oneA C run esc all e.1.o e.1.tm s = .ok e.1.x e.2 ∧ FPath C run esc all sF e.2 r

theorem pes_mem {e : PE} : ∀ {l : List (PE × Sn)}, e ∈ pes l ↔ ∃ s, (e, s) ∈ l
  | [] => by simp [pes]
  | a :: l => by
    simp only [pes, List.mem_cons, pes_mem]
    constructor
    · rintro (rfl | ⟨s, h⟩)
      · exact ⟨a.2, .inl rfl⟩
      · exact ⟨s, .inr h⟩
    · rintro ⟨s, h | h⟩
      · exact .inl (by rw [← h])
      · exact .inr ⟨s, h⟩

theorem pathB_s {qs : List PE} {sF : Sn} : ∀ (l : List (PE × Sn)) (done : List PE) (s : Sn), FPath C run esc all sF s l → l.Pairwise (fun a b => a.1.i ≠ b.1.i) → pathB C run esc all qs sF l done s = true →
    TreeOk C run esc all qs sF (l.length + 1) (pes l) done s
  | [], done, s, hp, _, h => by
    simp only [pathB] at h
    exact ⟨quietHere_s h, fun _ => hp, fun e he => by simp [pes] at he⟩
  | (e, s') :: l, done, s, hp, hn, h => by
    simp only [pathB] at h
    split at h
    · cases h
    · rename_i hq
      split at h
      · cases h
      · rename_i ha
        obtain ⟨hp1, hp2⟩ := hp
        rw [List.pairwise_cons] at hn
        refine ⟨quietHere_s hq, fun hr => by simp [pes] at hr, fun a hae hen => ?_⟩
        rcases List.mem_cons.1 hae with rfl | hae
        · refine ⟨_, _, hp1, fun _ _ => rfl, ?_⟩
          have hd : dropE a.i (a :: pes l) = pes l := by
            have : Nat.beq a.i a.i = true := by simp
            simp only [dropE, this]
            refine dropE_none fun b hb => ?_
            obtain ⟨s2, hb⟩ := pes_mem.1 hb
            exact fun e => hn.1 _ hb e.symm
          show TreeOk C run esc all qs sF (l.length + 1) (dropE a.i (a :: pes l)) (a :: done) s'
          rw [hd]
          exact pathB_s l (a :: done) s' hp2 hn.2 h
        · exact asideB_s ha a hae hen

theorem revA_eq {α : Type} : ∀ (l acc : List α), revA l acc = l.reverse ++ acc
  | [], acc => rfl
  | x :: xs, acc => by simp [revA, revA_eq xs]

theorem fpath_of {s0 : Sn} {sF : Sn} : ∀ (es : List (PE × Sn)) (s : Sn) (acc : List (PE × Sn)), EffOk C run esc all s0 s es → FPath C run esc all sF s acc → FPath C run esc all sF s0 (revA es acc)
  | [], s, acc, h, ha => by
    have : s = s0 := h
    subst this
    exact ha
  | e :: r, s, acc, h, ha => by
    obtain ⟨h1, s', h2, h3⟩ := h
    refine fpath_of r s' (e :: acc) h3 ⟨?_, ?_⟩
    · rw [h1]; exact h2
    · rw [h1]; exact ha

theorem forgetT_in (t : Tmp) : ∀ (l : List Oper) (tm : Tr TV), ((∃ o ∈ l, o.dst = some t) → tmpT (forgetT tm l) t = .undef) ∧ ((∀ o ∈ l, o.dst ≠ some t) → tmpT (forgetT tm l) t = tmpT tm t)
  | [], tm => ⟨fun ⟨o, h, _⟩ => by simp at h, fun _ => rfl⟩
  | a :: l, tm => by
    obtain ⟨h1, h2⟩ := forgetT_in t l (putT tm a.dst .undef)
    constructor
    · rintro ⟨o, ho, hd⟩
      by_cases hl : ∃ o ∈ l, o.dst = some t
      · exact h1 hl
      · have hl' : ∀ o ∈ l, o.dst ≠ some t := fun o ho hd => hl ⟨o, ho, hd⟩
        simp only [forgetT]
        rw [h2 hl', tmpT_put]
        rcases List.mem_cons.1 ho with rfl | ho
        · rw [if_pos hd]
        · exact absurd hd (hl' o ho)
    · intro h
      simp only [forgetT]
      rw [h2 (fun o ho => h o (by simp [ho])), tmpT_put, if_neg (h a (by simp))]
end
end Go.S2

namespace Go.S2
/-- The variables of the frame's own that are still to be laid. -/
def Unlaid (esc : List Tmp) (all : List Oper) (listed : Array Bool) (s : Nat) : Prop := ∃ (q : Nat) (o : Oper) (e : TypeId), all[q]? = some o ∧ ownAlloc esc o = some (s, e) ∧ ¬ listed.getD q false = true

section
variable {C : Ctx} {P : Program} {N0 : Nat} {m0 : Km} {h0 : H} {w0 : World} {m : Km} {a : Act} {w : World} {L : Nat → Nat} {run : Run} {esc : List Tmp}

theorem fs_put (s : Sn) (tm : Tr TV) (d : Option Tmp) (x : TV) : (s.fs tm).put d x = s.fs (putT tm d x) := by
  cases d <;> rfl

/-- One operation of a region, wanted or not. -/
theorem oneA_wp (K : COk C P) (hrun : RunS C P N0 run) {tm : Tr TV} {s : Sn} (I : Inv C N0 m0 h0 w0 m (s.fs tm) s.h a w L) {n : Nat} (hn : a.tmps.size = n) {ops : Array Oper} (hops : ops.toList.all (OpDst n) = true)
    {i : Nat} {o : Oper} (hi : ops[i]? = some o) {Q : Exit → Act → World → Prop} {next : Act → World → Prop}
    (hf : oneA C run esc ops.toList o tm s ≠ .fail)
    (hok : ∀ x s', oneA C run esc ops.toList o tm s = .ok x s' → ∀ m L a1 w1, Inv C N0 m0 h0 w0 m (s'.fs (putT tm o.dst x)) s'.h a1 w1 L → a1.tmps.size = n → next a1 w1)
    (hpan : ∀ v s', oneA C run esc ops.toList o tm s = .pan v s' → ∀ m L a1 w1 ch, ExR m (.pan v) (.panic ch) → Inv C N0 m0 h0 w0 m (s'.fs tm) s'.h a1 w1 L → a1.tmps.size = n → Q (.panic ch) a1 w1) :
    wpOp P ops Q i next a w := by
  have hod : OpDst n o = true := List.all_eq_true.1 hops o (by
    rw [Array.mem_toList_iff]; exact Array.mem_of_getElem? hi)
  have hdst : ∀ t, o.dst = some t → t < a.tmps.size := by rw [hn]; exact dst_ok hod
  have hskip : Region.wanted o (yielded ops a.tmps) = false → wantA ops.toList o tm = some false → wpOp P ops Q i next a w := by
    intro hw hwa
    unfold wpOp
    simp only [hi]
    rw [if_neg (by rw [hw]; simp)]
    refine hok (.v (.tuple [])) s (by unfold oneA; rw [hwa]) m L _ _ ?_ (by rw [Act.put_size, hn])
    have := I.put (d := o.dst) (x := .v (.tuple [])) (v := undef) (by simp [TVR, VR, VRs, undef]) hdst
    rwa [fs_put] at this
  have hgo : Region.wanted o (yielded ops a.tmps) = true → wantA ops.toList o tm = some true → wpOp P ops Q i next a w := by
    intro hw hwa
    unfold wpOp
    simp only [hi]
    rw [if_pos hw]
    refine .inl ?_
    have hop := opA_s (P := P) K I esc o
    have h1 : oneA C run esc ops.toList o tm s = effA C run esc o tm s := by unfold oneA; rw [hwa]
    rw [h1] at hf hok hpan
    unfold effA at hf hok hpan
    unfold Oper.wp
    cases hr : opA C esc o (s.fs tm) s.h with
    | fail => rw [hr] at hf; exact absurd rfl hf
    | ok x fs1 h1 =>
      rw [hr] at hop hok
      obtain ⟨nx, v, m', w', L', a', r1, r2, r3, r4⟩ := hop
      have htm : fs1.tm = tm := opA_tm hr
      have e : fs1.put o.dst x = (⟨fs1.lc, fs1.df, h1⟩ : Sn).fs (putT tm o.dst x) := by
        rw [← htm, ← fs_put]
        rfl
      rw [r1]
      rcases r2 with ⟨rfl, rfl⟩ | ⟨rfl, rfl, rfl⟩ | ⟨d, rfl, rfl, rfl⟩
      · have r5 := r3.put r4 hdst; rw [e] at r5
        exact hok x _ rfl m' L' _ _ r5 (by rw [Act.put_size, hn])
      · have r5 := r3.put r4 hdst; rw [e] at r5
        exact hok x _ rfl m' L' _ _ r5 (by rw [Act.put_size, hn])
      · have r5 := r3.put r4 hdst; rw [e] at r5
        exact hok x _ rfl m' L' _ _ r5 (by rw [Act.put_size]; exact hn)
    | call f args =>
      rw [hr] at hop hf hok hpan
      obtain ⟨args', r1, r2⟩ := hop
      rw [r1]
      have hS := hrun f args s.h m w args' I.hr r2
      simp only at hf hok hpan
      cases hres : run f args s.h with
      | fail => rw [hres] at hf; exact absurd rfl hf
      | ok v h1 =>
        rw [hres] at hS hok
        rcases hS with ⟨q1, q2⟩ | ⟨u, w', q1, m', u', q2, q3, q4, q5⟩
        · rw [q1, Oper.upon_enter]
          refine q2.mono fun e w' ⟨m', u, h1, h2, h3, h4⟩ => ?_
          subst h1
          have r5 := (I.call h3 h4).put (x := .v v) h2 hdst; rw [fs_put] at r5
          exact hok _ _ rfl m' L _ _ r5 (by rw [Act.put_size, hn])
        · rw [q1, Oper.upon_value]
          cases q2
          have r5 := (I.call q4 q5).put (x := .v v) q3 hdst; rw [fs_put] at r5
          exact hok _ _ rfl m' L _ _ r5 (by rw [Act.put_size, hn])
      | pan v h1 =>
        rw [hres] at hS hpan
        rcases hS with ⟨q1, q2⟩ | ⟨u, w', q1, m', u', q2, _⟩
        · rw [q1, Oper.upon_enter]
          refine q2.mono fun e w' ⟨m', u, h1, h2, h3, h4⟩ => ?_
          subst h1
          exact hpan _ _ rfl m' L _ _ _ ⟨u, rfl, h2⟩ (I.call h3 h4) hn
        · cases q2
    | pan v =>
      rw [hr] at hop hpan
      obtain ⟨pv, r1, r2⟩ := hop
      rw [r1, Oper.upon_panic]
      exact hpan _ _ rfl m L _ _ _ ⟨pv, rfl, r2⟩ I hn
  cases hwa : wantA ops.toList o tm with
  | none => exact absurd (by unfold oneA; rw [hwa]) hf
  | some b =>
    unfold wantA at hwa
    split at hwa
    · rename_i hg
      have hwa' : wantA ops.toList o tm = some true := by unfold wantA; rw [hg]
      exact hgo (by simp [Region.wanted, hg]) hwa'
    · rename_i j want hg
      have hwa' := hwa
      split at hwa
      · rename_i d hgd
        have hv := I.fr.tmp d
        rw [tmp_fs] at hv
        have hdb : d < a.tmps.size := by
          unfold guardOf at hgd
          split at hgd
          · rename_i o' ho'
            have hmem := nth_get ho'
            rw [hn]
            exact dst_ok (List.all_eq_true.1 hops o' (List.mem_of_getElem? hmem)) d hgd
          · cases hgd
        have hfin : ∀ b', some b' = some b → wantA ops.toList o tm = some b' → Region.wanted o (yielded ops a.tmps) = b' → wpOp P ops Q i next a w := by
          intro b' _ h1 h2
          cases b' with
          | true => exact hgo h2 h1
          | false => exact hskip h2 h1
        split at hwa
        · rename_i ht
          rw [ht] at hv
          have hv' : a.tmps.getD d undef = .bool true := by simpa [TVR, VR] using hv
          refine hfin want hwa (by unfold wantA; rw [hg]; simp only [hgd, ht]) ?_
          rw [wanted_s (a := a) hg hgd hv' hdb]; cases want <;> rfl
        · rename_i ht
          rw [ht] at hv
          have hv' : a.tmps.getD d undef = .bool false := by simpa [TVR, VR] using hv
          refine hfin (!want) hwa (by unfold wantA; rw [hg]; simp only [hgd, ht]) ?_
          rw [wanted_s (a := a) hg hgd hv' hdb]; cases want <;> rfl
        · rename_i ht
          rw [ht] at hv
          have hv' : a.tmps.getD d undef = .tuple #[] := by
            simp only [TVR, VR] at hv
            obtain ⟨x, h1, h2⟩ := hv
            have := h2.length
            simp at this
            rw [h1, Array.size_eq_zero_iff.1 this.symm]
          exact hfin false hwa (by unfold wantA; rw [hg]; simp only [hgd, ht]) (wanted_undef hg hgd hv')
        · cases hwa
      · cases hwa

/-- Slots may be forgotten. -/
theorem Inv.weak {s : Sn} {tm tm' : Tr TV} (I : Inv C N0 m0 h0 w0 m (s.fs tm) s.h a w L) (h : ∀ t, tmpT tm' t = tmpT tm t ∨ tmpT tm' t = .undef) : Inv C N0 m0 h0 w0 m (s.fs tm') s.h a w L := by
  refine ⟨I.hr, ⟨fun t => ?_, I.fr.loc, I.fr.inj, I.fr.df⟩, I.kept, I.base0⟩
  rw [tmp_fs]
  rcases h t with e | e
  · rw [e]
    have := I.fr.tmp t
    rw [tmp_fs] at this
    generalize tmpT tm t = y at *
    cases y <;> exact this
  · rw [e]; trivial

theorem Inv.drawn1 {fs : FS} {h : H} (I : Inv C N0 m0 h0 w0 m fs h a w L) (k : Nat) : Inv C N0 m0 h0 w0 m fs h a { w with drawn := k } L := by
  refine ⟨⟨fun i o ho => ?_, I.hr.own, I.hr.apart, I.hr.fresh, I.hr.base, I.hr.glob, I.hr.next, I.hr.old⟩, ⟨I.fr.tmp, fun s o ho => ?_, I.fr.inj, I.fr.df⟩, ⟨I.kept.os, I.kept.tape, I.kept.output, I.kept.size, I.kept.le, I.kept.old, I.kept.live⟩, I.base0⟩
  · obtain ⟨c, b, n, z, h1, h2⟩ := I.hr.obj i o ho
    refine ⟨c, b, n, z, h1, ?_⟩
    cases o <;> exact h2
  · obtain ⟨h1, h2⟩ := I.fr.loc s o ho
    refine ⟨?_, h2⟩
    cases o <;> exact h1

theorem Yset {listed : Array Bool} {i q : Nat} (hi : listed.getD i true = false) : (listed.setIfInBounds i true).getD q false = true ↔ listed.getD q false = true ∨ q = i := by
  have hs : i < listed.size := by
    rcases Nat.lt_or_ge i listed.size with h | h
    · exact h
    · simp [Array.getElem?_eq_none h] at hi
  by_cases e : i = q
  · subst e; simp [hs]
  · rw [getD_set_ne false e]
    constructor
    · exact .inl
    · rintro (h | h)
      · exact h
      · exact absurd h.symm e

theorem not_Y {listed : Array Bool} {i : Nat} (hi : listed.getD i true = false) : ¬ listed.getD i false = true := by
  have hs : i < listed.size := by
    rcases Nat.lt_or_ge i listed.size with h | h
    · exact h
    · simp [Array.getElem?_eq_none h] at hi
  simp [hs] at hi ⊢
  exact hi

theorem count_set {listed : Array Bool} {i k : Nat} (hi : listed.getD i true = false) (hk : listed.toList.count false = k + 1) : (listed.setIfInBounds i true).toList.count false = k := by
  have hs : i < listed.size := by
    rcases Nat.lt_or_ge i listed.size with h | h
    · exact h
    · simp [Array.getElem?_eq_none h] at hi
  have hv : listed[i] = false := by simpa [hs] using hi
  have hs' : i < listed.toList.length := by simpa using hs
  rw [Array.toList_setIfInBounds, List.count_set hs', hk]
  simp [hv]

/-- Slots and variables said otherwise, to the same end. -/
theorem Inv.ext {s s' : Sn} {tm tm' : Tr TV} (I : Inv C N0 m0 h0 w0 m (s.fs tm) s.h a w L) (ht : ∀ t, tmpT tm' t = tmpT tm t) (hl : ∀ t, s'.lc.get t = s.lc.get t) (hd : s'.df = s.df) (hh : s'.h = s.h) :
    Inv C N0 m0 h0 w0 m (s'.fs tm') s'.h a w L := by
  rw [hh]
  refine I.part (fs' := s'.fs tm') ⟨hd, fun t o h => ?_, fun t => .inr ⟨ht t, fun t' _ h => ?_⟩⟩ (HPart.refl _)
  · have : s'.lc.get t = some o := h
    rw [hl] at this; exact this
  · show s'.lc.get t' ≠ none
    rw [hl]; exact h

/-- From any set of operations that may be listed, every order comes to what the text's order came to. -/
theorem draw_any (K : COk C P) (hrun : RunS C P N0 run) {ops : Array Oper} {n : Nat} (hops : ops.toList.all (OpDst n) = true) (F : Form ops.toList) {tm0 tmF : Tr TV} {s0 sF : Sn} {qs : List PE} {es : List (PE × Sn)} {pan : Option (Nat × V × Sn)}
    (Sh : Shown C run esc ops.toList tm0 s0 ops.toList.length tmF sF qs es pan)
    (hfree : ∀ t s, (∃ x, tmpT tm0 t = .l s x ∨ tmpT tm0 t = .ls s x) → ¬ Lays esc ops.toList s)
    {e : Ex} {fs' : FS} {h' : H} (hres : (match pan with
        | none => XR.go .norm (sF.fs tmF) sF.h
        | some (_, v, s') => .go (.pan v) ⟨forgetT tm0 ops.toList, unlayA esc ops.toList s'.lc, s'.df⟩ s'.h) = .go e fs' h') :
    ∀ (fuel : Nat) (listed : Array Bool) (N : Nat) (rem done : List PE) (s : Sn) (tm : Tr TV) (sY : Sn) (m : Km) (a : Act) (w : World) (L : Nat → Nat), listed.size = ops.size → listed.toList.count false = fuel →
      TreeOk C run esc ops.toList qs sF N rem done s → (∀ y ∈ rem, ∃ z, (y, z) ∈ es) →
      (∀ y ∈ done, listed.getD y.i false = true ∧ y.p = MS ops.toList y.i) → (∀ y ∈ rem, ¬ listed.getD y.i false = true) → (∀ y ∈ es, ¬ listed.getD y.1.i false = true → y.1 ∈ rem) → (∀ y : Nat × V × Sn, pan = some y → ¬ listed.getD y.1 false = true) →
      (∀ q r, listed.getD q false = true → hasB (MS ops.toList q) r = true → listed.getD r false = true) →
      (∀ (i : Nat) (o : Oper) (d : Tmp), ops.toList[i]? = some o → listed.getD i false = true → o.dst = some d → tmpT tm d = tmpT tmF d) →
      (∀ t, (∀ (i : Nat) (o : Oper), ops.toList[i]? = some o → listed.getD i false = true → o.dst ≠ some t) → tmpT tm t = tmpT tm0 t) →
      sY.h = s.h → sY.df = s.df →
      (∀ t, ¬ Unlaid esc ops.toList listed t → sY.lc.get t = s.lc.get t) → (∀ t, Unlaid esc ops.toList listed t → sY.lc.get t = none) →
      (∀ (q : Nat) (o : Oper) (d : Tmp) (te : TypeId), ops.toList[q]? = some o → ownAlloc esc o = some (d, te) → ¬ listed.getD q false = true → ∃ z, tzero C te = some z ∧ s.lc.get d = some (.cells z)) →
      Inv C N0 m0 h0 w0 m (sY.fs tm) sY.h a w L → a.tmps.size = n →
      wpAny P .any ops (Post C N0 m0 h0 w0 n e fs' h') fuel listed a w := by
  have hend : ∀ (listed : Array Bool) (N : Nat) (rem done : List PE) (s : Sn) (tm : Tr TV) (sY : Sn) (m : Km) (a : Act) (w : World) (L : Nat → Nat), listed.size = ops.size → TreeOk C run esc ops.toList qs sF N rem done s → (∀ y ∈ rem, ∃ z, (y, z) ∈ es) →
      (∀ y ∈ rem, ¬ listed.getD y.i false = true) → (∀ y : Nat × V × Sn, pan = some y → ¬ listed.getD y.1 false = true) →
      (∀ (i : Nat) (o : Oper) (d : Tmp), ops.toList[i]? = some o → listed.getD i false = true → o.dst = some d → tmpT tm d = tmpT tmF d) →
      (∀ t, (∀ (i : Nat) (o : Oper), ops.toList[i]? = some o → listed.getD i false = true → o.dst ≠ some t) → tmpT tm t = tmpT tm0 t) →
      sY.h = s.h → sY.df = s.df → (∀ t, ¬ Unlaid esc ops.toList listed t → sY.lc.get t = s.lc.get t) →
      Inv C N0 m0 h0 w0 m (sY.fs tm) sY.h a w L → a.tmps.size = n → Region.ready .any ops listed = [] → Post C N0 m0 h0 w0 n e fs' h' .normal a w := by
    intro listed N rem done s tm sY m a w L hsz hT hR hY2 hY3 ht1 ht2 hsh hsd hl1 I hn hr
    have hall : ∀ i, i < ops.size → listed.getD i false = true := by
      intro i
      induction i using Nat.strongRecOn with
      | ind i ih =>
        intro hi
        by_cases hY : listed.getD i false = true
        · exact hY
        · exfalso
          have hm : i ∈ Region.ready .any ops listed := by
            rw [mem_ready]
            refine ⟨?_, ops[i], by simp [hi], fun e he hb => ?_⟩
            · simp [hsz, hi] at hY ⊢; exact hY
            · have := F.back i ops[i] (by simp [hi]) e (by simpa using he) hb
              exact ih e.on this (by omega)
          rw [hr] at hm
          simp at hm
    have hrem : rem = [] := by
      cases rem with
      | nil => rfl
      | cons y l =>
        exfalso
        obtain ⟨z, hz⟩ := hR y (by simp)
        have hb := (Sh.e _ hz).1.lt
        exact hY2 y (by simp) (hall _ (by simpa using hb))
    have hs : s = sF := by
      cases N with
      | zero => exact hT.elim
      | succ N => exact hT.2.1 hrem
    have hpn : pan = none := by
      cases pan with
      | none => rfl
      | some y => exact absurd (hall _ (by simpa using Sh.belowP y rfl)) (hY3 y rfl)
    subst hs
    rw [hpn] at hres
    cases hres
    refine ⟨m, L, trivial, Inv.ext (s' := s) (tm' := tmF) I (fun t => ?_) (fun t => ?_) hsd.symm hsh.symm, hn⟩
    · by_cases h : ∃ (i : Nat) (o : Oper), ops.toList[i]? = some o ∧ o.dst = some t
      · obtain ⟨i, o, h1, h2⟩ := h
        exact (ht1 i o t h1 (hall i (by simpa using (List.getElem?_eq_some_iff.1 h1).1)) h2).symm
      · have h' : ∀ (i : Nat) (o : Oper), ops.toList[i]? = some o → o.dst ≠ some t := fun i o h1 h2 => h ⟨i, o, h1, h2⟩
        rw [ht2 t (fun i o h1 _ => h' i o h1)]
        exact Sh.now t fun j oj h1 h2 => absurd h2 (h' j oj h1)
    · refine (hl1 t ?_).symm
      rintro ⟨q, o, te, h1, _, h3⟩
      exact h3 (hall q (by simpa using (List.getElem?_eq_some_iff.1 h1).1))
  intro fuel
  induction fuel with
  | zero =>
    intro listed N rem done s tm sY m a w L hsz hc hT hR hY1 hY2 hY4 hY3 hcl ht1 ht2 hsh hsd hl1 hl2 hl3 I hn
    have hr : Region.ready .any ops listed = [] := by
      rw [List.eq_nil_iff_forall_not_mem]
      intro i hi
      rw [mem_ready] at hi
      have h1 := hi.1
      have hs : i < listed.size := by
        rcases Nat.lt_or_ge i listed.size with h | h
        · exact h
        · simp [Array.getElem?_eq_none h] at h1
      have : false ∈ listed.toList := by
        rw [Array.mem_toList_iff]
        have : listed[i] = false := by simpa [hs] using h1
        rw [← this]; exact Array.getElem_mem hs
      exact absurd hc (by have := List.count_pos_iff.2 this; omega)
    exact ⟨hr, hend listed N rem done s tm sY m a w L hsz hT hR hY2 hY3 ht1 ht2 hsh hsd hl1 I hn hr⟩
  | succ fuel ih =>
    intro listed N rem done s tm sY m a w L hsz hc hT hR hY1 hY2 hY4 hY3 hcl ht1 ht2 hsh hsd hl1 hl2 hl3 I hn
    refine ⟨hend listed N rem done s tm sY m a w L hsz hT hR hY2 hY3 ht1 ht2 hsh hsd hl1 I hn, fun i hi => ?_⟩
    rw [mem_ready] at hi
    obtain ⟨hun, o, ho, hedge⟩ := hi
    have hnY := not_Y hun
    have hol : ops.toList[i]? = some o := by rw [Array.getElem?_toList]; exact ho
    have hom : o ∈ ops.toList := List.mem_of_getElem? hol
    have hpre : ∀ q, hasB (MS ops.toList i) q = true → listed.getD q false = true := by
      intro q hq
      obtain ⟨e, h1, h2, h3⟩ := F.cover i o q hol hq
      have := hedge e (by simpa using h1) h2
      rcases h3 with rfl | h3
      · exact this
      · exact hcl e.on q this h3
    have hil : i < ops.toList.length := (List.getElem?_eq_some_iff.1 hol).1
    -- the slots that the text had here are these
    have hal : ∀ tmi, TmAt ops.toList tm0 tmF i tmi → Alike ops.toList o tmi tm := by
      intro tmi hA t ht
      by_cases h : ∃ (q : Nat) (oq : Oper), ops.toList[q]? = some oq ∧ oq.dst = some t
      · obtain ⟨q, oq, h1, h2⟩ := h
        rcases F.use i o t hol ht q oq h1 h2 with ⟨hlt, hb⟩ | ⟨hle, hb⟩
        · rw [ht1 q oq t h1 (hpre q hb) h2, hA.2 q oq t hlt h1 h2]
        · have hnq : ¬ listed.getD q false = true := by
            intro hq
            rcases hb with rfl | hb
            · exact hnY hq
            · exact hnY (hcl q i hq hb)
          rw [ht2 t (fun j oj hj hjY hjd => ?_), hA.1 t (fun j oj hj hjd => ?_)]
          · have := F.nodup j q oj oq t hj h1 hjd h2
            omega
          · have := F.nodup j q oj oq t hj h1 hjd h2
            subst this
            exact hnq hjY
      · have h' : ∀ (i : Nat) (o : Oper), ops.toList[i]? = some o → o.dst ≠ some t := fun i o h1 h2 => h ⟨i, o, h1, h2⟩
        rw [ht2 t (fun i o h1 _ => h' i o h1), hA.1 t (fun j oj h1 h2 => absurd h2 (h' j oj h1))]
    have hnp : behindPan (MS ops.toList i) pan = false := by
      cases hp : pan with
      | none => rfl
      | some y =>
        obtain ⟨j, v, s'⟩ := y
        simp only [behindPan]
        cases hb : hasB (MS ops.toList i) j with
        | false => rfl
        | true => exact absurd (hpre j hb) (hY3 _ hp)
    -- the frame that has the unlaid variables, and the one that has not
    have N1 : Near (Unlaid esc ops.toList listed) (s.fs tm) (sY.fs tm) := ⟨rfl, hsd, hl1⟩
    have hoff : ∀ tmi, TmAt ops.toList tm0 tmF i tmi → PlOk ops.toList (MS ops.toList i) tmi o → ∀ x ∈ o.op.operands, Off (Unlaid esc ops.toList listed) (evalO (s.fs tm) x) := by
      intro tmi hA hP x hx
      cases x with
      | tmp t =>
        have hpl := hP.congr (hal tmi hA)
        show Off _ (tmpT tm t)
        have key : ∀ s, (∃ x, tmpT tm t = .l s x ∨ tmpT tm t = .ls s x) → ¬ Unlaid esc ops.toList listed s := by
          rintro s hs ⟨q, oq, te, h1, h2, h3⟩
          exact h3 (hpre q (hpl t (by simpa using hx) s hs q oq h1 (ownAlloc_s h2).2.2.1))
        cases hv : tmpT tm t with
        | l s x => exact key s ⟨x, .inl hv⟩
        | ls s x => exact key s ⟨x, .inr hv⟩
        | _ => trivial
      | const v => simp only [evalO]; split <;> trivial
      | global g => simp only [evalO]; split <;> trivial
      | func f => trivial
    have hdst : ownAlloc esc o = none → ∀ t, o.dst = some t → ¬ Unlaid esc ops.toList listed t := by
      rintro hna t ht ⟨q, oq, te, h1, h2, h3⟩
      have := F.nodup i q o oq t hol h1 ht (ownAlloc_s h2).2.2.1
      subst this
      rw [hol] at h1; cases h1
      rw [hna] at h2; cases h2
    -- what holds of the set with 'i'
    have hnext : ∀ (N' : Nat) (rem' done' : List PE) (s' : Sn) (x : TV) (s1 : Sn), TreeOk C run esc ops.toList qs sF N' rem' done' s' → (∀ y ∈ rem', ∃ z, (y, z) ∈ es) → (∀ y ∈ done', (listed.getD y.i false = true ∨ y.i = i) ∧ y.p = MS ops.toList y.i) → (∀ y ∈ rem', ¬ listed.getD y.i false = true ∧ y.i ≠ i) →
        (∀ y ∈ es, ¬ listed.getD y.1.i false = true → y.1.i ≠ i → y.1 ∈ rem') →
        (∀ y : Nat × V × Sn, pan = some y → y.1 ≠ i) → (∀ d, o.dst = some d → tmpT tmF d = x) →
        s1.h = s'.h → s1.df = s'.df →
        (∀ t, ¬ Unlaid esc ops.toList (listed.setIfInBounds i true) t → s1.lc.get t = s'.lc.get t) → (∀ t, Unlaid esc ops.toList (listed.setIfInBounds i true) t → s1.lc.get t = none) →
        (∀ d, Unlaid esc ops.toList listed d → s'.lc.get d = s.lc.get d) →
        ∀ m L a1 w1, Inv C N0 m0 h0 w0 m (s1.fs (putT tm o.dst x)) s1.h a1 w1 L → a1.tmps.size = n →
        wpAny P .any ops (Post C N0 m0 h0 w0 n e fs' h') fuel (listed.setIfInBounds i true) a1 w1 := by
      intro N' rem' done' s' x s1 hT' hR' h1 h2 h4 h3 hx g1 g2 g3 g4 g5 m L a1 w1 I1 hn1
      refine ih (listed.setIfInBounds i true) N' rem' done' s' _ s1 m a1 w1 L (by simpa using hsz) (count_set hun hc) hT' hR' ?_ ?_ ?_ ?_ ?_ ?_ ?_ g1 g2 g3 g4 ?_ I1 hn1
      · intro y hy; rw [Yset hun]; exact h1 y hy
      · intro y hy; rw [Yset hun]; rintro (q | q)
        · exact (h2 y hy).1 q
        · exact (h2 y hy).2 q
      · intro y hy hny
        rw [Yset hun] at hny
        exact h4 y hy (fun h => hny (.inl h)) (fun h => hny (.inr h))
      · intro y hy; rw [Yset hun]; rintro (q | q)
        · exact hY3 y hy q
        · exact h3 y hy q
      · intro q r hq hb
        rw [Yset hun] at hq ⊢
        rcases hq with hq | rfl
        · exact .inl (hcl q r hq hb)
        · exact .inl (hpre r hb)
      · intro j oj d hj hY hd
        rw [Yset hun] at hY
        rw [tmpT_put]
        split
        · rename_i hd'; exact (hx d hd').symm
        · rename_i hd'
          rcases hY with hY | rfl
          · exact ht1 j oj d hj hY hd
          · rw [hol] at hj; cases hj; exact absurd hd hd'
      · intro t ht
        have hit : o.dst ≠ some t := ht i o hol (by rw [Yset hun]; exact .inr rfl)
        rw [tmpT_put, if_neg hit]
        exact ht2 t fun j oj hj hY => ht j oj hj (by rw [Yset hun]; exact .inl hY)
      · intro q oq d te hq hna hYq
        rw [Yset hun] at hYq
        have hYq' : ¬ listed.getD q false = true := fun h => hYq (.inl h)
        obtain ⟨z, z1, z2⟩ := hl3 q oq d te hq hna hYq'
        exact ⟨z, z1, by rw [g5 d ⟨q, oq, te, hq, hna, hYq'⟩]; exact z2⟩
    -- the unlaid variables, with an operation that lays none
    have hUn : ownAlloc esc o = none → ∀ s, Unlaid esc ops.toList (listed.setIfInBounds i true) s ↔ Unlaid esc ops.toList listed s := by
      intro hna s
      constructor
      · rintro ⟨q, oq, te, h1, h2, h3⟩
        rw [Yset hun] at h3
        exact ⟨q, oq, te, h1, h2, fun h => h3 (.inl h)⟩
      · rintro ⟨q, oq, te, h1, h2, h3⟩
        refine ⟨q, oq, te, h1, h2, ?_⟩
        rw [Yset hun]
        rintro (h | rfl)
        · exact h3 h
        · rw [hol] at h1; cases h1; rw [hna] at h2; cases h2
    cases N with
    | zero => exact hT.elim
    | succ N =>
    obtain ⟨hTq, hTe, hTn⟩ := hT
    have hEv := Sh.every i o hil hol hnp
    cases hq : calmA C esc o with
    | true =>
      obtain ⟨q, hqm, hqi⟩ := hEv.1 hq
      obtain ⟨hS, _⟩ := Sh.q q hqm
      have hqo : q.o = o := by
        have h1 := hS.at_
        rw [hqi, hol] at h1
        exact (Option.some.inj h1).symm
      have hqp : q.p = MS ops.toList i := by rw [hS.mask, hqi]
      have hA : TmAt ops.toList tm0 tmF i q.tm := by rw [← hqi]; exact hS.tms
      have hP : PlOk ops.toList (MS ops.toList i) q.tm o := by rw [← hqi, ← hqo]; exact hS.pl
      have hnotE : ∀ y ∈ es, y.1.i ≠ i := by
        intro y hy he
        have h1 := (Sh.e y hy).1.at_
        have h2 := (Sh.e y hy).2
        rw [he, hol] at h1
        rw [← Option.some.inj h1, hq] at h2
        cases h2
      obtain ⟨x, hx, hxd⟩ := hTq q hqm (fun y hy hb => hY2 y hy (hpre _ (by rw [← hqp]; exact hb))) (fun y hy hb => by
        -- 'i' lies ahead of an effect that is done
        rw [(hY1 y hy).2, hqi] at hb
        exact hnY (hcl y.i i (hY1 y hy).1 hb))
      rw [hqo] at hx hxd
      have hxF : ∀ d, o.dst = some d → tmpT tmF d = x := fun d hd => by
        rw [hxd d hd]
        exact hS.out d (by rw [hqo]; exact hd)
      have hkeep : ∀ y : Nat × V × Sn, pan = some y → y.1 ≠ i := by
        intro y hy he
        have hPn := Sh.pan
        rw [hy] at hPn
        obtain ⟨j, v, s'⟩ := y
        obtain ⟨o', _, h1, h2, _⟩ := hPn
        simp only at he
        subst he
        rw [hol] at h1; cases h1
        rw [hq] at h2; cases h2
      have hlat : ∀ y ∈ rem, ¬ listed.getD y.i false = true ∧ y.i ≠ i := fun y hy => ⟨hY2 y hy, fun he => by
        obtain ⟨z, hz⟩ := hR y hy
        exact hnotE _ hz he⟩
      have hT0 : TreeOk C run esc ops.toList qs sF (N + 1) rem done s := ⟨hTq, hTe, hTn⟩
      cases hna : ownAlloc esc o with
      | none =>
        have hone : oneA C run esc ops.toList o tm s = .ok x s := by
          rw [oneA_congr (hal q.tm hA)]; exact quietO_one hq hna hx
        obtain ⟨s1, g1, g2, g3, g4⟩ := (oneA_near N1 hsh (hoff q.tm hA hP) (hdst hna)).1 x _ hone
        refine oneA_wp K hrun I hn hops ho (by rw [g1]; simp) (fun x' s' hx' => ?_) (fun v s' hv => by rw [g1] at hv; cases hv)
        rw [g1] at hx'
        cases hx'
        refine hnext (N + 1) rem done s x _ hT0 hR (fun y hy => ⟨.inl (hY1 y hy).1, (hY1 y hy).2⟩) hlat (fun y hy hny _ => hY4 y hy hny) hkeep hxF g2 (g3 tm).df (fun s hs => ?_) (fun s hs => ?_) (fun d hd => rfl)
        · rw [hUn hna] at hs
          exact (g3 tm).loc s hs
        · rw [hUn hna] at hs
          rw [(g4 s hs).2]; exact hl2 s hs
      | some de =>
        obtain ⟨d, te⟩ := de
        obtain ⟨hg, hop, hd, hme⟩ := ownAlloc_s hna
        obtain ⟨z, hz, hzc⟩ := hl3 i o d te hol hna hnY
        have hUd : Unlaid esc ops.toList listed d := ⟨i, o, te, hol, hna, hnY⟩
        have hloc : sY.lc.get d = none := hl2 d hUd
        have hxl : x = .l d 0 := by
          unfold quietO at hx
          rw [hna] at hx
          simp only [Option.some.injEq] at hx
          exact hx.symm
        subst hxl
        have hone : oneA C run esc ops.toList o tm sY = .ok (.l d 0) ⟨Tr.put (d + 1) sY.lc d (some (.cells z)), sY.df, sY.h⟩ := by
          have hw : wantA ops.toList o tm = some true := by unfold wantA; rw [hg]
          unfold oneA
          rw [hw]
          simp only [effA]
          have : opA C esc o (sY.fs tm) sY.h = .ok (.l d 0) ((sY.fs tm).setL d (.cells z)) sY.h := by
            have e1 : opA C esc o (sY.fs tm) sY.h = allocA C (memT esc o.dst) o.dst te (sY.fs tm) sY.h := by
              unfold opA; rw [hop]
            rw [e1, hd, hme]
            have hloc' : (sY.fs tm).loc d = none := hloc
            unfold allocA
            rw [hz]
            simp only [newA, Bool.false_eq_true, if_false, hloc']
          rw [this]
          rfl
        refine oneA_wp K hrun I hn hops ho (by rw [hone]; simp) (fun x' s' hx' => ?_) (fun v s' hv => by rw [hone] at hv; cases hv)
        rw [hone] at hx'
        cases hx'
        refine hnext (N + 1) rem done s (.l d 0) _ hT0 hR (fun y hy => ⟨.inl (hY1 y hy).1, (hY1 y hy).2⟩) hlat (fun y hy hny _ => hY4 y hy hny) hkeep hxF hsh hsd (fun s hs => ?_) (fun s hs => ?_) (fun d hd => rfl)
        · simp only
          rw [Tr.get_put]
          split
          · rename_i e; subst e; exact hzc.symm
          · rename_i hne
            refine hl1 s fun ⟨q, oq, te', h1, h2, h3⟩ => hs ⟨q, oq, te', h1, h2, ?_⟩
            rw [Yset hun]
            rintro (h | rfl)
            · exact h3 h
            · rw [hol] at h1; cases h1
              rw [hna] at h2; cases h2
              exact hne rfl
        · obtain ⟨q, oq, te', h1, h2, h3⟩ := hs
          rw [Yset hun] at h3
          simp only
          rw [Tr.get_put, if_neg]
          · exact hl2 s ⟨q, oq, te', h1, h2, fun h => h3 (.inl h)⟩
          · rintro rfl
            exact h3 (.inr (F.nodup q i oq o d h1 hol (ownAlloc_s h2).2.2.1 hd))
    | false =>
      have hna : ownAlloc esc o = none := by
        cases h : ownAlloc esc o with
        | none => rfl
        | some x => unfold calmA at hq; rw [h] at hq; cases hq
      rcases hEv.2 hq with ⟨y, hye, hyi⟩ | ⟨v, s2, hpn⟩
      · have hS := (Sh.e y hye).1
        have hyo : y.1.o = o := by
          have h1 := hS.at_
          rw [hyi, hol] at h1
          exact (Option.some.inj h1).symm
        have hyp : y.1.p = MS ops.toList i := by rw [hS.mask, hyi]
        have hA : TmAt ops.toList tm0 tmF i y.1.tm := by rw [← hyi]; exact hS.tms
        have hP : PlOk ops.toList (MS ops.toList i) y.1.tm o := by rw [← hyi, ← hyo]; exact hS.pl
        have hyr : y.1 ∈ rem := hY4 y hye (by rw [hyi]; exact hnY)
        obtain ⟨x, s', hone0, hxd, hT'⟩ := hTn y.1 hyr (fun z hz hb => hY2 z hz (hpre _ (by rw [← hyp]; exact hb)))
        rw [hyo] at hone0 hxd
        rw [hyi] at hT'
        have hone : oneA C run esc ops.toList o tm s = .ok x s' := by rw [oneA_congr (hal y.1.tm hA)]; exact hone0
        obtain ⟨s1, g1, g2, g3, g4⟩ := (oneA_near N1 hsh (hoff y.1.tm hA hP) (hdst hna)).1 x _ hone
        refine oneA_wp K hrun I hn hops ho (by rw [g1]; simp) (fun x' s'' hx' => ?_) (fun v s'' hv => by rw [g1] at hv; cases hv)
        rw [g1] at hx'
        cases hx'
        have hxF : ∀ d, o.dst = some d → tmpT tmF d = x := fun d hd => by
          rw [hxd d hd]
          exact hS.out d (by rw [hyo]; exact hd)
        refine hnext N (dropE i rem) (y.1 :: done) s' x _ hT' (fun z hz => hR z (dropE_mem.1 hz).1) (fun z hz => ?_) (fun z hz => ⟨hY2 z (dropE_mem.1 hz).1, (dropE_mem.1 hz).2⟩) (fun z hz hnz hne => dropE_mem.2 ⟨hY4 z hz hnz, hne⟩) (fun z hz he => ?_) hxF g2 (g3 tm).df (fun t ht => ?_) (fun t ht => ?_) (fun d hd => (g4 d hd).1)
        · rcases List.mem_cons.1 hz with rfl | hz
          · exact ⟨.inr hyi, hS.mask⟩
          · exact ⟨.inl (hY1 z hz).1, (hY1 z hz).2⟩
        · -- the panic's own operation is none of the effects
          have hPn := Sh.pan
          rw [hz] at hPn
          obtain ⟨j, v, s3⟩ := z
          obtain ⟨o', _, gp1, _, _, _, gp5, _⟩ := hPn
          simp only at he
          subst he
          have h1 := gp5 y hye
          rw [hyi] at h1
          have := F.lt j o' j gp1 h1
          omega
        · rw [hUn hna] at ht
          exact (g3 tm).loc t ht
        · rw [hUn hna] at ht
          rw [(g4 t ht).2]; exact hl2 t ht
      · have hPn := Sh.pan
        rw [hpn] at hPn
        obtain ⟨o', tmi, g1, _, hA, hP, g3, g4⟩ := hPn
        rw [hol] at g1; cases g1
        have hrem : rem = [] := by
          cases rem with
          | nil => rfl
          | cons c l =>
            obtain ⟨z, hz⟩ := hR c (by simp)
            exact absurd (hpre _ (g3 _ hz)) (hY2 c (by simp))
        have hsF : s = sF := hTe hrem
        subst hsF
        have hone : oneA C run esc ops.toList o tm s = .pan v s2 := by rw [oneA_congr (hal tmi hA)]; exact g4
        obtain ⟨s1, k1, k2, k3, k4⟩ := (oneA_near N1 hsh (hoff tmi hA hP) (hdst hna)).2 v _ hone
        refine oneA_wp K hrun I hn hops ho (by rw [k1]; simp) (fun x' s' hx' => by rw [k1] at hx'; cases hx') (fun v' s' hv m1 L1 a1 w1 ch hch I1 hn1 => ?_)
        rw [k1] at hv
        cases hv
        rw [hpn] at hres
        cases hres
        refine ⟨m1, L1, hch, ?_, hn1⟩
        rw [← k2]
        have hLays : ∀ t, Unlaid esc ops.toList listed t → Lays esc ops.toList t := by
          rintro t ⟨q, oq, te, h1, h2, _⟩
          exact ⟨oq, List.mem_of_getElem? h1, te, h2⟩
        refine I1.part ⟨(k3 tm).df.symm, fun t o' hl => ?_, fun t => ?_⟩ (HPart.refl _)
        · have hl : (unlayA esc ops.toList s2.lc).get t = some o' := hl
          by_cases hL : Lays esc ops.toList t
          · rw [(unlayA_s t _ _).1 hL] at hl; cases hl
          · rw [(unlayA_s t _ _).2 hL] at hl
            have := (k3 tm).loc t (fun hU => hL (hLays t hU))
            have h2 : s1.lc.get t = s2.lc.get t := this
            show s1.lc.get t = some o'
            rw [h2]; exact hl
        · by_cases h : ∃ o ∈ ops.toList, o.dst = some t
          · exact .inl ((forgetT_in t ops.toList tm0).1 h)
          · have h' : ∀ o ∈ ops.toList, o.dst ≠ some t := fun o h1 h2 => h ⟨o, h1, h2⟩
            have e1 : tmpT tm t = tmpT tm0 t := ht2 t (fun j oj hj _ => h' oj (List.mem_of_getElem? hj))
            refine .inr ⟨?_, fun d hd hl => ?_⟩
            · show tmpT (forgetT tm0 ops.toList) t = tmpT tm t
              rw [(forgetT_in t ops.toList tm0).2 h', e1]
            · have hd' : ∃ x, tmpT tm0 t = .l d x ∨ tmpT tm0 t = .ls d x := by rw [← e1]; exact hd
              have hL := hfree t d hd'
              show (unlayA esc ops.toList s2.lc).get d ≠ none
              rw [(unlayA_s d _ _).2 hL]
              have h2 : s1.lc.get d = s2.lc.get d := (k3 tm).loc d (fun hU => hL (hLays d hU))
              rw [← h2]; exact hl

/-- THE REGIONS WHOSE ORDER IS DRAWN. -/
theorem drawA_s (K : COk C P) (hrun : RunS C P N0 run) (n : Nat) (id : Nat) (ops : Array Oper) (m0 : Km) (h0 : H) (w0 : World) (m : Km) (fs : FS) (h : H) (a : Act) (w : World) (L : Nat → Nat) (e : Ex) (fs' : FS) (h' : H)
    (hops : ops.toList.all (OpDst n) = true) (I : Inv C N0 m0 h0 w0 m fs h a w L) (hn : a.tmps.size = n) (he : drawA C run esc ops.toList fs h = .go e fs' h') :
    (Code.region id ops true).wp P (Post C N0 m0 h0 w0 n e fs' h') a w := by
  refine wp_region_any K.mixed ?_
  unfold drawA at he
  split at he
  · cases he
  · rename_i hform
    split at he
    · cases he
    · rename_i lc0 hpre
      split at he
      · cases he
      · rename_i tmF sF qs es pan hpass
        split at he
        · cases he
        · rename_i hsame
          have F := form_of hform
          obtain ⟨p1, p2⟩ := preA_s _ _ _ hpre
          have Sh : Shown C run esc ops.toList fs.tm ⟨lc0, fs.df, h⟩ 0 fs.tm ⟨lc0, fs.df, h⟩ [] [] none :=
            ⟨rfl, trivial, (fun y hy => by cases hy), fun y hy => by simp at hy, fun y hy => by simp at hy, List.Pairwise.nil, fun i o hi => by omega, fun _ _ => rfl⟩
          have ShF := passA_s F ops.toList _ 0 _ _ _ _ _ _ _ _ _ _ (by simp) (by simp) Sh hpass
          have hTree := pathB_s _ _ _ (fpath_of es sF [] ShF.eff rfl) (by
            rw [revA_eq, List.append_nil, List.pairwise_reverse]
            exact ShF.desc.imp fun h => by omega) hsame
          have hno : ∀ i, ¬ (Array.replicate ops.size false).getD i false = true := by
            intro i
            by_cases hi : i < ops.size <;> simp [hi]
          have hUn : ∀ s, Unlaid esc ops.toList (Array.replicate ops.size false) s ↔ Lays esc ops.toList s := by
            intro s
            constructor
            · rintro ⟨q, oq, te, h1, h2, _⟩
              exact ⟨oq, List.mem_of_getElem? h1, te, h2⟩
            · rintro ⟨o, ho, te, h2⟩
              obtain ⟨q, hq⟩ := List.getElem?_of_mem ho
              exact ⟨q, o, te, hq, h2, hno q⟩
          have hfree : ∀ t s, (∃ x, tmpT fs.tm t = .l s x ∨ tmpT fs.tm t = .ls s x) → ¬ Lays esc ops.toList s := by
            rintro t s ⟨x, hx⟩ ⟨o, ho, te, hna⟩
            obtain ⟨z, _, _, hnone⟩ := p1 o ho s te hna
            have := I.fr.tmp t
            have e : fs.tmp t = tmpT fs.tm t := rfl
            rw [e] at this
            rcases hx with hx | hx
            · rw [hx] at this; exact this.1 hnone
            · rw [hx] at this; exact this.1 hnone
          have hmem : ∀ y, y ∈ pes (revA es []) ↔ ∃ z, (y, z) ∈ es := by
            intro y
            rw [pes_mem]
            constructor
            · rintro ⟨z, hz⟩; exact ⟨z, by rw [revA_eq] at hz; simpa using hz⟩
            · rintro ⟨z, hz⟩; exact ⟨z, by rw [revA_eq]; simpa using hz⟩
          refine draw_any K hrun hops F ShF hfree he ops.size _ _ _ [] _ fs.tm ⟨fs.lc, fs.df, h⟩ m a _ L (by simp) (by simp) hTree (fun y hy => (hmem y).1 hy) (fun y hy => by simp at hy) (fun y _ => hno y.i) (fun y hy _ => (hmem y.1).2 ⟨y.2, hy⟩) (fun y _ => hno y.1) (fun q r hq => absurd hq (hno q))
            (fun i o d _ hY => absurd hY (hno i)) (fun _ _ => rfl) rfl rfl (fun s hs => ?_) (fun s hs => ?_) (fun q o d te hq hna _ => ?_) (I.drawn1 _) hn
          · rw [hUn] at hs
            exact (p2 s hs).symm
          · rw [hUn] at hs
            obtain ⟨o, ho, te, hna⟩ := hs
            obtain ⟨z, _, _, hnone⟩ := p1 o ho s te hna
            exact hnone
          · obtain ⟨z, z1, z2, _⟩ := p1 o (List.mem_of_getElem? hq) d te hna
            exact ⟨z, z1, z2⟩
end
end Go.S2

namespace Go.S2

theorem Tr.get_mapT (f : TV → TV) : ∀ (t : Tr TV) (k : Nat), (Tr.mapT f t).get k = (t.get k).map f := by
  intro t
  induction t with
  | nil => intro k; simp [Tr.mapT, Tr.get]
  | node l v r ihl ihr =>
    intro k
    simp only [Tr.mapT, Tr.get]
    split
    · cases v <;> rfl
    · split
      · exact ihl _
      · exact ihr _

section
variable {C : Ctx} {P : Program} {N0 : Nat} {m0 : Km} {h0 : H} {w0 : World} {m : Km} {fs : FS} {h : H} {a : Act} {w : World} {L : Nat → Nat}

/-- A variable of the frame's own becomes one of the heap. -/
theorem Inv.promote (I : Inv C N0 m0 h0 w0 m fs h a w L) {d : Tmp} {e : TypeId} {cs : List V} (hl : fs.lc.get d = some (.cells cs)) :
    ∃ m', Inv C N0 m0 h0 w0 m' { tm := Tr.mapT (promoV d h.next) fs.tm, lc := Tr.put (d + 1) fs.lc d none, df := fs.df } (h.new (.cells cs e false 1)) a w L := by
  have hlo : fs.loc d = some (.cells cs) := hl
  obtain ⟨⟨arr, e0, hb, hcs⟩, hS, hlt, hnl⟩ := I.fr.loc d _ hlo
  have hnone : m h.next = none := I.hr.fresh h.next (Nat.le_refl _)
  have hle := setM_le (x := (L d, 0, arr.size, tsize C e)) hnone
  have hnn : h.get h.next = none := by
    cases hh : h.get h.next with
    | none => rfl
    | some oo => obtain ⟨c, b, n, z, hm, _⟩ := I.hr.obj _ _ hh; rw [hnone] at hm; cases hm
  have hset : ∀ j x, j ≠ h.next → (setM m h.next (L d, 0, arr.size, tsize C e) j = some x ↔ m j = some x) := fun j x hj => by simp [setM, hj]
  have hN0 : N0 ≤ L d := Nat.le_trans I.base0 hS
  have hlen : cs.length = arr.size := by rw [hcs.length]; simp
  have hlc : ∀ s, (Tr.put (d + 1) fs.lc d none).get s = if d = s then none else fs.lc.get s := fun s => Tr.get_put _ _ _ _
  have hLive : ∀ c, Live (setM m h.next (L d, 0, arr.size, tsize C e)) (h.new (.cells cs e false 1)) c → c = L d ∨ Live m h c := by
    rintro c ⟨i, o, b, n, z, h1, h2, h3⟩
    rw [H.get_new] at h1
    by_cases hi : h.next = i
    · subst hi
      simp [setM] at h3
      exact .inl h3.1.symm
    · rw [if_neg hi] at h1
      exact .inr ⟨i, o, b, n, z, h1, h2, (hset i _ (Ne.symm hi)).1 h3⟩
  refine ⟨setM m h.next (L d, 0, arr.size, tsize C e), ?_, ?_, ?_, I.base0⟩
  · refine ⟨fun j oj hj => ?_, fun j oj c' b' n' z' hj hrj hmj => ?_, fun p q op oq c' b1 n1 z1 b2 n2 z2 hp hq hrp hmp hmq => ?_, fun j hj => ?_, I.hr.base, fun g hg => ?_, ?_, fun j oj c' b' n' z' hj hrj hmj => ?_⟩
    · rw [H.get_new] at hj
      by_cases hi : h.next = j
      · subst hi
        simp only [if_true, Option.some.injEq] at hj
        subst hj
        refine ⟨L d, 0, arr.size, tsize C e, by simp [setM], arr, (0, 0), ⟨e0, hb, .inr (.inl rfl)⟩, by omega, by omega, rfl, ?_, fun off _ _ => by simp, fun hz => by cases hz⟩
        rw [List.drop_zero, List.take_of_length_le (by simp; omega)]
        exact VRs.mono hle _ _ hcs
      · rw [if_neg hi] at hj
        obtain ⟨c', b', n', z', hmj, r⟩ := I.hr.obj j oj hj
        exact ⟨c', b', n', z', hle _ _ hmj, r.mono hle⟩
    · rw [H.get_new] at hj
      by_cases hi : h.next = j
      · subst hi
        simp [setM] at hmj
        obtain ⟨rfl, _⟩ := hmj
        exact ⟨hN0, hlt⟩
      · rw [if_neg hi] at hj
        exact I.hr.own j oj c' b' n' z' hj hrj ((hset j _ (Ne.symm hi)).1 hmj)
    · rw [H.get_new] at hp hq
      by_cases ep : h.next = p
      · by_cases eq : h.next = q
        · rw [← ep, ← eq]
        · rw [if_neg eq] at hq
          subst ep
          simp [setM] at hmp
          obtain ⟨rfl, _⟩ := hmp
          have hmq' := (hset q _ (Ne.symm eq)).1 hmq
          cases hro : oq.ro with
          | false => exact absurd ⟨q, oq, b2, n2, z2, hq, hro, hmq'⟩ hnl
          | true => have := I.hr.old q oq _ _ _ _ hq hro hmq'; omega
      · rw [if_neg ep] at hp
        by_cases eq : h.next = q
        · subst eq
          simp [setM] at hmq
          obtain ⟨rfl, _⟩ := hmq
          exact absurd ⟨p, op, b1, n1, z1, hp, hrp, (hset p _ (Ne.symm ep)).1 hmp⟩ hnl
        · rw [if_neg eq] at hq
          exact I.hr.apart p q op oq c' b1 n1 z1 b2 n2 z2 hp hq hrp ((hset p _ (Ne.symm ep)).1 hmp) ((hset q _ (Ne.symm eq)).1 hmq)
    · have h1 : h.next + 1 ≤ j := hj
      simp only [setM]
      rw [if_neg (by omega)]
      exact I.hr.fresh j (by omega)
    · obtain ⟨n', z', h1⟩ := I.hr.glob g hg
      exact ⟨n', z', hle _ _ h1⟩
    · have := I.hr.next; show gMax ≤ h.next + 1; omega
    · rw [H.get_new] at hj
      by_cases hi : h.next = j
      · subst hi
        simp only [if_true, Option.some.injEq] at hj
        subst hj
        simp [O.ro] at hrj
      · rw [if_neg hi] at hj
        exact I.hr.old j oj c' b' n' z' hj hrj ((hset j _ (Ne.symm hi)).1 hmj)
  · refine ⟨fun t => ?_, fun s o ho => ?_, fun s t hs ht hst => ?_, ?_⟩
    · have ht := I.fr.tmp t
      have e1 : (FS.mk (Tr.mapT (promoV d h.next) fs.tm) (Tr.put (d + 1) fs.lc d none) fs.df).tmp t = promoV d h.next (fs.tmp t) := by
        unfold FS.tmp
        simp only [Tr.get_mapT]
        cases fs.tm.get t <;> rfl
      rw [e1]
      generalize fs.tmp t = x at ht
      cases x with
      | undef => simp [promoV, TVR]
      | v x => simp only [promoV, TVR] at ht ⊢; exact VR.mono hle _ _ ht
      | l s o =>
        simp only [TVR] at ht
        obtain ⟨h1, h2⟩ := ht
        simp only [promoV]
        split
        · rename_i hb'
          have := Nat.eq_of_beq_eq_true hb'
          subst this
          simp only [TVR, VR]
          exact ⟨L s, 0, arr.size, tsize C e, by simp [setM], by rw [h2, Nat.zero_add]⟩
        · rename_i hb'
          have hne : d ≠ s := fun e => by subst e; simp at hb'
          simp only [TVR]
          refine ⟨?_, h2⟩
          show (Tr.put (d + 1) fs.lc d none).get s ≠ none
          rw [hlc, if_neg hne]
          exact h1
      | ls s n =>
        simp only [TVR] at ht
        obtain ⟨h1, h2⟩ := ht
        simp only [promoV]
        split
        · simp [TVR]
        · rename_i hb'
          have hne : d ≠ s := fun e => by subst e; simp at hb'
          simp only [TVR]
          refine ⟨?_, h2⟩
          show (Tr.put (d + 1) fs.lc d none).get s ≠ none
          rw [hlc, if_neg hne]
          exact h1
    · have ho' : (Tr.put (d + 1) fs.lc d none).get s = some o := ho
      rw [hlc] at ho'
      split at ho'
      · cases ho'
      · rename_i hne
        have hos : fs.loc s = some o := ho'
        obtain ⟨g1, g2, g3, g4⟩ := I.fr.loc s o hos
        refine ⟨?_, g2, g3, fun hL => ?_⟩
        · cases o with
          | cells cs' => obtain ⟨arr', e', q1, q2⟩ := g1; exact ⟨arr', e', q1, VRs.mono hle _ _ q2⟩
          | siter s pos => exact g1
          | mnil => exact g1
          | miter r k n => obtain ⟨cm, b, nn, z, q1, q2⟩ := g1; exact ⟨cm, b, nn, z, hle _ _ q1, q2⟩
        · rcases hLive _ hL with h1 | h1
          · have := I.fr.inj s d (by rw [hos]; simp) (by rw [hlo]; simp) h1
            exact hne this.symm
          · exact g4 h1
    · have hs' : (Tr.put (d + 1) fs.lc d none).get s ≠ none := hs
      have ht' : (Tr.put (d + 1) fs.lc d none).get t ≠ none := ht
      rw [hlc] at hs' ht'
      split at hs'
      · exact absurd rfl hs'
      · split at ht'
        · exact absurd rfl ht'
        · exact I.fr.inj s t hs' ht' hst
    · have := I.fr.df
      revert this
      show DRs m fs.df a.defers → DRs _ fs.df a.defers
      generalize fs.df = ds
      generalize a.defers = xs
      intro h
      induction ds generalizing xs with
      | nil => cases xs <;> simp [DRs] at h ⊢
      | cons y ds ih =>
        cases xs with
        | nil => simp [DRs] at h
        | cons x xs =>
          simp only [DRs] at h ⊢
          exact ⟨h.1.mono hle, ih xs h.2⟩
  · refine ⟨I.kept.os, I.kept.tape, I.kept.output, I.kept.size, Km.le_trans I.kept.le hle, I.kept.old, fun c hc hL => ?_⟩
    rcases hLive _ hL with h1 | h1
    · omega
    · exact I.kept.live c hc h1

theorem promo1_s {d : Tmp} {e : TypeId} {fs' : FS} {h' : H} {ex : Ex} (I : Inv C N0 m0 h0 w0 m fs h a w L) (hp : promo1 d e fs h = .go ex fs' h') : ex = .norm ∧ ∃ m', Inv C N0 m0 h0 w0 m' fs' h' a w L := by
  unfold promo1 at hp
  split at hp
  · rename_i cs hl
    cases hp
    exact ⟨rfl, I.promote hl⟩
  · cases hp

theorem promoA_s : ∀ (ps : List (Tmp × TypeId)) {m : Km} {fs : FS} {h : H} {fs' : FS} {h' : H} {ex : Ex}, Inv C N0 m0 h0 w0 m fs h a w L → promoA ps fs h = .go ex fs' h' → ex = .norm ∧ ∃ m', Inv C N0 m0 h0 w0 m' fs' h' a w L
  | [], m, fs, h, fs', h', ex, I, hp => by
    simp only [promoA] at hp
    cases hp
    exact ⟨rfl, m, I⟩
  | (d, e) :: ps, m, fs, h, fs', h', ex, I, hp => by
    simp only [promoA] at hp
    split at hp
    · rename_i ex1 fs1 h1 e1
      obtain ⟨_, m1, I1⟩ := promo1_s I e1
      exact promoA_s ps I1 hp
    · cases hp
end

section
variable {C : Ctx} {P : Program} {N0 : Nat} {run : Run} {esc : List Tmp}
/-- THE REGIONS WHOSE ORDER IS DRAWN, with variables that escape. -/
theorem drawP_s (K : COk C P) (hrun : RunS C P N0 run) (n : Nat) : DrawS C P N0 run n esc := by
  intro id ops m0 h0 w0 m fs h a w L e fs' h' hops I hn he
  unfold drawP at he
  split at he
  · exact drawA_s K hrun n id ops m0 h0 w0 m fs h a w L e fs' h' hops I hn he
  · exact drawA_s K hrun n id ops m0 h0 w0 m fs h a w L e fs' h' hops I hn he
  · split at he
    · rename_i fs1 h1 e1
      refine wp_mono (drawA_s K hrun n id ops m0 h0 w0 m fs h a w L .norm fs1 h1 hops I hn e1) fun ex a' w' ⟨m', L', hx, I', hn'⟩ => ?_
      obtain ⟨rfl, m2, I2⟩ := promoA_s _ I' he
      refine ⟨m2, L', ?_, I2, hn'⟩
      cases ex <;> simp_all [ExR]
    · rename_i v fs1 h1 e1
      cases he
      exact drawA_s K hrun n id ops m0 h0 w0 m fs h a w L _ _ _ hops I hn e1
    · cases he
end
end Go.S2

namespace Go.S2

/-! ### Calls whose outcome is known: told once in a heap of their own, laid into whatever heap -/

mutual
/-- The blocks from gMax on are 'd' and so on. -/
def V.shift (d : Nat) : V → V
  | .ptr (some (i, o)) => match Nat.blt i gMax with
    | true => .ptr (some (i, o))
    | false => .ptr (some (i - gMax + d, o))
  | .slice (some (i, o)) l c e => match Nat.blt i gMax with
    | true => .slice (some (i, o)) l c e
    | false => .slice (some (i - gMax + d, o)) l c e
  | .map (some i) => match Nat.blt i gMax with
    | true => .map (some i)
    | false => .map (some (i - gMax + d))
  | .func f a b => .func f (V.shifts d a) (V.shifts d b)
  | .iface t v => .iface t (V.shift d v)
  | .agg cs => .agg (V.shifts d cs)
  | .tuple cs => .tuple (V.shifts d cs)
  | v => v
def V.shifts (d : Nat) : List V → List V
  | [] => []
  | v :: vs => V.shift d v :: V.shifts d vs
end

def shiftE (d : Nat) : List (V × V) → List (V × V)
  | [] => []
  | (k, x) :: es => (V.shift d k, V.shift d x) :: shiftE d es

def O.shift (d : Nat) : O → O
  | .cells cs e ro fz => .cells (V.shifts d cs) e ro fz
  | .map es => .map (shiftE d es)
  | .pm es => .pm (shiftE d es)
  | .aux k => .aux k

/-- These blocks behind the heap's. -/
def pushA (d : Nat) : List (Option O) → H → H
  | [], h => h
  | none :: r, h => pushA d r { next := h.next + 1, ver := h.ver + 1, tr := h.tr }
  | some o :: r, h => pushA d r (h.new (O.shift d o))

/-- Values that name no block. -/
def V.flat : V → Bool
  | .bool _ => true
  | .int _ _ => true
  | .str _ => true
  | .ptr none => true
  | .slice none _ _ _ => true
  | .map none => true
  | .nilFunc => true
  | .nilIface => true
  | _ => false

def V.flats : List V → Bool
  | [] => true
  | v :: vs => match v.flat with
    | true => V.flats vs
    | false => false

structure Memo where
  args : List V
  need : List (Nat × O)
  v : V
  nb : List (Option O)
  deriving Inhabited

def smallT : List (Nat × O) → Tr O
  | [] => .nil
  | (i, o) :: r => Tr.put (i + 1) (smallT r) i (some o)

def smallH (need : List (Nat × O)) : H := { next := gMax, ver := 0, tr := smallT need }

/-- A package variable's block that nothing writes and that names no block. -/
def O.plain : O → Bool
  | .cells cs _ true _ => V.flats cs
  | _ => false

def needOk : List (Nat × O) → Bool
  | [] => true
  | (i, o) :: r => match (Nat.blt i gMax).and o.plain with
    | true => needOk r
    | false => false

def O.beq : O → O → Bool
  | .cells cs e ro fz, .cells cs' e' ro' fz' => (V.beqs cs cs').and ((Nat.beq e e').and ((ro == ro').and (Nat.beq fz fz')))
  | .map a, .map b => entsBeq a b
  | .pm a, .pm b => entsBeq a b
  | _, _ => false

/-- The heap holds these blocks. -/
def holdsA (h : H) : List (Nat × O) → Bool
  | [] => true
  | (i, o) :: r => match h.get i with
    | some o' => match O.beq o' o with
      | true => holdsA h r
      | false => false
    | none => false

def pickM (xs : List V) (h : H) : List Memo → Option Memo
  | [] => none
  | M :: r => match V.beqs xs M.args with
    | true => match holdsA h M.need with
      | true => some M
      | false => pickM xs h r
    | false => pickM xs h r

def memoA (C0 : Ctx) (fuel : Nat) (f : FuncId) (ms : List Memo) : Run → List V → H → Res := fun run xs h =>
  match pickM xs h ms with
  | some M => .ok (V.shift h.next M.v) (pushA h.next M.nb h)
  | none => match C0.F f with
    | some fn => bodyA C0 run fuel f fn xs h
    | none => .fail

def findM (f : FuncId) : List (FuncId × List Memo) → Option (List Memo)
  | [] => none
  | (g, ms) :: r => match Nat.beq g f with
    | true => some ms
    | false => findM f r

/-- The same, with calls that are known. -/
def Ctx.memo (C0 : Ctx) (fuel : Nat) (l : List (FuncId × List Memo)) : Ctx :=
  { T := C0.T, F := C0.F, esc := C0.esc, keep := C0.keep, ov := fun f => match findM f l with
    | some ms => some (memoA C0 fuel f ms)
    | none => C0.ov f }

/-- The blocks from 'i' on are these, and no more; some are not told. -/
def blocksA (h : H) : Nat → List (Option O) → Bool
  | i, [] => Nat.beq h.next i
  | i, none :: r => blocksA h (i + 1) r
  | i, some b :: r => match h.get i with
    | some a => match O.beq a b with
      | true => blocksA h (i + 1) r
      | false => false
    | none => false

/-- What is to be seen by running it. -/
def Memo.okA (C0 : Ctx) (k : Nat) (f : FuncId) (M : Memo) : Bool :=
  match needOk M.need with
  | false => false
  | true => match V.flats M.args with
    | false => false
    | true => match runA C0 k f M.args (smallH M.need) with
      | .ok v h => (V.beq v M.v).and (blocksA h gMax M.nb)
      | _ => false

/-! ### internal/bytealg.IndexByteString -/

def findByte (b : Nat) : List UInt8 → Nat → Int
  | [], _ => -1
  | c :: cs, i => match Nat.beq c.toNat b with
    | true => i
    | false => findByte b cs (i + 1)

def indexByteA : Run → List V → H → Res := fun _ xs h =>
  match xs with
  | [.str s, .int .u8 b] => match (decide (0 ≤ b)).and (decide (b < 256)) with
    | true => .ok (.int .i64 (findByte b.toNat s 0)) h
    | false => .fail
  | _ => .fail
end Go.S2

namespace Go.S2

def shN (d i : Nat) : Nat := if i < gMax then i else i - gMax + d

theorem blt_true {i j : Nat} (h : Nat.blt i j = true) : i < j := by simpa [Nat.blt_eq] using h
theorem blt_false {i j : Nat} (h : Nat.blt i j = false) : ¬ i < j := by intro e; rw [← Nat.blt_eq] at e; rw [h] at e; cases e

theorem shift_ptr (d i o : Nat) : V.shift d (.ptr (some (i, o))) = .ptr (some (shN d i, o)) := by
  simp only [V.shift, shN]
  split
  · rename_i h; rw [if_pos (blt_true h)]
  · rename_i h; rw [if_neg (blt_false h)]
theorem shift_slice (d i o l c : Nat) (e : Bool) : V.shift d (.slice (some (i, o)) l c e) = .slice (some (shN d i, o)) l c e := by
  simp only [V.shift, shN]
  split
  · rename_i h; rw [if_pos (blt_true h)]
  · rename_i h; rw [if_neg (blt_false h)]
theorem shift_map (d i : Nat) : V.shift d (.map (some i)) = .map (some (shN d i)) := by
  simp only [V.shift, shN]
  split
  · rename_i h; rw [if_pos (blt_true h)]
  · rename_i h; rw [if_neg (blt_false h)]

mutual
theorem VR.shift {m m' : Km} {d : Nat} (h : ∀ i x, m i = some x → m' (shN d i) = some x) : ∀ (v : V) (x : Value), VR m v x → VR m' (v.shift d) x
  | .bool b, x, hv => by simpa [V.shift, VR] using hv
  | .int k n, x, hv => by simpa [V.shift, VR] using hv
  | .str s, x, hv => by simpa [V.shift, VR] using hv
  | .ptr none, x, hv => by simpa [V.shift, VR] using hv
  | .ptr (some (i, o)), x, hv => by
    rw [shift_ptr]
    simp only [VR] at hv ⊢
    obtain ⟨c, b, n, z, h1, h2⟩ := hv
    exact ⟨c, b, n, z, h _ _ h1, h2⟩
  | .slice none l c e, x, hv => by simpa [V.shift, VR] using hv
  | .slice (some (i, o)) l c e, x, hv => by
    rw [shift_slice]
    simp only [VR] at hv ⊢
    obtain ⟨cc, b, n, z, cap', h1, h2⟩ := hv
    exact ⟨cc, b, n, z, cap', h _ _ h1, h2⟩
  | .map none, x, hv => by simpa [V.shift, VR] using hv
  | .map (some r), x, hv => by
    rw [shift_map]
    simp only [VR] at hv ⊢
    obtain ⟨c, b, n, z, h1, h2⟩ := hv
    exact ⟨c, b, n, z, h _ _ h1, h2⟩
  | .func f a b, x, hv => by
    simp only [V.shift, VR] at hv ⊢
    obtain ⟨p, q, h1, h2, h3⟩ := hv
    exact ⟨p, q, h1, VRs.shift h _ _ h2, VRs.shift h _ _ h3⟩
  | .nilFunc, x, hv => by simpa [V.shift, VR] using hv
  | .iface t v, x, hv => by
    simp only [V.shift, VR] at hv ⊢
    obtain ⟨y, h1, h2⟩ := hv
    exact ⟨y, h1, VR.shift h _ _ h2⟩
  | .nilIface, x, hv => by simpa [V.shift, VR] using hv
  | .any, x, hv => by simpa [V.shift, VR] using hv
  | .agg cs, x, hv => by
    simp only [V.shift, VR] at hv ⊢
    obtain ⟨a, h1, h2⟩ := hv
    exact ⟨a, h1, VRs.shift h _ _ h2⟩
  | .tuple cs, x, hv => by
    simp only [V.shift, VR] at hv ⊢
    obtain ⟨a, h1, h2⟩ := hv
    exact ⟨a, h1, VRs.shift h _ _ h2⟩
theorem VRs.shift {m m' : Km} {d : Nat} (h : ∀ i x, m i = some x → m' (shN d i) = some x) : ∀ (vs : List V) (xs : List Value), VRs m vs xs → VRs m' (V.shifts d vs) xs
  | [], [], _ => by simp [V.shifts, VRs]
  | v :: vs, x :: xs, hv => by
    simp only [V.shifts, VRs] at hv ⊢
    exact ⟨VR.shift h _ _ hv.1, VRs.shift h _ _ hv.2⟩
  | [], _ :: _, hv => by simp [VRs] at hv
  | _ :: _, [], hv => by simp [VRs] at hv
end

theorem shifts_length (d : Nat) : ∀ (l : List V), (V.shifts d l).length = l.length
  | [] => rfl
  | v :: l => by simp [V.shifts, shifts_length d l]

theorem EntsR.shift {m m' : Km} {d : Nat} (h : ∀ i x, m i = some x → m' (shN d i) = some x) : ∀ {es : List (V × V)} {l : List MapEntry}, EntsR m es l → EntsR m' (shiftE d es) l
  | [], [], _ => by simp [shiftE, EntsR]
  | (k, x) :: es, e :: l, hv => by
    simp only [shiftE, EntsR, EntR] at hv ⊢
    exact ⟨⟨VR.shift h _ _ hv.1.1, VR.shift h _ _ hv.1.2⟩, EntsR.shift h hv.2⟩
  | [], _ :: _, hv => by simp [EntsR] at hv
  | _ :: _, [], hv => by simp [EntsR] at hv

theorem sameKey_shift (d : Nat) (a b : V) : sameKey (a.shift d) (b.shift d) = sameKey a b := by
  have key : ∀ v : V, (∃ k n, v = .int k n) ∨ (∃ s, v = .str s) ∨ (∃ b, v = .bool b) ∨ (∀ w, sameKey v w = none ∧ sameKey w v = none ∧ sameKey (v.shift d) w = none ∧ sameKey w (v.shift d) = none) := by
    intro v
    have none4 : ∀ v : V, (∀ k n, v ≠ .int k n) → (∀ s, v ≠ .str s) → (∀ b, v ≠ .bool b) → ∀ w, sameKey v w = none ∧ sameKey w v = none := by
      intro v h1 h2 h3 w
      constructor
      · unfold sameKey; split <;> first | rfl | (exfalso; first | exact h1 _ _ rfl | exact h2 _ rfl | exact h3 _ rfl)
      · unfold sameKey; split <;> first | rfl | (exfalso; first | exact h1 _ _ rfl | exact h2 _ rfl | exact h3 _ rfl)
    have fin : ∀ v : V, (∀ k n, v ≠ .int k n) → (∀ s, v ≠ .str s) → (∀ b, v ≠ .bool b) → (∀ k n, v.shift d ≠ .int k n) → (∀ s, v.shift d ≠ .str s) → (∀ b, v.shift d ≠ .bool b) →
        ∀ w, sameKey v w = none ∧ sameKey w v = none ∧ sameKey (v.shift d) w = none ∧ sameKey w (v.shift d) = none := by
      intro v h1 h2 h3 h4 h5 h6 w
      exact ⟨(none4 v h1 h2 h3 w).1, (none4 v h1 h2 h3 w).2, (none4 _ h4 h5 h6 w).1, (none4 _ h4 h5 h6 w).2⟩
    cases v with
    | int k n => exact .inl ⟨k, n, rfl⟩
    | str s => exact .inr (.inl ⟨s, rfl⟩)
    | bool b => exact .inr (.inr (.inl ⟨b, rfl⟩))
    | ptr a =>
      refine .inr (.inr (.inr (fin _ (by simp) (by simp) (by simp) ?_ ?_ ?_))) <;> (rcases a with _ | ⟨i, o⟩ <;> first | (simp [shift_ptr]; done) | (simp [V.shift]; done))
    | slice a l c e =>
      refine .inr (.inr (.inr (fin _ (by simp) (by simp) (by simp) ?_ ?_ ?_))) <;> (rcases a with _ | ⟨i, o⟩ <;> first | (simp [shift_slice]; done) | (simp [V.shift]; done))
    | map a =>
      refine .inr (.inr (.inr (fin _ (by simp) (by simp) (by simp) ?_ ?_ ?_))) <;> (rcases a with _ | i <;> first | (simp [shift_map]; done) | (simp [V.shift]; done))
    | _ => exact .inr (.inr (.inr (fin _ (by simp) (by simp) (by simp) (by simp [V.shift]) (by simp [V.shift]) (by simp [V.shift]))))
  rcases key a with ⟨k, n, rfl⟩ | ⟨s, rfl⟩ | ⟨x, rfl⟩ | ha
  · rcases key b with ⟨k', n', rfl⟩ | ⟨s', rfl⟩ | ⟨x', rfl⟩ | hb
    · simp [V.shift]
    · simp [V.shift]
    · simp [V.shift]
    · rw [(hb _).2.1, (hb _).2.2.2]
  · rcases key b with ⟨k', n', rfl⟩ | ⟨s', rfl⟩ | ⟨x', rfl⟩ | hb
    · simp [V.shift]
    · simp [V.shift]
    · simp [V.shift]
    · rw [(hb _).2.1, (hb _).2.2.2]
  · rcases key b with ⟨k', n', rfl⟩ | ⟨s', rfl⟩ | ⟨x', rfl⟩ | hb
    · simp [V.shift]
    · simp [V.shift]
    · simp [V.shift]
    · rw [(hb _).2.1, (hb _).2.2.2]
  · rw [(ha _).1, (ha _).2.2.1]

theorem freshK_shift (d : Nat) (k : V) : ∀ (es : List (V × V)), freshK (k.shift d) (shiftE d es) = freshK k es
  | [] => rfl
  | (a, x) :: es => by simp only [shiftE, freshK, sameKey_shift]; rw [freshK_shift d k es]

theorem distinctK_shift (d : Nat) : ∀ (es : List (V × V)), distinctK (shiftE d es) = distinctK es
  | [] => rfl
  | (a, x) :: es => by simp only [shiftE, distinctK, freshK_shift]; rw [distinctK_shift d es]

theorem shift_ro (d : Nat) (o : O) : (o.shift d).ro = o.ro := by cases o <;> rfl

section
variable {C : Ctx} {P : Program} {N0 : Nat} {m0 : Km} {h0 : H} {w0 : World} {m : Km} {fs : FS} {h : H} {a : Act} {w : World} {L : Nat → Nat}

theorem OR'.shift {m m' : Km} {d : Nat} (hm : ∀ i x, m i = some x → m' (shN d i) = some x) {c b n z : Nat} {o : O} (r : OR' C m w c b n z o) : OR' C m' w c b n z (o.shift d) := by
  cases o with
  | cells cs e ro fz =>
    obtain ⟨arr, fr, h1, h2, h3, h4, h5, h6⟩ := r
    exact ⟨arr, fr, h1, h2, by rw [shifts_length]; exact h3, h4, by rw [shifts_length]; exact VRs.shift hm _ _ h5, h6⟩
  | map es =>
    obtain ⟨ents, clock, h1, h2, h3⟩ := r
    exact ⟨ents, clock, h1, EntsR.shift hm h2, h3⟩
  | pm es =>
    obtain ⟨ents, clock, h1, h2, l, h3, h4⟩ := r
    exact ⟨ents, clock, h1, by rw [distinctK_shift]; exact h2, l, h3, EntsR.shift hm h4⟩
  | aux k => exact r

theorem VR.flat {m m' : Km} {v : V} {x : Value} (hf : v.flat = true) (h : VR m v x) : VR m' v x := by
  cases v with
  | ptr a => cases a <;> simp [V.flat] at hf; simpa [VR] using h
  | slice a l c e => cases a <;> simp [V.flat] at hf; simpa [VR] using h
  | map a => cases a <;> simp [V.flat] at hf; simpa [VR] using h
  | bool b => simpa [VR] using h
  | int k n => simpa [VR] using h
  | str s => simpa [VR] using h
  | nilFunc => simpa [VR] using h
  | nilIface => simpa [VR] using h
  | _ => simp [V.flat] at hf

theorem VRs.flats {m m' : Km} : ∀ {vs : List V} {xs : List Value}, V.flats vs = true → VRs m vs xs → VRs m' vs xs
  | [], [], _, _ => by simp [VRs]
  | v :: vs, x :: xs, hf, h => by
    simp only [V.flats] at hf
    simp only [VRs] at h ⊢
    split at hf
    · rename_i hv; exact ⟨h.1.flat hv, VRs.flats hf h.2⟩
    · cases hf
  | [], _ :: _, _, h => by simp [VRs] at h
  | _ :: _, [], _, h => by simp [VRs] at h

theorem O.eq_of_beq {a b : O} (h : O.beq a b = true) : a = b := by
  cases a with
  | cells cs e ro fz =>
    cases b with
    | cells cs' e' ro' fz' =>
      simp only [O.beq, Bool.and_eq_true, beq_iff_eq] at h
      rw [V.eqs_of_beq _ _ h.1, Nat.eq_of_beq_eq_true h.2.1, h.2.2.1, Nat.eq_of_beq_eq_true h.2.2.2]
    | _ => simp [O.beq] at h
  | map es => cases b with
    | map es' => rw [entsBeq_eq h]
    | _ => simp [O.beq] at h
  | pm es => cases b with
    | pm es' => rw [entsBeq_eq h]
    | _ => simp [O.beq] at h
  | aux k => simp [O.beq] at h

theorem needOk_s : ∀ {l : List (Nat × O)}, needOk l = true → ∀ x ∈ l, x.1 < gMax ∧ x.2.plain = true
  | [], _, x, hx => by simp at hx
  | (i, o) :: r, h, x, hx => by
    simp only [needOk] at h
    split at h
    · rename_i e
      simp only [Bool.and_eq_true] at e
      rcases List.mem_cons.1 hx with rfl | hx
      · exact ⟨by simpa [Nat.blt_eq] using e.1, e.2⟩
      · exact needOk_s h x hx
    · cases h

theorem holdsA_s {h : H} : ∀ {l : List (Nat × O)}, holdsA h l = true → ∀ x ∈ l, h.get x.1 = some x.2
  | [], _, x, hx => by simp at hx
  | (i, o) :: r, hh, x, hx => by
    simp only [holdsA] at hh
    split at hh
    · rename_i o' ho
      split at hh
      · rename_i e
        rcases List.mem_cons.1 hx with rfl | hx
        · rw [ho, O.eq_of_beq e]
        · exact holdsA_s hh x hx
      · cases hh
    · cases hh

theorem smallT_s : ∀ (l : List (Nat × O)) (i : Nat) (o : O), (smallT l).get i = some o → (i, o) ∈ l
  | [], i, o, h => by simp [smallT, Tr.get] at h
  | (j, p) :: r, i, o, h => by
    simp only [smallT, Tr.get_put] at h
    split at h
    · rename_i e; subst e; cases h; simp
    · exact List.mem_cons_of_mem _ (smallT_s r i o h)

/-- The part of a relation that speaks of package variables. -/
def Km.small (m : Km) : Km := fun i => if i < gMax then m i else none

theorem small_HR (R : HR C N0 m h w) {need : List (Nat × O)} (hn : needOk need = true) (hh : ∀ x ∈ need, h.get x.1 = some x.2) : HR C N0 m.small (smallH need) w := by
  have hget : ∀ i o, (smallH need).get i = some o → i < gMax ∧ o.plain = true ∧ h.get i = some o := by
    intro i o ho
    have hm := smallT_s need i o ho
    obtain ⟨h1, h2⟩ := needOk_s hn _ hm
    exact ⟨h1, h2, hh _ hm⟩
  have hro : ∀ o : O, o.plain = true → o.ro = true := by
    intro o ho
    unfold O.plain at ho
    split at ho
    · rfl
    · cases ho
  refine ⟨fun i o ho => ?_, fun i o c b n z ho hr => ?_, fun i j oi oj c b n z b' n' z' hi hj hr => ?_, fun i hi => ?_, R.base, fun g hg => ?_, Nat.le_refl _, fun i o c b n z ho _ hm => ?_⟩
  · obtain ⟨h1, h2, h3⟩ := hget i o ho
    obtain ⟨c, b, n, z, h4, h5⟩ := R.obj i o h3
    refine ⟨c, b, n, z, by simp [Km.small, h1, h4], ?_⟩
    unfold O.plain at h2
    split at h2
    · obtain ⟨arr, fr, q1, q2, q3, q4, q5, q6⟩ := h5
      exact ⟨arr, fr, q1, q2, q3, q4, VRs.flats h2 q5, q6⟩
    · cases h2
  · obtain ⟨_, h2, _⟩ := hget i o ho
    rw [hro o h2] at hr; cases hr
  · obtain ⟨_, h2, _⟩ := hget i oi hi
    rw [hro oi h2] at hr; cases hr
  · have : ¬ i < gMax := by simp only [smallH] at hi; omega
    simp [Km.small, this]
  · obtain ⟨n, z, h1⟩ := R.glob g hg
    exact ⟨n, z, by simp [Km.small, hg, h1]⟩
  · obtain ⟨h1, h2, h3⟩ := hget i o ho
    simp only [Km.small, if_pos h1] at hm
    exact R.old i o c b n z h3 (hro o h2) hm

theorem small_notLive {need : List (Nat × O)} (hn : needOk need = true) {m : Km} {c : Nat} : ¬ Live m (smallH need) c := by
  rintro ⟨i, o, b, n, z, h1, h2, h3⟩
  have := (needOk_s hn _ (smallT_s need i o h1)).2
  unfold O.plain at this
  split at this
  · rename_i heq
    simp only at heq
    rw [heq] at h2
    cases h2
  · cases this

theorem pushA_next (d : Nat) : ∀ (l : List (Option O)) (h : H), (pushA d l h).next = h.next + l.length
  | [], h => by simp [pushA]
  | none :: r, h => by simp [pushA, pushA_next d r]; omega
  | some o :: r, h => by simp [pushA, pushA_next d r, H.new]; omega

theorem pushA_get (d : Nat) : ∀ (l : List (Option O)) (h : H) (i : Nat), (∀ j, h.next ≤ j → h.get j = none) →
    (pushA d l h).get i = if i < h.next then h.get i else ((l[i - h.next]?).getD none).map (O.shift d)
  | [], h, i, hf => by
    simp only [pushA]
    split
    · rfl
    · rename_i hi; rw [hf i (by omega)]; simp
  | none :: r, h, i, hf => by
    simp only [pushA]
    rw [pushA_get d r { next := h.next + 1, ver := h.ver + 1, tr := h.tr } i (fun j hj => hf j (by simp only at hj; omega))]
    simp only
    have hg : H.get { next := h.next + 1, ver := h.ver + 1, tr := h.tr } i = h.get i := rfl
    by_cases h1 : i < h.next
    · rw [if_pos (by omega), if_pos h1, hg]
    · by_cases h2 : i = h.next
      · subst h2
        rw [if_pos (by omega), if_neg (by omega), hg, hf _ (Nat.le_refl _)]
        simp
      · rw [if_neg (by omega), if_neg h1]
        rw [show i - h.next = (i - (h.next + 1)) + 1 by omega]
        simp
  | some o :: r, h, i, hf => by
    simp only [pushA]
    have hn : (h.new (o.shift d)).next = h.next + 1 := rfl
    rw [pushA_get d r _ i (fun j hj => by
      rw [hn] at hj
      rw [H.get_new, if_neg (by omega)]
      exact hf j (by omega)), hn, H.get_new]
    by_cases h1 : i < h.next
    · rw [if_pos (by omega), if_pos h1, if_neg (by omega)]
    · by_cases h2 : i = h.next
      · subst h2
        rw [if_pos (Nat.lt_succ_self _), if_neg (Nat.lt_irrefl _), if_pos rfl]
        simp
      · rw [if_neg (by omega), if_neg h1]
        rw [show i - h.next = (i - (h.next + 1)) + 1 by omega]
        simp

theorem blocksA_s {h : H} : ∀ (l : List (Option O)) (i : Nat), blocksA h i l = true → h.next = i + l.length ∧ ∀ j o, l[j]? = some (some o) → h.get (i + j) = some o
  | [], i, e => by
    simp only [blocksA] at e
    exact ⟨by simpa using Nat.eq_of_beq_eq_true e, fun j o hj => by simp at hj⟩
  | none :: r, i, e => by
    simp only [blocksA] at e
    obtain ⟨h1, h2⟩ := blocksA_s r (i + 1) e
    refine ⟨by rw [h1]; simp; omega, fun j o hj => ?_⟩
    cases j with
    | zero => simp at hj
    | succ j =>
      have := h2 j o (by simpa using hj)
      rw [show i + (j + 1) = i + 1 + j by omega, this]
  | some b :: r, i, e => by
    simp only [blocksA] at e
    split at e
    · rename_i a ha
      split at e
      · rename_i hb
        obtain ⟨h1, h2⟩ := blocksA_s r (i + 1) e
        refine ⟨by rw [h1]; simp; omega, fun j o hj => ?_⟩
        cases j with
        | zero => simp at hj; subst hj; rw [Nat.add_zero, ha, O.eq_of_beq hb]
        | succ j =>
          have := h2 j o (by simpa using hj)
          rw [show i + (j + 1) = i + 1 + j by omega, this]
      · cases e
    · cases e

/-- A run in a small heap, seen from a greater one. -/
theorem small_back (R : HR C N0 m h w) {need : List (Nat × O)} (hn : needOk need = true) {m' : Km} {h1 : H} {w' : World} (R1 : HR C N0 m' h1 w') (k : Kept m.small (smallH need) w m' h1 w') {nb : List (Option O)}
    (hb : blocksA h1 gMax nb = true) :
    ∃ m2, HR C N0 m2 (pushA h.next nb h) w' ∧ Kept m h w m2 (pushA h.next nb h) w' ∧ ∀ (v : V) (x : Value), VR m' v x → VR m2 (v.shift h.next) x := by
  obtain ⟨hn1, hnb⟩ := blocksA_s nb gMax hb
  have hlen := pushA_next h.next nb h
  have hfree : ∀ j, h.next ≤ j → h.get j = none := by
    intro j hj
    cases hg : h.get j with
    | none => rfl
    | some o =>
      obtain ⟨c, b, n, z, hm, _⟩ := R.obj j o hg
      rw [R.fresh j hj] at hm; cases hm
  have hget := fun i => pushA_get h.next nb h i hfree
  have hgN : gMax ≤ h.next := R.next
  have hwsz : ∀ {c : Nat} {ob : Obj}, w.heap[c]? = some ob → c < w.heap.size := fun hc => (Array.getElem?_eq_some_iff.1 hc).1
  have hsame : ∀ c, c < w.heap.size → w'.heap[c]? = w.heap[c]? := fun c hc => k.old c hc (small_notLive hn)
  have hlive : ∀ c, c < w.heap.size → ¬ Live m' h1 c := fun c hc hl => small_notLive hn (k.live c hc hl)
  have hobj : ∀ {c b n z : Nat} {o : O} {w : World} {m : Km}, OR' C m w c b n z o → c < w.heap.size := by
    intro c b n z o w m r
    cases o with
    | cells cs e ro fz => obtain ⟨arr, fr, ⟨_, q, _⟩, _⟩ := r; exact (Array.getElem?_eq_some_iff.1 q).1
    | map es => obtain ⟨ents, clock, q, _⟩ := r; exact (Array.getElem?_eq_some_iff.1 q).1
    | pm es => obtain ⟨ents, clock, q, _⟩ := r; exact (Array.getElem?_eq_some_iff.1 q).1
    | aux k => exact Nat.lt_of_not_le fun hle => r.1 (Array.getElem?_eq_none_iff.2 hle)
  let m2 : Km := fun i => if i < h.next then m i else m' (i - h.next + gMax)
  have hm2a : ∀ i, i < h.next → m2 i = m i := fun i hi => by simp [m2, hi]
  have hm2b : ∀ i, h.next ≤ i → m2 i = m' (i - h.next + gMax) := fun i hi => by simp [m2, Nat.not_lt.2 hi]
  have hle : m.le m2 := by
    intro i x hx
    have : i < h.next := by
      rcases Nat.lt_or_ge i h.next with hi | hi
      · exact hi
      · rw [R.fresh i hi] at hx; cases hx
    rw [hm2a i this]; exact hx
  have hsh : ∀ i x, m' i = some x → m2 (shN h.next i) = some x := by
    intro i x hx
    unfold shN
    split
    · rename_i hi
      obtain ⟨n, z, hg⟩ := R.glob i hi
      have := k.le i (i, 0, n, z) (by simp [Km.small, hi, hg])
      rw [this] at hx
      cases hx
      rw [hm2a i (by omega)]; exact hg
    · rename_i hi
      rw [hm2b _ (by omega)]
      rw [show i - gMax + h.next - h.next + gMax = i by omega]; exact hx
  have hcase : ∀ i o, (pushA h.next nb h).get i = some o → (i < h.next ∧ h.get i = some o) ∨ (h.next ≤ i ∧ ∃ o1, h1.get (i - h.next + gMax) = some o1 ∧ o = o1.shift h.next) := by
    intro i o ho
    rw [hget] at ho
    split at ho
    · rename_i hi; exact .inl ⟨hi, ho⟩
    · rename_i hi
      right
      refine ⟨by omega, ?_⟩
      cases hl : nb[i - h.next]? with
      | none => rw [hl] at ho; cases ho
      | some q =>
        rw [hl] at ho
        simp only [Option.getD_some] at ho
        cases q with
        | none => cases ho
        | some o1 =>
          simp only [Option.map_some, Option.some.injEq] at ho
          exact ⟨o1, by rw [show i - h.next + gMax = gMax + (i - h.next) by omega]; exact hnb _ _ hl, ho.symm⟩
  have hold : ∀ i o c b n z, h.get i = some o → o.ro = false → m i = some (c, b, n, z) → c < w.heap.size := by
    intro i o c b n z ho hro hm
    exact (R.own i o c b n z ho hro hm).2
  refine ⟨m2, ⟨fun i o ho => ?_, fun i o c b n z ho hro hm => ?_, fun i j oi oj c b n z b' n' z' hi hj hro hmi hmj => ?_, fun i hi => ?_, Nat.le_trans R.base k.size, fun g hg => ?_, by rw [hlen]; omega, fun i o c b n z ho hro hm => ?_⟩,
    ⟨k.os, k.tape, k.output, k.size, hle, fun c hc _ => hsame c hc, fun c hc hl => ?_⟩, fun v x hv => VR.shift hsh v x hv⟩
  · rcases hcase i o ho with ⟨hi, ho⟩ | ⟨hi, o1, ho1, rfl⟩
    · obtain ⟨c, b, n, z, q1, q2⟩ := R.obj i o ho
      exact ⟨c, b, n, z, by rw [hm2a i hi]; exact q1, (q2.congr (hsame c (hobj q2))).mono hle⟩
    · obtain ⟨c, b, n, z, q1, q2⟩ := R1.obj _ o1 ho1
      exact ⟨c, b, n, z, by rw [hm2b i hi]; exact q1, q2.shift hsh⟩
  · rcases hcase i o ho with ⟨hi, ho⟩ | ⟨hi, o1, ho1, rfl⟩
    · rw [hm2a i hi] at hm
      obtain ⟨q1, q2⟩ := R.own i o c b n z ho hro hm
      exact ⟨q1, Nat.lt_of_lt_of_le q2 k.size⟩
    · rw [hm2b i hi] at hm
      rw [shift_ro] at hro
      exact R1.own _ o1 c b n z ho1 hro hm
  · rcases hcase i oi hi with ⟨hi', hoi⟩ | ⟨hi', o1, hoi, rfl⟩
    · rw [hm2a i hi'] at hmi
      rcases hcase j oj hj with ⟨hj', hoj⟩ | ⟨hj', o2, hoj, rfl⟩
      · rw [hm2a j hj'] at hmj
        exact R.apart i j oi oj c b n z b' n' z' hoi hoj hro hmi hmj
      · exfalso
        rw [hm2b j hj'] at hmj
        have hc := R.own i oi c b n z hoi hro hmi
        cases hr2 : o2.ro with
        | false => exact hlive c hc.2 ⟨_, o2, b', n', z', hoj, hr2, hmj⟩
        | true => have := R1.old _ o2 c b' n' z' hoj hr2 hmj; omega
    · rw [hm2b i hi'] at hmi
      rw [shift_ro] at hro
      have hl1 : Live m' h1 c := ⟨_, o1, b, n, z, hoi, hro, hmi⟩
      rcases hcase j oj hj with ⟨hj', hoj⟩ | ⟨hj', o2, hoj, rfl⟩
      · exfalso
        rw [hm2a j hj'] at hmj
        obtain ⟨c2, b2, n2, z2, q1, q2⟩ := R.obj j oj hoj
        rw [hmj] at q1; cases q1
        exact hlive c (hobj q2) hl1
      · rw [hm2b j hj'] at hmj
        have := R1.apart _ _ o1 o2 c b n z b' n' z' hoi hoj hro hmi hmj
        omega
  · rw [hlen] at hi
    rw [hm2b i (by omega)]
    exact R1.fresh _ (by rw [hn1]; omega)
  · rw [hm2a g (by omega)]; exact R.glob g hg
  · rcases hcase i o ho with ⟨hi, ho⟩ | ⟨hi, o1, ho1, rfl⟩
    · rw [hm2a i hi] at hm
      exact R.old i o c b n z ho hro hm
    · rw [hm2b i hi] at hm
      rw [shift_ro] at hro
      exact R1.old _ o1 c b n z ho1 hro hm
  · obtain ⟨i, o, b, n, z, q1, q2, q3⟩ := hl
    rcases hcase i o q1 with ⟨hi, ho⟩ | ⟨hi, o1, ho1, rfl⟩
    · rw [hm2a i hi] at q3
      exact ⟨i, o, b, n, z, ho, q2, q3⟩
    · rw [hm2b i hi] at q3
      rw [shift_ro] at q2
      exact absurd ⟨_, o1, b, n, z, ho1, q2, q3⟩ (hlive c hc)

theorem HR.cast {C' : Ctx} (hT : C'.T = C.T) (R : HR C N0 m h w) : HR C' N0 m h w := by
  refine ⟨fun i o ho => ?_, R.own, R.apart, R.fresh, R.base, R.glob, R.next, R.old⟩
  obtain ⟨c, b, n, z, h1, h2⟩ := R.obj i o ho
  refine ⟨c, b, n, z, h1, ?_⟩
  cases o with
  | cells cs e ro fz =>
    obtain ⟨arr, fr, q1, q2, q3, q4, q5⟩ := h2
    exact ⟨arr, fr, q1, q2, q3, by rw [q4]; simp [tsize, hT], q5⟩
  | map es => exact h2
  | pm es => exact h2
  | aux k => exact h2

theorem CallOk.mono {f : FuncId} {args : Array Value} {R R' : Ending → World → Prop} (h : CallOk P f args w R) (hr : ∀ e w, R e w → R' e w) : CallOk P f args w R' := by
  rcases h with ⟨h1, h2⟩ | ⟨v, w', h1, h2⟩
  · exact .inl ⟨h1, h2.mono hr⟩
  · exact .inr ⟨v, w', h1, hr _ _ h2⟩

theorem ResS.cast {C' : Ctx} (hT : C'.T = C.T) {f : FuncId} {args : Array Value} {r : Res} (h1 : ResS C P N0 f args m h w r) : ResS C' P N0 f args m h w r := by
  cases r with
  | fail => trivial
  | ok v h' => exact CallOk.mono h1 fun e w' ⟨m', u, q1, q2, q3, q4⟩ => ⟨m', u, q1, q2, q3.cast hT, q4⟩
  | pan v h' => exact CallOk.mono h1 fun e w' ⟨m', u, q1, q2, q3, q4⟩ => ⟨m', u, q1, q2, q3.cast hT, q4⟩

theorem RunS.cast {C' : Ctx} (hT : C'.T = C.T) {run : Run} (h1 : RunS C P N0 run) : RunS C' P N0 run :=
  fun f xs h m w args R hx => (h1 f xs h m w args (R.cast hT.symm) hx).cast hT

/-- A call that is known. -/
theorem memo_s {C0 : Ctx} {k : Nat} {f : FuncId} {M : Memo} (hM : M.okA C0 k f = true) (hr : RunS C0 P N0 (runA C0 k)) {args : Array Value} (R : HR C0 N0 m h w) (hx : VRs m M.args args.toList) (hh : ∀ x ∈ M.need, h.get x.1 = some x.2) :
    ResS C0 P N0 f args m h w (.ok (V.shift h.next M.v) (pushA h.next M.nb h)) := by
  unfold Memo.okA at hM
  split at hM
  · cases hM
  · rename_i hn
    split at hM
    · cases hM
    · rename_i hf
      split at hM
      · rename_i v h1 hrun
        simp only [Bool.and_eq_true] at hM
        have hv := V.eq_of_beq _ _ hM.1
        subst hv
        have := hr f M.args (smallH M.need) m.small w args (small_HR R hn hh) (VRs.flats hf hx)
        rw [hrun] at this
        refine CallOk.mono this fun e w' ⟨m', u, e1, e2, e3, e4⟩ => ?_
        obtain ⟨m2, q1, q2, q3⟩ := small_back R hn e3 e4 hM.2
        exact ⟨m2, u, e1, q3 _ _ e2, q1, q2⟩
      · cases hM

theorem pickM_s {xs : List V} {h : H} : ∀ {ms : List Memo} {M : Memo}, pickM xs h ms = some M → M ∈ ms ∧ xs = M.args ∧ ∀ x ∈ M.need, h.get x.1 = some x.2
  | [], M, e => by simp [pickM] at e
  | M0 :: r, M, e => by
    simp only [pickM] at e
    split at e
    · rename_i ha
      split at e
      · rename_i hh
        cases e
        exact ⟨by simp, V.eqs_of_beq _ _ ha, holdsA_s hh⟩
      · obtain ⟨h1, h2⟩ := pickM_s e
        exact ⟨by simp [h1], h2⟩
    · obtain ⟨h1, h2⟩ := pickM_s e
      exact ⟨by simp [h1], h2⟩

theorem findM_s {f : FuncId} : ∀ {l : List (FuncId × List Memo)} {ms : List Memo}, findM f l = some ms → (f, ms) ∈ l
  | [], ms, e => by simp [findM] at e
  | (g, ms0) :: r, ms, e => by
    simp only [findM] at e
    split at e
    · rename_i hg
      cases e
      rw [Nat.eq_of_beq_eq_true hg]; simp
    · exact List.mem_cons_of_mem _ (findM_s e)

theorem pushA_le (d : Nat) : ∀ (l : List (Option O)) (h : H), h.le (pushA d l h)
  | [], h => H.le_refl h
  | none :: r, h => H.le_trans (H.le_lt (Nat.lt_succ_self _)) (pushA_le d r _)
  | some o :: r, h => H.le_trans (H.le_new _ _) (pushA_le d r _)

theorem memo_up {C0 : Ctx} {fuel : Nat} {l : List (FuncId × List Memo)} (hu : OvUp C0) : OvUp (C0.memo fuel l) := by
  intro f g hg run hrun xs h
  simp only [Ctx.memo] at hg
  split at hg
  · cases hg
    unfold memoA
    split
    · rename_i M hM
      have hle := pushA_le h.next M.nb h
      exact hle
    · split
      · exact bodyA_up hrun
      · trivial
  · exact hu f g hg run hrun xs h

/-- All that is owed of what the plain machine is run with. -/
structure Good (C : Ctx) (P : Program) (N0 : Nat) : Prop where
  ok : COk C P
  up : OvUp C
  ov : OvS C P N0

theorem Good.run (G : Good C P N0) (n : Nat) : RunS C P N0 (runA C n) := runA_s G.ok G.up G.ov (fun _ hr k _ => drawP_s G.ok hr k) n

theorem Good.memo {C0 : Ctx} (G : Good C0 P N0) (fuel : Nat) (l : List (FuncId × List Memo)) (hl : ∀ x ∈ l, ∀ M ∈ x.2, ∃ k, M.okA C0 k x.1 = true) : Good (C0.memo fuel l) P N0 where
  ok := ⟨G.ok.T, G.ok.F, G.ok.mixed⟩
  up := memo_up G.up
  ov := by
    intro f g hg run hrun hup xs h m w args R hx
    simp only [Ctx.memo] at hg
    split at hg
    · rename_i ms hms
      cases hg
      unfold memoA
      split
      · rename_i M hM
        obtain ⟨h1, h2, h3⟩ := pickM_s hM
        subst h2
        obtain ⟨k, hk⟩ := hl _ (findM_s hms) M h1
        exact (memo_s hk (G.run k) (HR.cast (C := C0.memo fuel l) (C' := C0) rfl R) hx h3).cast (C := C0) (C' := C0.memo fuel l) rfl
      · split
        · rename_i fn hF
          have hrun0 : RunS C0 P N0 run := RunS.cast (C := C0.memo fuel l) (C' := C0) rfl hrun
          exact (bodyA_s G.ok hrun0 hup (fun n esc => drawP_s G.ok hrun0 n) hF (HR.cast (C := C0.memo fuel l) (C' := C0) rfl R) hx).cast (C := C0) (C' := C0.memo fuel l) rfl
        · trivial
    · have hrun0 : RunS C0 P N0 run := RunS.cast (C := C0.memo fuel l) (C' := C0) rfl hrun
      exact (G.ov f g hg run hrun0 hup xs h m w args (HR.cast (C := C0.memo fuel l) (C' := C0) rfl R) hx).cast (C := C0) (C' := C0.memo fuel l) rfl

/-! ### internal/bytealg.IndexByteString -/
theorem findByte_s (b : Nat) : ∀ (l : List UInt8) (i : Nat), b < 256 → findByte b l i = if Lib.indexByte l b.toUInt8 == -1 then -1 else Lib.indexByte l b.toUInt8 + i
  | [], i, _ => by simp [findByte, Lib.indexByte]
  | c :: l, i, hb => by
    have hcb : (c == b.toUInt8) = Nat.beq c.toNat b := by
      rw [Bool.eq_iff_iff]
      constructor
      · intro e
        have e : c = b.toUInt8 := by simpa using e
        subst e
        simp [Nat.mod_eq_of_lt hb]
      · intro e
        have e := Nat.eq_of_beq_eq_true e
        rw [← e]
        simp
    simp only [findByte, Lib.indexByte, hcb]
    split
    · rename_i e
      rw [e]; simp
    · rename_i e
      rw [e, findByte_s b l (i + 1) hb]
      have hge := Lib.indexByte_ge l b.toUInt8
      by_cases h1 : Lib.indexByte l b.toUInt8 = -1
      · simp [h1]
      · have h2 : (Lib.indexByte l b.toUInt8 == -1) = false := by simpa using h1
        simp only [h2, Bool.false_eq_true, if_false]
        have h3 : ¬ (Lib.indexByte l b.toUInt8 + 1 == -1) = true := by
          intro e
          have e := Int.eq_of_sub_eq_zero (Int.sub_eq_zero.2 (by simpa using e : Lib.indexByte l b.toUInt8 + 1 = -1))
          omega
        rw [if_neg h3]
        push_cast
        omega

theorem indexByte_s {f : FuncId} {fn : Func} (hf : P.funcs[f]? = some fn) (hname : (fn.name == "runtime.NumGoroutine") = false) (hb : fn.body.isNone = true) (hn : Extern.findNext fn = none)
    (he : Extern.find fn = some Extern.BytealgIndexByte.indexByte) (run : Run) {xs : List V} {args : Array Value} (R : HR C N0 m h w) (hx : VRs m xs args.toList) : ResS C P N0 f args m h w (indexByteA run xs h) := by
  unfold indexByteA
  split
  · rename_i s b
    split
    · rename_i hbd
      simp only [Bool.and_eq_true, decide_eq_true_eq] at hbd
      have ha : args = #[.string ⟨⟨s⟩⟩, .int .u8 b] := by
        apply Array.ext'
        generalize args.toList = l at hx
        match l, hx with
        | [x, y], hx => simp only [VRs, VR] at hx; obtain ⟨rfl, rfl, _⟩ := hx; rfl
      subst ha
      refine .inr ⟨.int .i64 (Lib.indexByte s b.toNat.toUInt8), w, ?_, m, _, rfl, ?_, R, Kept.refl _ _ _⟩
      · rw [run_callFunc_extern hf hname hb hn he, Lib.run_indexByteString]
        rfl
      · have hlt : b.toNat < 256 := by omega
        simp only [VR]
        rw [findByte_s b.toNat s 0 hlt]
        congr 1
        split
        · rename_i e; simpa using e
        · simp
    · trivial
  · trivial
end
end Go.S2

namespace Go.S2

def allO {α : Type} (p : Nat → α → Prop) : Nat → List (Option α) → Prop
  | _, [] => True
  | i, none :: r => allO p (i + 1) r
  | i, some x :: r => p i x ∧ allO p (i + 1) r
def all2 {α : Type} (p : Nat → α → Prop) : Nat → List (List (Option α)) → Prop
  | _, [] => True
  | i, l :: r => allO p i l ∧ all2 p (i + 8) r
def all3 {α : Type} (p : Nat → α → Prop) : Nat → List (List (List (Option α))) → Prop
  | _, [] => True
  | i, l :: r => all2 p i l ∧ all3 p (i + 64) r

theorem allO_s {α : Type} {p : Nat → α → Prop} : ∀ {l : List (Option α)} {i c : Nat} {x : α}, allO p i l → nth l c = some (some x) → p (i + c) x
  | [], i, c, x, _, h => by simp [nth] at h
  | none :: r, i, 0, x, _, h => by simp [nth] at h
  | none :: r, i, c + 1, x, ha, h => by
    have := allO_s (l := r) (i := i + 1) (c := c) ha (by simpa [nth] using h)
    rw [show i + (c + 1) = i + 1 + c by omega]; exact this
  | some y :: r, i, 0, x, ha, h => by simp [nth] at h; subst h; exact ha.1
  | some y :: r, i, c + 1, x, ha, h => by
    have := allO_s (l := r) (i := i + 1) (c := c) ha.2 (by simpa [nth] using h)
    rw [show i + (c + 1) = i + 1 + c by omega]; exact this

theorem all2_s {α : Type} {p : Nat → α → Prop} : ∀ {l : List (List (Option α))} {i b : Nat} {x : List (Option α)}, all2 p i l → nth l b = some x → allO p (i + 8 * b) x
  | [], i, b, x, _, h => by simp [nth] at h
  | y :: r, i, 0, x, ha, h => by simp [nth] at h; subst h; exact ha.1
  | y :: r, i, b + 1, x, ha, h => by
    have := all2_s (l := r) (i := i + 8) (b := b) ha.2 (by simpa [nth] using h)
    rw [show i + 8 * (b + 1) = i + 8 + 8 * b by omega]; exact this

theorem all3_s {α : Type} {p : Nat → α → Prop} : ∀ {l : List (List (List (Option α)))} {i a : Nat} {x : List (List (Option α))}, all3 p i l → nth l a = some x → all2 p (i + 64 * a) x
  | [], i, b, x, _, h => by simp [nth] at h
  | y :: r, i, 0, x, ha, h => by simp [nth] at h; subst h; exact ha.1
  | y :: r, i, b + 1, x, ha, h => by
    have := all3_s (l := r) (i := i + 64) (a := b) ha.2 (by simpa [nth] using h)
    rw [show i + 64 * (b + 1) = i + 64 + 64 * b by omega]; exact this

theorem look3_s {α : Type} {p : Nat → α → Prop} {L : List (List (List (Option α)))} (h : all3 p 0 L) {t : Nat} {x : α} (e : look3 L t = some x) : p t x := by
  unfold look3 at e
  split at e
  · cases e
  · rename_i l1 h1
    split at e
    · cases e
    · rename_i l2 h2
      split at e
      · cases e
      · rename_i y h3
        subst e
        have := allO_s (all2_s (all3_s h h1) h2) h3
        rw [show 0 + 64 * (t / 64) + 8 * (t / 8 % 8) + t % 8 = t by omega] at this
        exact this

def bO {α : Type} (q : Nat → α → Bool) : Nat → List (Option α) → Bool
  | _, [] => true
  | i, none :: r => bO q (i + 1) r
  | i, some x :: r => match q i x with
    | true => bO q (i + 1) r
    | false => false
def b2 {α : Type} (q : Nat → α → Bool) : Nat → List (List (Option α)) → Bool
  | _, [] => true
  | i, l :: r => match bO q i l with
    | true => b2 q (i + 8) r
    | false => false
def b3 {α : Type} (q : Nat → α → Bool) : Nat → List (List (List (Option α))) → Bool
  | _, [] => true
  | i, l :: r => match b2 q i l with
    | true => b3 q (i + 64) r
    | false => false

theorem bO_s {α : Type} {q : Nat → α → Bool} : ∀ {l : List (Option α)} {i : Nat}, bO q i l = true → allO (fun t x => q t x = true) i l
  | [], i, _ => trivial
  | none :: r, i, h => bO_s (l := r) h
  | some x :: r, i, h => by
    simp only [bO] at h
    split at h
    · rename_i hq; exact ⟨hq, bO_s h⟩
    · cases h
theorem b2_s {α : Type} {q : Nat → α → Bool} : ∀ {l : List (List (Option α))} {i : Nat}, b2 q i l = true → all2 (fun t x => q t x = true) i l
  | [], i, _ => trivial
  | x :: r, i, h => by
    simp only [b2] at h
    split at h
    · rename_i hq; exact ⟨bO_s hq, b2_s h⟩
    · cases h
theorem b3_s {α : Type} {q : Nat → α → Bool} : ∀ {l : List (List (List (Option α)))} {i : Nat}, b3 q i l = true → all3 (fun t x => q t x = true) i l
  | [], i, _ => trivial
  | x :: r, i, h => by
    simp only [b3] at h
    split at h
    · rename_i hq; exact ⟨b2_s hq, b3_s h⟩
    · cases h

/-! ### What is asked of the tables -/
def fieldsBeq : List (Nat × TypeId) → List (Nat × TypeId) → Bool
  | [], [] => true
  | (a, b) :: l, (c, d) :: r => match (Nat.beq a c).and (Nat.beq b d) with
    | true => fieldsBeq l r
    | false => false
  | _, _ => false

def TK.beq : TK → TK → Bool
  | .bool, .bool => true
  | .int k, .int j => k == j
  | .string, .string => true
  | .pointer a, .pointer b => Nat.beq a b
  | .slice a, .slice b => Nat.beq a b
  | .array n a, .array m b => (Nat.beq n m).and (Nat.beq a b)
  | .map a b, .map c d => (Nat.beq a c).and (Nat.beq b d)
  | .struct l, .struct r => fieldsBeq l r
  | .iface a, .iface b => a == b
  | .func, .func => true
  | .tuple, .tuple => true
  | .other, .other => true
  | _, _ => false

theorem fieldsBeq_s : ∀ {l r : List (Nat × TypeId)}, fieldsBeq l r = true → l = r
  | [], [], _ => rfl
  | (a, b) :: l, (c, d) :: r, h => by
    simp only [fieldsBeq] at h
    split at h
    · rename_i e
      simp only [Bool.and_eq_true] at e
      rw [Nat.eq_of_beq_eq_true e.1, Nat.eq_of_beq_eq_true e.2, fieldsBeq_s h]
    · cases h
  | [], _ :: _, h => by simp [fieldsBeq] at h
  | _ :: _, [], h => by simp [fieldsBeq] at h

theorem TK.beq_s {a b : TK} (h : TK.beq a b = true) : a = b := by
  cases a <;> cases b <;> first
    | rfl
    | (simp only [TK.beq, beq_iff_eq] at h; rw [h]; done)
    | (simp only [TK.beq] at h; rw [Nat.eq_of_beq_eq_true h]; done)
    | (simp only [TK.beq, Bool.and_eq_true] at h; rw [Nat.eq_of_beq_eq_true h.1, Nat.eq_of_beq_eq_true h.2]; done)
    | (simp only [TK.beq] at h; rw [fieldsBeq_s h]; done)
    | (simp [TK.beq] at h; done)

def zeroB (agg : Bool) (z : Value) (zero : List V) : Bool :=
  match agg with
  | true => match z with
    | .agg a => match ofScalars a.toList with
      | some l => V.beqs l zero
      | none => false
    | _ => false
  | false => match ofScalars [z] with
    | some l => V.beqs l zero
    | none => false

def subB (P : Program) (t : TypeId) : Bool :=
  match P.underlying t with
  | some (.struct fs) => fs.toList.all fun f => (P.info? f.type).isSome
  | _ => true

def tokB (P : Program) (t : TypeId) (ti : TI) : Bool :=
  match P.info? t with
  | none => false
  | some i => match (Nat.beq i.size ti.size).and ((Nat.beq i.bytes ti.bytes).and (Nat.beq ti.zero.length ti.size)) with
    | false => false
    | true => match i.zero with
      | none => false
      | some z => match zeroB ti.kind.agg z ti.zero with
        | false => false
        | true => match P.underlying t with
          | none => false
          | some d => match TK.beq (kOf d) ti.kind with
            | false => false
            | true => subB P t

theorem tokB_s {P : Program} {t : TypeId} {ti : TI} (h : tokB P t ti = true) : TOk P t ti := by
  unfold tokB at h
  split at h
  · cases h
  · rename_i i hi
    split at h
    · cases h
    · rename_i h1
      simp only [Bool.and_eq_true] at h1
      split at h
      · cases h
      · rename_i z hz
        split at h
        · cases h
        · rename_i hzb
          split at h
          · cases h
          · rename_i d hd
            split at h
            · cases h
            · rename_i hk
              refine ⟨⟨i, z, hi, Nat.eq_of_beq_eq_true h1.1, Nat.eq_of_beq_eq_true h1.2.1, hz, ?_, Nat.eq_of_beq_eq_true h1.2.2⟩, ⟨d, hd, TK.beq_s hk⟩, fun fsx hf f hm => ?_⟩
              · unfold zeroB at hzb
                split at hzb
                · rename_i ha
                  rw [if_pos ha]
                  split at hzb
                  · rename_i a
                    cases hl : ofScalars a.toList with
                    | none => rw [hl] at hzb; cases hzb
                    | some l => rw [hl] at hzb; exact ⟨a, rfl, by rw [hl, V.eqs_of_beq _ _ hzb]⟩
                  · cases hzb
                · rename_i ha
                  rw [if_neg (by rw [ha]; simp)]
                  split at hzb
                  · rename_i l hl; rw [hl, V.eqs_of_beq _ _ hzb]
                  · cases hzb
              · unfold subB at h
                rw [hf] at h
                simp only at h
                have := List.all_eq_true.1 h f hm
                exact Option.isSome_iff_exists.1 this

def fokB (fn : Func) : Bool :=
  match Nat.ble (fn.params.size + fn.nfree) fn.ntmps with
  | false => false
  | true => match fn.body with
    | none => !(fn.name == "runtime.NumGoroutine")
    | some c => match dstsOk fn.ntmps c with
      | true => !(fn.name == "runtime.NumGoroutine")
      | false => false

/-- The tables of a program are right. -/
theorem COk.of_tables {C : Ctx} {P : Program} {TL : List (List (List (Option TI)))} {FL : List (List (List (Option Func)))} (hT : C.T = look3 TL) (hF : C.F = look3 FL) (h1 : b3 (tokB P) 0 TL = true)
    (h2 : all3 (fun f fn => P.funcs[f]? = some fn) 0 FL) (h3 : b3 (fun _ fn => fokB fn) 0 FL = true) (hm : P.follows .mixedOrders = true) : COk C P where
  T := fun t ti h => tokB_s (look3_s (b3_s h1) (by rw [← hT]; exact h))
  F := fun f fn h => by
    rw [hF] at h
    refine ⟨look3_s h2 h, ?_⟩
    have := look3_s (b3_s h3) h
    unfold fokB at this
    split at this
    · cases this
    · rename_i hs
      have hs := Nat.le_of_ble_eq_true hs
      split at this
      · rename_i hb
        exact ⟨hs, fun c hc => (by rw [hb] at hc; cases hc), by simpa using this⟩
      · rename_i c hb
        split at this
        · rename_i hd
          exact ⟨hs, fun c' hc => (by rw [hb] at hc; cases hc; exact hd), by simpa using this⟩
        · cases this
  mixed := hm

/-- Nothing is known but internal/bytealg.IndexByteString. -/
def ovI (i : FuncId) : FuncId → Option (Run → List V → H → Res) := fun f => match Nat.beq f i with
  | true => some indexByteA
  | false => none

theorem Good.of_tables {C : Ctx} {P : Program} {N0 : Nat} {i : FuncId} {fn : Func} (K : COk C P) (ho : C.ov = ovI i) (hf : P.funcs[i]? = some fn) (hname : (fn.name == "runtime.NumGoroutine") = false) (hb : fn.body.isNone = true)
    (hn : Extern.findNext fn = none) (he : Extern.find fn = some Extern.BytealgIndexByte.indexByte) : Good C P N0 where
  ok := K
  up := by
    intro f g hg run _ args h
    rw [ho] at hg
    unfold ovI at hg
    split at hg
    · cases hg
      unfold indexByteA
      repeat' split
      all_goals first | exact H.le_refl _ | trivial
    · cases hg
  ov := by
    intro f g hg run _ _ xs h m w args R hx
    rw [ho] at hg
    unfold ovI at hg
    split at hg
    · rename_i e
      cases hg
      rw [← Nat.eq_of_beq_eq_true e] at hf
      exact indexByte_s hf hname hb hn he run R hx
    · cases hg

/-! ### A call of a function of no arguments, seen from whatever world -/
/-- Package variables lie where they should. -/
def Laid (C : Ctx) (w : World) (need : List (Nat × O)) : Prop :=
  ∀ x ∈ need, ∃ cs e arr e' fr, x.2 = .cells cs e true (cs.length + 1) ∧ w.heap[x.1]? = some (.cells arr e' fr) ∧ arr.size = cs.length ∧ VRs (fun _ => none) cs arr.toList

theorem call_small {C : Ctx} {P : Program} (G : ∀ N0, Good C P N0) {k : Nat} {f : FuncId} {fn : Func} {c : Code} (hf : P.funcs[f]? = some fn) (hb : fn.body = some c) (hname : (fn.name == "runtime.NumGoroutine") = false)
    {xs : List V} {need : List (Nat × O)} {v : V} {h1 : H} (hn : needOk need = true) (hnd : (need.map (·.1)).Nodup) (hx : V.flats xs = true) (hv : v.flat = true) (hrun : runA C k f xs (smallH need) = .ok v h1) {w : World} (hl : Laid C w need)
    {args : Array Value} (ha : VRs (fun _ => none) xs args.toList) :
    Calls P f args w fun e w' => ∃ u, e = .returned u ∧ VR (fun _ => none) v u ∧ (∀ c, c < w.heap.size → w'.heap[c]? = w.heap[c]?) ∧ w.heap.size ≤ w'.heap.size ∧ w'.os = w.os ∧ w'.tape = w.tape ∧ w'.output = w.output := by
  let m : Km := fun i => if i < gMax then some (i, 0, match need.find? (·.1 == i) with
    | some (_, .cells cs _ _ _) => cs.length
    | _ => 0, match need.find? (·.1 == i) with
    | some (_, .cells _ e _ _) => tsize C e
    | _ => 0) else none
  have hfind : ∀ {i o}, (i, o) ∈ need → need.find? (·.1 == i) = some (i, o) := by
    intro i o hio
    clear hrun hl hn
    induction need with
    | nil => simp at hio
    | cons y r ih =>
      simp only [List.map_cons, List.nodup_cons] at hnd
      rcases List.mem_cons.1 hio with rfl | hio
      · simp
      · have hne : (y.1 == i) = false := by
          have : y.1 ≠ i := fun e => hnd.1 (e ▸ List.mem_map_of_mem (f := (·.1)) hio)
          simpa using this
        rw [List.find?_cons, hne]
        exact ih hnd.2 hio
  have hget : ∀ i o, (smallH need).get i = some o → (i, o) ∈ need := fun i o h => smallT_s need i o h
  have R : HR C w.heap.size m (smallH need) w := by
    refine ⟨fun i o ho => ?_, fun i o c b n z ho hr => ?_, fun i j oi oj c b n z b' n' z' hi hj hr => ?_, fun i hi => ?_, Nat.le_refl _, fun g hg => ?_, Nat.le_refl _, fun i o c b n z ho hr hm => ?_⟩
    · have hio := hget i o ho
      obtain ⟨cs, e, arr, e', fr, q1, q2, q3, q4⟩ := hl _ hio
      simp only at q1 q2
      subst q1
      have hi := (needOk_s hn _ hio).1
      refine ⟨i, 0, cs.length, tsize C e, ?_, arr, fr, ⟨e', q2, .inl rfl⟩, by omega, Nat.le_refl _, rfl, ?_, fun off h1 h2 => by omega, fun h => by omega⟩
      · simp only [m]
        rw [if_pos hi, hfind hio]
      · rw [List.drop_zero, List.take_of_length_le (by simp; omega)]
        have hp := (needOk_s hn _ hio).2
        exact VRs.flats hp q4
    · exact absurd ⟨i, o, 0, 0, 0, ho, hr, rfl⟩ (small_notLive (m := fun _ => some (i, 0, 0, 0)) (c := i) hn)
    · exact absurd ⟨i, oi, 0, 0, 0, hi, hr, rfl⟩ (small_notLive (m := fun _ => some (i, 0, 0, 0)) (c := i) hn)
    · simp only [m]
      rw [if_neg (by simp only [smallH] at hi; omega)]
    · exact ⟨_, _, by simp only [m]; rw [if_pos hg]⟩
    · have hio := hget i o ho
      obtain ⟨cs, e, arr, e', fr, _, q2, _⟩ := hl _ hio
      have hi := (needOk_s hn _ hio).1
      simp only [m] at hm
      rw [if_pos hi] at hm
      cases hm
      exact (Array.getElem?_eq_some_iff.1 q2).1
  have := (G w.heap.size).run k f xs (smallH need) m w args R (VRs.flats hx ha)
  rw [hrun] at this
  have hent := callFunc_enter (P := P) hf hb hname args w
  rcases this with ⟨_, h2⟩ | ⟨u, w', h2, _⟩
  · refine h2.mono fun e w' ⟨m', u, e1, e2, e3, e4⟩ => ⟨u, e1, e2.flat hv, fun c hc => e4.old c hc (small_notLive hn), e4.size, e4.os, e4.tape, e4.output⟩
  · rw [hent] at h2; cases h2
end Go.S2

namespace Go.S2
theorem call_big {C : Ctx} {P : Program} (G : ∀ N0, Good C P N0) {k : Nat} {f : FuncId} {fn : Func} {c : Code} (hf : P.funcs[f]? = some fn) (hb : fn.body = some c) (hname : (fn.name == "runtime.NumGoroutine") = false)
    {xs : List V} {need : List (Nat × O)} {v : V} {h1 : H} (hn : needOk need = true) (hnd : (need.map (·.1)).Nodup) (hx : V.flats xs = true) (hrun : runA C k f xs (smallH need) = .ok v h1) {w : World} (hl : Laid C w need)
    {args : Array Value} (ha : VRs (fun _ => none) xs args.toList) :
    Calls P f args w fun e w' => ∃ m u, e = .returned u ∧ VR m v u ∧ HR C w.heap.size m h1 w' ∧ (∀ c, c < w.heap.size → w'.heap[c]? = w.heap[c]?) ∧ w.heap.size ≤ w'.heap.size ∧ w'.os = w.os ∧ w'.tape = w.tape ∧ w'.output = w.output := by
  let m : Km := fun i => if i < gMax then some (i, 0, match need.find? (·.1 == i) with
    | some (_, .cells cs _ _ _) => cs.length
    | _ => 0, match need.find? (·.1 == i) with
    | some (_, .cells _ e _ _) => tsize C e
    | _ => 0) else none
  have hfind : ∀ {i o}, (i, o) ∈ need → need.find? (·.1 == i) = some (i, o) := by
    intro i o hio
    clear hrun hl hn
    induction need with
    | nil => simp at hio
    | cons y r ih =>
      simp only [List.map_cons, List.nodup_cons] at hnd
      rcases List.mem_cons.1 hio with rfl | hio
      · simp
      · have hne : (y.1 == i) = false := by
          have : y.1 ≠ i := fun e => hnd.1 (e ▸ List.mem_map_of_mem (f := (·.1)) hio)
          simpa using this
        rw [List.find?_cons, hne]
        exact ih hnd.2 hio
  have hget : ∀ i o, (smallH need).get i = some o → (i, o) ∈ need := fun i o h => smallT_s need i o h
  have R : HR C w.heap.size m (smallH need) w := by
    refine ⟨fun i o ho => ?_, fun i o c b n z ho hr => ?_, fun i j oi oj c b n z b' n' z' hi hj hr => ?_, fun i hi => ?_, Nat.le_refl _, fun g hg => ?_, Nat.le_refl _, fun i o c b n z ho hr hm => ?_⟩
    · have hio := hget i o ho
      obtain ⟨cs, e, arr, e', fr, q1, q2, q3, q4⟩ := hl _ hio
      simp only at q1 q2
      subst q1
      have hi := (needOk_s hn _ hio).1
      refine ⟨i, 0, cs.length, tsize C e, ?_, arr, fr, ⟨e', q2, .inl rfl⟩, by omega, Nat.le_refl _, rfl, ?_, fun off h1 h2 => by omega, fun h => by omega⟩
      · simp only [m]
        rw [if_pos hi, hfind hio]
      · rw [List.drop_zero, List.take_of_length_le (by simp; omega)]
        have hp := (needOk_s hn _ hio).2
        exact VRs.flats hp q4
    · exact absurd ⟨i, o, 0, 0, 0, ho, hr, rfl⟩ (small_notLive (m := fun _ => some (i, 0, 0, 0)) (c := i) hn)
    · exact absurd ⟨i, oi, 0, 0, 0, hi, hr, rfl⟩ (small_notLive (m := fun _ => some (i, 0, 0, 0)) (c := i) hn)
    · simp only [m]
      rw [if_neg (by simp only [smallH] at hi; omega)]
    · exact ⟨_, _, by simp only [m]; rw [if_pos hg]⟩
    · have hio := hget i o ho
      obtain ⟨cs, e, arr, e', fr, _, q2, _⟩ := hl _ hio
      have hi := (needOk_s hn _ hio).1
      simp only [m] at hm
      rw [if_pos hi] at hm
      cases hm
      exact (Array.getElem?_eq_some_iff.1 q2).1
  have := (G w.heap.size).run k f xs (smallH need) m w args R (VRs.flats hx ha)
  rw [hrun] at this
  have hent := callFunc_enter (P := P) hf hb hname args w
  rcases this with ⟨_, h2⟩ | ⟨u, w', h2, _⟩
  · refine h2.mono fun e w' ⟨m', u, e1, e2, e3, e4⟩ => ⟨m', u, e1, e2, e3, fun c hc => e4.old c hc (small_notLive hn), e4.size, e4.os, e4.tape, e4.output⟩
  · rw [hent] at h2; cases h2
end Go.S2

