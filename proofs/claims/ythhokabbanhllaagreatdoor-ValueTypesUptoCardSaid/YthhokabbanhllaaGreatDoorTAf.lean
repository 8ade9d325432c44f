/- What is proved here: contracts of functions of the program: of each function what it hands back and what it leaves in memory. Conditions: those that each theorem names. -/
import Derived.Test.YthhokabbanhllaaGreatDoorTAd
set_option linter.unusedVariables false
set_option linter.unusedSimpArgs false
set_option linter.unusedSectionVars false
namespace Go.Vc
open Go
structure Cop where
 d : Option Nat
 g : Option (Nat × Bool)
 op : Op
def copWp (C : Ctx) (S : Callee) (o : Cop) (s : St) (k : St → Prop) : Prop :=
 match o.g with
 | none => match isPlain C o.op with
  | true => qWp C s True o.op fun v => k (s.put o.d v)
  | false => hWp C S s o.op o.d k
 | some (t, want) => match (s.get t).word with
  | some (c, b) => match isPlain C o.op with
   | true => qWp C s (c = true ∧ b = want) o.op fun v => k (s.put o.d (.cond (c && b == want) v))
   | false => (c = true → b = want → hWp C S (s.put (some t) (.bool want)) o.op o.d k) ∧ ((c = true → b = !want) → k (s.put o.d (.cond false (.bool false))))
  | none => False
def copOf (all : Array Oper) (o : Oper) : Option Cop :=
 match o.guard with
 | none => some ⟨o.dst, none, o.op⟩
 | some (j, want) => match (all[j]?).bind (·.dst) with
  | some t => some ⟨o.dst, some (t, want), o.op⟩
  | none => none
theorem cop_eq {C : Ctx} {S : Callee} {all : Array Oper} {o : Oper} {x : Cop} (hx : copOf all o = some x) (s : St) (k : St → Prop) : opWp C S all o s k = copWp C S x s k := by
 unfold copOf at hx
 unfold opWp copWp
 split at hx
 ·rename_i hg
  simp only [Option.some.injEq] at hx
  subst hx
  rw [hg]
  rfl
 ·rename_i j want hg
  split at hx
  ·rename_i t ht
   simp only [Option.some.injEq] at hx
   subst hx
   rw [hg]
   simp only [ht]
   cases (s.get t).word with
   | none => rfl
   | some p =>
    obtain ⟨c, b⟩ := p
    simp only
    cases isPlain C o.op <;> rfl
  ·cases hx
end Go.Vc
