/- What is proved here: contracts of functions of the program: of each function what it hands back and what it leaves in memory. Conditions: those that each theorem names. -/
import Derived.Test.YtmbopgmllnijjaaGreatTAr
import Derived.Test.YtmbopgmllnijjaaGreatTAu
set_option linter.unusedVariables false
set_option linter.unusedSimpArgs false
set_option linter.unusedSectionVars false
namespace Go.Vc
open Go Go.Proofs
set_option maxRecDepth 100000
noncomputable abbrev K2 : Ctx := { K with give := fun f => Nat.beq f 49 }
section
variable (C : Ctx) (g : Nat → Bool)
theorem isPlain_give (op : Op) : isPlain { C with give := g } op = isPlain C op := by
 unfold isPlain
 rfl
theorem fop_give (x : Cop) : fopOf { C with give := g } x = fopOf C x := by
 unfold fopOf
 simp only [isPlain_give]
theorem fop'_give (all : Array Oper) (o : Oper) : fopOf' { C with give := g } all o = fopOf' C all o := by
 unfold fopOf'
 simp only [fop_give]
theorem fops_give (all : Array Oper) : ∀ l, fopsOf { C with give := g } all l = fopsOf C all l
 | [] => rfl
 | o :: r => by simp only [fopsOf, fop'_give, fops_give all r]
theorem edges_give (all : Array Oper) : ∀ l, edgesOf { C with give := g } all l = edgesOf C all l
 | [] => rfl
 | (i, j) :: r => by simp only [edgesOf, fop'_give, edges_give all r]
theorem nodes_give (all : Array Oper) : ∀ l, nodesOf { C with give := g } all l = nodesOf C all l
 | [] => rfl
 | (a, b, es) :: r => by simp only [nodesOf, edges_give, nodes_give all r]
theorem ct_give (all : Array Oper) : ∀ t, ctOf { C with give := g } all t = ctOf C all t
 | .done => rfl
 | .stop => rfl
 | .q i t => by simp only [ctOf, fop'_give, ct_give all t]
 | .alt i t r => by simp only [ctOf, fop'_give, ct_give all t, ct_give all r]
 | .cut m e t r => by simp only [ctOf, ct_give all t, ct_give all r]
 | .dag ns t => by simp only [ctOf, nodes_give, ct_give all t]
theorem find_give (all : Array Oper) : ∀ (n : Nat) (l : Array Bool), find { C with give := g } all n l = find C all n l
 | 0, l => rfl
 | n + 1, l => by simp only [find, isPlain_give, find_give all n]
theorem quiet_give (all : Array Oper) (e : Array Bool) (i : Nat) : quiet { C with give := g } all e i = quiet C all e i := by
 unfold quiet
 simp only [isPlain_give]
theorem nodeOk_give (all : Array Oper) (ns nd) : nodeOk { C with give := g } all ns nd = nodeOk C all ns nd := by
 unfold nodeOk
 simp only [quiet_give]
theorem planOk_give (all : Array Oper) : ∀ (t : PT) (top : Bool) (fin : Nat → Array Bool → Bool) (n : Nat) (l : Array Bool), planOk { C with give := g } all t top fin n l = planOk C all t top fin n l
 | .done, top, fin, n, l => rfl
 | .stop, top, fin, n, l => rfl
 | .q i t, top, fin, n, l => by simp only [planOk, isPlain_give, planOk_give all t]
 | .alt i t r, top, fin, n, l => by simp only [planOk, planOk_give all t, planOk_give all r]
 | .cut m e t r, top, fin, n, l => by simp only [planOk, planOk_give all t, planOk_give all r]
 | .dag ns t, top, fin, n, l => by
  have : nodeOk { C with give := g } all ns = nodeOk C all ns := funext fun nd => nodeOk_give C g all ns nd
  simp only [planOk, this, planOk_give all t]
theorem planned_give (all : Array Oper) (t : PT) : planned { C with give := g } all t = planned C all t := by
 unfold planned
 rw [planOk_give]
theorem comp_give (pl : Nat → Option PT) (c : Code) : comp { C with give := g } pl c = comp C pl c := by
 induction c with
 | region id ops d => cases d <;> simp only [comp, fops_give, find_give, planned_give, ct_give]
 | seq a b iha ihb => simp only [comp, iha, ihb]
 | cond o a b iha ihb => simp only [comp, iha, ihb]
 | block i c ih => simp only [comp, ih]
 | loop c ih => simp only [comp, ih]
 | scope c ih => simp only [comp, ih]
 | _ => rfl
end
theorem K2_ok : TyOk K2 := ⟨K_ok.und, K_ok.info, K_ok.zero, K_ok.agg, K_ok.eqs⟩
theorem K2_mix : K2.P.follows .mixedOrders = true := K_mix
theorem Spec.to2 {f : Nat} {a : List PV} {h : List (Nat × Blk)} {Post : PV → List (Nat × Blk) → Prop} (s : Spec K f a h Post) : Spec K2 f a h Post := ⟨fun w Z φ vs hb => s.run w Z φ vs ⟨hb.len, hb.rep, hb.heap, hb.zlt, hb.glob⟩⟩
theorem Spec.of2 {f : Nat} {a : List PV} {h : List (Nat × Blk)} {Post : PV → List (Nat × Blk) → Prop} (s : Spec K2 f a h Post) : Spec K f a h Post := ⟨fun w Z φ vs hb => s.run w Z φ vs ⟨hb.len, hb.rep, hb.heap, hb.zlt, hb.glob⟩⟩
theorem FnIs.to2 {f n : Nat} {rs : List ResultVar} {cd : Cd} (h : FnIs K f n rs cd) : FnIs K2 f n rs cd := by
 obtain ⟨fn, c, pl, h1, h2, h3, h4, h5, h6⟩ := h.is
 exact ⟨fn, c, pl, h1, h2, h3, (comp_give K _ pl c).trans h4, h5, h6⟩
def twoB (n : Int) : List UInt8 := [ub (n / 256), ub n]
theorem put1_spec (out : List UInt8) (n : Int) (hl : out.length ≤ 10000000000000) (Post : PV → List (Nat × Blk) → Prop)
  (h : Post (.ref 1 0 0 (out.length + 1)) [(0, .row 5 1 (bs (out ++ [ub n])) true)]) : Spec K2 49 [.ref 1 0 0 out.length, .int .i64 n, .int .i64 1] [(0, .row 5 1 (bs out) true)] Post := by
 refine is49.to2.spec K2_ok K2_mix true (by simp) (by simp [keys]) ?_
 have hbl := bs_len out
 have htk : List.take out.length (bs out) ++ List.take 1 (List.drop 0 [PV.int IntKind.u8 (IntKind.u8.wrap n)]) = bs (out ++ [ub n]) := by
  rw [List.take_of_length_le (by omega), bs_app, ← ub1]; rfl
 (conv => whnf); repeat ((first | (apply And.intro;· exact Cl4) | apply T1 | apply T2 | apply T3 | apply T4 | apply T6 | apply T5); conv => whnf)
 refine ⟨by show (out.length + 1) * 2 ≤ _; omega, ?_⟩
 (conv => whnf); repeat ((first | (apply And.intro;· exact Cl4) | apply T1 | apply T2 | apply T3 | apply T4 | apply T6 | apply T5); conv => whnf)
 rw [htk]
 exact h
theorem put2_spec (out : List UInt8) (n : Int) (hl : out.length ≤ 10000000000000) (Post : PV → List (Nat × Blk) → Prop)
  (h : Post (.ref 1 0 0 (out.length + 2)) [(0, .row 5 1 (bs (out ++ twoB n)) true)]) : Spec K2 49 [.ref 1 0 0 out.length, .int .i64 n, .int .i64 2] [(0, .row 5 1 (bs out) true)] Post := by
 refine is49.to2.spec K2_ok K2_mix true (by simp) (by simp [keys]) ?_
 have hbl := bs_len out
 (conv => whnf); repeat ((first | (apply And.intro;· exact Cl4) | apply T1 | apply T2 | apply T3 | apply T4 | apply T6 | apply T5); conv => whnf)
 refine ⟨by show (out.length + 1) * 2 ≤ _; omega, ?_⟩
 (conv => whnf); repeat ((first | (apply And.intro;· exact Cl4) | apply T1 | apply T2 | apply T3 | apply T4 | apply T6 | apply T5); conv => whnf)
 refine ⟨by show (out.length + 1 + 1) * 2 ≤ _; omega, ?_⟩
 (conv => whnf); repeat ((first | (apply And.intro;· exact Cl4) | apply T1 | apply T2 | apply T3 | apply T4 | apply T6 | apply T5); conv => whnf)
 have hfd : n.fdiv (2 ^ min (Int.toNat 8) IntKind.i64.bits) = n / 256 := Int.fdiv_eq_ediv_of_nonneg n (show (0 : Int) ≤ 256 by decide)
 rw [hfd]
 have htk : ∀ X Y : PV, List.take (out.length + (List.take 1 (List.drop 0 [X])).length) (List.take out.length (bs out) ++ List.take 1 (List.drop 0 [X])) ++ List.take 1 (List.drop 0 [Y]) = bs out ++ [X, Y] := fun X Y => by
  rw [List.take_of_length_le (l := bs out) (by omega), List.take_of_length_le (by simp [hbl])]
  simp
 rw [htk]
 have e2 : bs out ++ [PV.int IntKind.u8 (IntKind.u8.wrap (n / 256)), PV.int IntKind.u8 (IntKind.u8.wrap n)] = bs (out ++ twoB n) := by
  rw [bs_app, wrapub, wrapub]; rfl
 rw [e2]
 exact h
theorem put1w (out : List UInt8) (m : Nat) (n : Int) (hm : m = out.length) (hl : out.length ≤ 10000000000000) (Post : PV → List (Nat × Blk) → Prop)
  (h : Post (.ref 1 0 0 (out ++ [ub n]).length) [(0, .row 5 1 (bs (out ++ [ub n])) true)]) : Spec K2 49 [.ref 1 0 0 m, .int .i64 n, .int .i64 1] [(0, .row 5 1 (bs out) true)] Post := by
 subst hm
 refine put1_spec out n hl Post ?_
 rwa [List.length_append, List.length_singleton] at h
theorem put2w (out : List UInt8) (m : Nat) (n : Int) (hm : m = out.length) (hl : out.length ≤ 10000000000000) (Post : PV → List (Nat × Blk) → Prop)
  (h : Post (.ref 1 0 0 (out ++ twoB n).length) [(0, .row 5 1 (bs (out ++ twoB n)) true)]) : Spec K2 49 [.ref 1 0 0 m, .int .i64 n, .int .i64 2] [(0, .row 5 1 (bs out) true)] Post := by
 subst hm
 refine put2_spec out n hl Post ?_
 rwa [List.length_append, show (twoB n).length = 2 from rfl] at h
end Go.Vc
