/- What is proved here: contracts of functions of the program: of each function what it hands back and what it leaves in memory. Conditions: those that each theorem names. -/
import Derived.Test.YtmbopgmllnijjaaQb
import Derived.Test.YtmbopgmllnijjaaQa
set_option linter.unusedVariables false
set_option linter.unusedSimpArgs false
set_option linter.unusedSectionVars false
namespace Go.Vc
open Go Go.Proofs
set_option maxRecDepth 100000
/-! What instructions ask. -/
theorem inB_eq (a : Int) (n m : Nat) (h : n = m) : (bif decide (0 ≤ a) then decide (a < (n : Int)) else false) = inB a m := by
  subst h
  unfold inB
  cases decide (0 ≤ a) <;> rfl
theorem zlc {p : PG} {zf zc : Nat} {lf lc : List PV} (hp : PGA p zf lf zc lc) : zc = 5 ∨ lc = [] :=
  hp.zc.imp id fun h => by have := VPs_len hp.cs; rw [h] at this; exact List.length_eq_zero_iff.1 this
theorem zlf {p : PG} {zf zc : Nat} {lf lc : List PV} (hp : PGA p zf lf zc lc) : zf = 4 ∨ lf = [] :=
  hp.zf.imp id fun h => by have := FPs_len hp.fs; rw [h] at this; exact List.length_eq_zero_iff.1 this
set_option maxHeartbeats 4000000 in
theorem text_spec (p : PG) (n : Int) (zf : Nat) (lf : List PV) (tf : Bool) (zc : Nat) (lc : List PV) (tc : Bool) (hp : PGA p zf lf zc lc) (Post : PV → List (Nat × Blk) → Prop)
    (h : Post (.tup [.str (textM p n).1, .bool (textM p n).2]) [(0, .box (pgc zf lf tf zc lc tc))]) : Spec K 99 [.ptr 0 0, .int .i64 n] [(0, .box (pgc zf lf tf zc lc tc))] Post := by
  refine is99.specW K_ok K_mix false (by simp) (by simp [keys]) ?_
  have hc := VPs_len hp.cs
  have hz := zlc hp
  unfold textM at h
  (conv => whnf); repeat ((first | (refine And.intro ?_ ?_; focus exact Cl4) | refine Both.T (by exact rfl) ?_ | refine Both.F (by exact rfl) ?_ | refine Both.GT (by exact rfl) (by exact rfl) ?_ | refine Both.GF (by exact rfl) ?_ | refine Both.GN (by exact rfl) ?_); conv => whnf)
  rw [hc]
  by_cases h0 : 0 ≤ n
  · rw [if_pos h0] at h
    rw [decide_eq_false (show ¬ n < 0 by omega)]
    (conv => whnf); repeat ((first | (refine And.intro ?_ ?_; focus exact Cl4) | refine Both.T (by exact rfl) ?_ | refine Both.F (by exact rfl) ?_ | refine Both.GT (by exact rfl) (by exact rfl) ?_ | refine Both.GF (by exact rfl) ?_ | refine Both.GN (by exact rfl) ?_); conv => whnf)
    by_cases h1 : n < p.consts.length
    · have hlt : n.toNat < p.consts.length := by omega
      rw [List.getElem?_eq_getElem hlt] at h
      obtain ⟨y1, mp, u1, o1, y2, u2, o2, hq, hv, g1, g2, g3⟩ := (VPs_nth hp.cs hlt).out
      rw [decide_eq_false (show ¬ (p.consts.length : Int) ≤ n by omega)]
      (conv => whnf); repeat ((first | (refine And.intro ?_ ?_; focus exact Cl4) | refine Both.T (by exact rfl) ?_ | refine Both.F (by exact rfl) ?_ | refine Both.GT (by exact rfl) (by exact rfl) ?_ | refine Both.GF (by exact rfl) ?_ | refine Both.GN (by exact rfl) ?_); conv => whnf)
      rw [hq]
      (conv => whnf); repeat ((first | (refine And.intro ?_ ?_; focus exact Cl4) | refine Both.T (by exact rfl) ?_ | refine Both.F (by exact rfl) ?_ | refine Both.GT (by exact rfl) (by exact rfl) ?_ | refine Both.GF (by exact rfl) ?_ | refine Both.GN (by exact rfl) ?_); conv => whnf)
      (conv => whnf); repeat' (first | ((first | (refine And.intro ?_ ?_; focus exact Cl4) | refine Both.T (by exact rfl) ?_ | refine Both.F (by exact rfl) ?_ | refine Both.GT (by exact rfl) (by exact rfl) ?_ | refine Both.GF (by exact rfl) ?_ | refine Both.GN (by exact rfl) ?_); conv => whnf) | (fail; conv => whnf) | ((refine Both.mk ?_ ?_ <;> fail_if_success (intro _)) <;> conv => whnf))
      all_goals exact h
    · rw [List.getElem?_eq_none (by omega)] at h
      rw [decide_eq_true (show (p.consts.length : Int) ≤ n by omega)]
      (conv => whnf); repeat ((first | (refine And.intro ?_ ?_; focus exact Cl4) | refine Both.T (by exact rfl) ?_ | refine Both.F (by exact rfl) ?_ | refine Both.GT (by exact rfl) (by exact rfl) ?_ | refine Both.GF (by exact rfl) ?_ | refine Both.GN (by exact rfl) ?_); conv => whnf)
      exact h
  · rw [if_neg h0] at h
    rw [decide_eq_true (show n < 0 by omega)]
    (conv => whnf); repeat ((first | (refine And.intro ?_ ?_; focus exact Cl4) | refine Both.T (by exact rfl) ?_ | refine Both.F (by exact rfl) ?_ | refine Both.GT (by exact rfl) (by exact rfl) ?_ | refine Both.GF (by exact rfl) ?_ | refine Both.GN (by exact rfl) ?_); conv => whnf)
    exact h
theorem name_spec (s : List UInt8) (hs : s.length ≤ 1000000000) (Post : PV → List (Nat × Blk) → Prop) (h : Post (.bool (nameM s)) []) : Spec K 69 [.str s] [] Post := by
  refine is69.specW K_ok K_mix false (by simp) (by simp [keys]) ?_
  (conv => whnf); repeat ((first | (refine And.intro ?_ ?_; focus exact Cl4) | refine Both.T (by exact rfl) ?_ | refine Both.F (by exact rfl) ?_ | refine Both.GT (by exact rfl) (by exact rfl) ?_ | refine Both.GF (by exact rfl) ?_ | refine Both.GN (by exact rfl) ?_); conv => whnf)
  refine ⟨by show ((80 : Nat) : Int) * 1 ≤ _; omega, ?_⟩
  (conv => whnf); repeat ((first | (refine And.intro ?_ ?_; focus exact Cl4) | refine Both.T (by exact rfl) ?_ | refine Both.F (by exact rfl) ?_ | refine Both.GT (by exact rfl) (by exact rfl) ?_ | refine Both.GF (by exact rfl) ?_ | refine Both.GN (by exact rfl) ?_); conv => whnf)
  refine check_spec (.mk 5 0 [] [Vz] [s]) 5 1 [.agg [.int .i64 0, .int .i64 0, .str [], .sl 0 [] true false, .sl 0 [] true false]] _ _ _ ⟨?_, .inl rfl, .inl rfl, (show i64 5 ∧ i64 0 from ⟨⟨by decide, by decide⟩, ⟨by decide, by decide⟩⟩).2, ?_⟩ ?_
  · exact ⟨_, _, rfl, ⟨0, [], true, false, 0, true, false, rfl, rfl, .inr rfl, .inr rfl, ⟨by decide, by decide⟩⟩, rfl⟩
  · simp only [bulkV, bulkVs, nsBulk, Vz, List.length_nil]; omega
  · unfold nameM at h
    cases hm : mayV (.mk 5 0 [] [Vz] [s])
    · rw [hm] at h
      (conv => whnf); repeat ((first | (refine And.intro ?_ ?_; focus exact Cl4) | refine Both.T (by exact rfl) ?_ | refine Both.F (by exact rfl) ?_ | refine Both.GT (by exact rfl) (by exact rfl) ?_ | refine Both.GF (by exact rfl) ?_ | refine Both.GN (by exact rfl) ?_); conv => whnf)
      exact h
    · rw [hm] at h
      (conv => whnf); repeat ((first | (refine And.intro ?_ ?_; focus exact Cl4) | refine Both.T (by exact rfl) ?_ | refine Both.F (by exact rfl) ?_ | refine Both.GT (by exact rfl) (by exact rfl) ?_ | refine Both.GF (by exact rfl) ?_ | refine Both.GN (by exact rfl) ?_); conv => whnf)
      exact h
theorem named_p (p : PG) (n : Int) (zf : Nat) (lf : List PV) (tf : Bool) (zc : Nat) (lc : List PV) (tc : Bool) (hp : PGA p zf lf zc lc) (Post : PV → List (Nat × Blk) → Prop)
    (h : Post (.bool (namedM p n)) [(0, .box (pgc zf lf tf zc lc tc))]) : Spec K 98 [.ptr 0 0, .int .i64 n] [(0, .box (pgc zf lf tf zc lc tc))] Post := by
  refine is98.specW K_ok K_mix false (by simp) (by simp [keys]) ?_
  (conv => whnf); repeat ((first | (refine And.intro ?_ ?_; focus exact Cl4) | refine Both.T (by exact rfl) ?_ | refine Both.F (by exact rfl) ?_ | refine Both.GT (by exact rfl) (by exact rfl) ?_ | refine Both.GF (by exact rfl) ?_ | refine Both.GN (by exact rfl) ?_); conv => whnf)
  refine text_spec p n zf lf tf zc lc tc hp _ ?_
  unfold namedM at h
  have ht : (textM p n).1.length ≤ 1000000000 := by
    unfold textM
    split
    · split
      · rename_i v hv
        have := hp.cb v (List.mem_of_getElem? hv)
        obtain ⟨k, n, s, l, ns⟩ := v
        have h2 := this.2
        simp only [bulkV] at h2
        show s.length ≤ _
        omega
      · simp
    · simp
  generalize textM p n = r at h ht
  obtain ⟨s, b⟩ := r
  (conv => whnf); repeat ((first | (refine And.intro ?_ ?_; focus exact Cl4) | refine Both.T (by exact rfl) ?_ | refine Both.F (by exact rfl) ?_ | refine Both.GT (by exact rfl) (by exact rfl) ?_ | refine Both.GF (by exact rfl) ?_ | refine Both.GN (by exact rfl) ?_); conv => whnf)
  cases b
  · (conv => whnf); repeat ((first | (refine And.intro ?_ ?_; focus exact Cl4) | refine Both.T (by exact rfl) ?_ | refine Both.F (by exact rfl) ?_ | refine Both.GT (by exact rfl) (by exact rfl) ?_ | refine Both.GF (by exact rfl) ?_ | refine Both.GN (by exact rfl) ?_); conv => whnf)
    exact h
  · (conv => whnf); repeat ((first | (refine And.intro ?_ ?_; focus exact Cl4) | refine Both.T (by exact rfl) ?_ | refine Both.F (by exact rfl) ?_ | refine Both.GT (by exact rfl) (by exact rfl) ?_ | refine Both.GF (by exact rfl) ?_ | refine Both.GN (by exact rfl) ?_); conv => whnf)
    refine name_spec s ht _ ?_
    (conv => whnf); repeat ((first | (refine And.intro ?_ ?_; focus exact Cl4) | refine Both.T (by exact rfl) ?_ | refine Both.F (by exact rfl) ?_ | refine Both.GT (by exact rfl) (by exact rfl) ?_ | refine Both.GF (by exact rfl) ?_ | refine Both.GN (by exact rfl) ?_); conv => whnf)
    exact h
end Go.Vc
namespace Go.Vc
open Go Go.Proofs
set_option maxRecDepth 100000
theorem value_site (p : PG) (f : FD) (x : IN) (zf : Nat) (lf : List PV) (tf : Bool) (zc : Nat) (lc : List PV) (tc : Bool) (z : Nat) (t : Bool) (hp : PGA p zf lf zc lc) (Post : PV → List (Nat × Blk) → Prop)
    (h : Post (.bool (inB x.a p.consts.length)) [(0, .box (pgc zf lf tf zc lc tc)), (1, .box (fdc f z t))]) : Spec K 80 [.agg [.ptr 0 0, .ptr 1 0, .int .i64 x.op, .int .i64 x.a, .int .i64 x.b]] [(0, .box (pgc zf lf tf zc lc tc)), (1, .box (fdc f z t))] Post := by
  refine is80.specW K_ok K_mix false (by simp) (by simp [keys]) ?_
  have hc := VPs_len hp.cs
  have hf := FPs_len hp.fs
  have hz := zlc hp
  have hzf := zlf hp
  (conv => whnf); repeat' (first | ((first | (refine And.intro ?_ ?_; focus exact Cl4) | refine Both.T (by exact rfl) ?_ | refine Both.F (by exact rfl) ?_ | refine Both.GT (by exact rfl) (by exact rfl) ?_ | refine Both.GF (by exact rfl) ?_ | refine Both.GN (by exact rfl) ?_); conv => whnf) | (fail; conv => whnf) | ((refine Both.mk ?_ ?_ <;> fail_if_success (intro _)) <;> conv => whnf))
  all_goals (rw [inB_eq _ _ _ hc]; exact h)
theorem local_site (p : PG) (f : FD) (x : IN) (zf : Nat) (lf : List PV) (tf : Bool) (zc : Nat) (lc : List PV) (tc : Bool) (z : Nat) (t : Bool) (hp : PGA p zf lf zc lc) (Post : PV → List (Nat × Blk) → Prop)
    (h : Post (.bool (decide (0 ≤ x.a) && decide (x.a < f.locals))) [(0, .box (pgc zf lf tf zc lc tc)), (1, .box (fdc f z t))]) : Spec K 81 [.agg [.ptr 0 0, .ptr 1 0, .int .i64 x.op, .int .i64 x.a, .int .i64 x.b]] [(0, .box (pgc zf lf tf zc lc tc)), (1, .box (fdc f z t))] Post := by
  refine is81.specW K_ok K_mix false (by simp) (by simp [keys]) ?_
  have hc := VPs_len hp.cs
  have hf := FPs_len hp.fs
  have hz := zlc hp
  have hzf := zlf hp
  have e : (bif decide (0 ≤ x.a) then decide (x.a < f.locals) else false) = (decide (0 ≤ x.a) && decide (x.a < f.locals)) := by cases decide (0 ≤ x.a) <;> rfl
  (conv => whnf); repeat' (first | ((first | (refine And.intro ?_ ?_; focus exact Cl4) | refine Both.T (by exact rfl) ?_ | refine Both.F (by exact rfl) ?_ | refine Both.GT (by exact rfl) (by exact rfl) ?_ | refine Both.GF (by exact rfl) ?_ | refine Both.GN (by exact rfl) ?_); conv => whnf) | (fail; conv => whnf) | ((refine Both.mk ?_ ?_ <;> fail_if_success (intro _)) <;> conv => whnf))
  all_goals (rw [e]; exact h)
theorem count_site (p : PG) (f : FD) (x : IN) (zf : Nat) (lf : List PV) (tf : Bool) (zc : Nat) (lc : List PV) (tc : Bool) (z : Nat) (t : Bool) (hp : PGA p zf lf zc lc) (Post : PV → List (Nat × Blk) → Prop)
    (h : Post (.bool (decide (0 ≤ x.a) && decide (x.a ≤ 8))) [(0, .box (pgc zf lf tf zc lc tc)), (1, .box (fdc f z t))]) : Spec K 82 [.agg [.ptr 0 0, .ptr 1 0, .int .i64 x.op, .int .i64 x.a, .int .i64 x.b]] [(0, .box (pgc zf lf tf zc lc tc)), (1, .box (fdc f z t))] Post := by
  refine is82.specW K_ok K_mix false (by simp) (by simp [keys]) ?_
  have hc := VPs_len hp.cs
  have hf := FPs_len hp.fs
  have hz := zlc hp
  have hzf := zlf hp
  have e : (bif decide (0 ≤ x.a) then decide (x.a ≤ 8) else false) = (decide (0 ≤ x.a) && decide (x.a ≤ 8)) := by cases decide (0 ≤ x.a) <;> rfl
  (conv => whnf); repeat ((first | (refine And.intro ?_ ?_; focus exact Cl4) | refine Both.T (by exact rfl) ?_ | refine Both.F (by exact rfl) ?_ | refine Both.GT (by exact rfl) (by exact rfl) ?_ | refine Both.GF (by exact rfl) ?_ | refine Both.GN (by exact rfl) ?_); conv => whnf)
  rw [e]
  exact h
theorem place_site (p : PG) (f : FD) (x : IN) (zf : Nat) (lf : List PV) (tf : Bool) (zc : Nat) (lc : List PV) (tc : Bool) (z : Nat) (t : Bool) (hp : PGA p zf lf zc lc) (Post : PV → List (Nat × Blk) → Prop)
    (h : Post (.bool (inB x.a f.code.length)) [(0, .box (pgc zf lf tf zc lc tc)), (1, .box (fdc f z t))]) : Spec K 86 [.agg [.ptr 0 0, .ptr 1 0, .int .i64 x.op, .int .i64 x.a, .int .i64 x.b]] [(0, .box (pgc zf lf tf zc lc tc)), (1, .box (fdc f z t))] Post := by
  refine is86.specW K_ok K_mix false (by simp) (by simp [keys]) ?_
  have hc := VPs_len hp.cs
  have hf := FPs_len hp.fs
  have hz := zlc hp
  have hzf := zlf hp
  (conv => whnf); repeat' (first | ((first | (refine And.intro ?_ ?_; focus exact Cl4) | refine Both.T (by exact rfl) ?_ | refine Both.F (by exact rfl) ?_ | refine Both.GT (by exact rfl) (by exact rfl) ?_ | refine Both.GF (by exact rfl) ?_ | refine Both.GN (by exact rfl) ?_); conv => whnf) | (fail; conv => whnf) | ((refine Both.mk ?_ ?_ <;> fail_if_success (intro _)) <;> conv => whnf))
  all_goals (rw [inB_eq _ _ _ (List.length_map _)]; exact h)
theorem fn_site (p : PG) (f : FD) (x : IN) (zf : Nat) (lf : List PV) (tf : Bool) (zc : Nat) (lc : List PV) (tc : Bool) (z : Nat) (t : Bool) (hp : PGA p zf lf zc lc) (Post : PV → List (Nat × Blk) → Prop)
    (h : Post (.bool (inB x.a p.funcs.length)) [(0, .box (pgc zf lf tf zc lc tc)), (1, .box (fdc f z t))]) : Spec K 87 [.agg [.ptr 0 0, .ptr 1 0, .int .i64 x.op, .int .i64 x.a, .int .i64 x.b]] [(0, .box (pgc zf lf tf zc lc tc)), (1, .box (fdc f z t))] Post := by
  refine is87.specW K_ok K_mix false (by simp) (by simp [keys]) ?_
  have hc := VPs_len hp.cs
  have hf := FPs_len hp.fs
  have hz := zlc hp
  have hzf := zlf hp
  (conv => whnf); repeat' (first | ((first | (refine And.intro ?_ ?_; focus exact Cl4) | refine Both.T (by exact rfl) ?_ | refine Both.F (by exact rfl) ?_ | refine Both.GT (by exact rfl) (by exact rfl) ?_ | refine Both.GF (by exact rfl) ?_ | refine Both.GN (by exact rfl) ?_); conv => whnf) | (fail; conv => whnf) | ((refine Both.mk ?_ ?_ <;> fail_if_success (intro _)) <;> conv => whnf))
  all_goals (rw [inB_eq _ _ _ hf]; exact h)
theorem none_site (p : PG) (f : FD) (x : IN) (zf : Nat) (lf : List PV) (tf : Bool) (zc : Nat) (lc : List PV) (tc : Bool) (z : Nat) (t : Bool) (hp : PGA p zf lf zc lc) (Post : PV → List (Nat × Blk) → Prop)
    (h : Post (.bool (x.a == 0)) [(0, .box (pgc zf lf tf zc lc tc)), (1, .box (fdc f z t))]) : Spec K 89 [.agg [.ptr 0 0, .ptr 1 0, .int .i64 x.op, .int .i64 x.a, .int .i64 x.b]] [(0, .box (pgc zf lf tf zc lc tc)), (1, .box (fdc f z t))] Post := by
  refine is89.specW K_ok K_mix false (by simp) (by simp [keys]) ?_
  have hc := VPs_len hp.cs
  have hf := FPs_len hp.fs
  have hz := zlc hp
  have hzf := zlf hp
  (conv => whnf); repeat ((first | (refine And.intro ?_ ?_; focus exact Cl4) | refine Both.T (by exact rfl) ?_ | refine Both.F (by exact rfl) ?_ | refine Both.GT (by exact rfl) (by exact rfl) ?_ | refine Both.GF (by exact rfl) ?_ | refine Both.GN (by exact rfl) ?_); conv => whnf)
  exact h
theorem field_site (p : PG) (f : FD) (x : IN) (zf : Nat) (lf : List PV) (tf : Bool) (zc : Nat) (lc : List PV) (tc : Bool) (z : Nat) (t : Bool) (hp : PGA p zf lf zc lc) (Post : PV → List (Nat × Blk) → Prop)
    (h : Post (.bool (namedM p x.a)) [(0, .box (pgc zf lf tf zc lc tc)), (1, .box (fdc f z t))]) : Spec K 84 [.agg [.ptr 0 0, .ptr 1 0, .int .i64 x.op, .int .i64 x.a, .int .i64 x.b]] [(0, .box (pgc zf lf tf zc lc tc)), (1, .box (fdc f z t))] Post := by
  refine is84.specW K_ok K_mix false (by simp) (by simp [keys]) ?_
  have hc := VPs_len hp.cs
  have hf := FPs_len hp.fs
  have hz := zlc hp
  have hzf := zlf hp
  (conv => whnf); repeat ((first | (refine And.intro ?_ ?_; focus exact Cl4) | refine Both.T (by exact rfl) ?_ | refine Both.F (by exact rfl) ?_ | refine Both.GT (by exact rfl) (by exact rfl) ?_ | refine Both.GF (by exact rfl) ?_ | refine Both.GN (by exact rfl) ?_); conv => whnf)
  refine named_p p x.a zf lf tf zc lc tc hp _ ?_
  (conv => whnf); repeat ((first | (refine And.intro ?_ ?_; focus exact Cl4) | refine Both.T (by exact rfl) ?_ | refine Both.F (by exact rfl) ?_ | refine Both.GT (by exact rfl) (by exact rfl) ?_ | refine Both.GF (by exact rfl) ?_ | refine Both.GN (by exact rfl) ?_); conv => whnf)
  exact h
end Go.Vc
