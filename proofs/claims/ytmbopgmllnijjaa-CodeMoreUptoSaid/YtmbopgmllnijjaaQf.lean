/- What is proved here: contracts of functions of the program: of each function what it hands back and what it leaves in memory. Conditions: those that each theorem names. -/
import Derived.Test.YtmbopgmllnijjaaQe
set_option linter.unusedVariables false
set_option linter.unusedSimpArgs false
set_option linter.unusedSectionVars false
namespace Go.Vc
open Go Go.Proofs
set_option maxRecDepth 100000
/-! The first of a row that a function finds. -/
def sh (i : Nat) (r : Int) : Int := if r = -1 then -1 else r + i
theorem idxL_ge {α : Type} (P : α → Bool) : ∀ l, -1 ≤ idxL P l ∧ idxL P l < l.length
  | [] => by simp [idxL]
  | f :: r => by
    have := idxL_ge P r
    simp only [idxL, List.length_cons]
    split
    · omega
    · split <;> omega
theorem idxL_cons {α : Type} (P : α → Bool) (f : α) (r : List α) : idxL P (f :: r) = if P f = true then 0 else if idxL P r = -1 then -1 else idxL P r + 1 := rfl
theorem idxL_any {α : Type} (P : α → Bool) : ∀ l, decide (0 ≤ idxL P l) = l.any P
  | [] => rfl
  | f :: r => by
    have h := idxL_any P r
    have hg := idxL_ge P r
    rw [List.any_cons, ← h, Bool.eq_iff_iff, decide_eq_true_eq, idxL_cons, Bool.or_eq_true, decide_eq_true_eq]
    by_cases hp : P f = true
    · rw [if_pos hp]; simp [hp]
    · rw [if_neg hp]
      split <;> simp [hp] <;> omega
theorem sh_step {α : Type} {P : α → Bool} {l : List α} {i : Nat} (hi : i < l.length) (hp : P l[i] = false) : sh i (idxL P (l.drop i)) = sh (i + 1) (idxL P (l.drop (i + 1))) := by
  rw [List.drop_eq_getElem_cons hi]
  have hg := idxL_ge P (l.drop (i + 1))
  simp only [idxL, hp, sh]
  generalize idxL P (l.drop (i + 1)) = r at hg
  by_cases hr : r = -1
  · simp [hr]
  · simp [hr]
    split <;> omega
theorem sh_hit {α : Type} {P : α → Bool} {l : List α} {i : Nat} (hi : i < l.length) (hp : P l[i] = true) : sh i (idxL P (l.drop i)) = i := by
  rw [List.drop_eq_getElem_cons hi]
  simp [idxL, hp, sh]
theorem sh_end {α : Type} {P : α → Bool} {l : List α} : sh l.length (idxL P (l.drop l.length)) = -1 := by
  rw [List.drop_length]; rfl
theorem sh_zero {α : Type} {P : α → Bool} {l : List α} : sh 0 (idxL P (l.drop 0)) = idxL P l := by
  rw [List.drop_zero]; unfold sh; split <;> omega
theorem long_spec (f : FD) (z : Nat) (t : Bool) (Post : PV → List (Nat × Blk) → Prop) (h : Post (.bool (decide (512 < f.code.length))) []) : Spec K 44 [.agg (fdc f z t)] [] Post := by
  refine is44.specW K_ok K_mix false (by simp) (by simp [keys]) ?_
  (conv => whnf); repeat ((first | (refine And.intro ?_ ?_; focus exact Cl4) | refine Both.T (by exact rfl) ?_ | refine Both.F (by exact rfl) ?_ | refine Both.GT (by exact rfl) (by exact rfl) ?_ | refine Both.GF (by exact rfl) ?_ | refine Both.GN (by exact rfl) ?_); conv => whnf)
  rw [List.length_map]
  rw [show decide (512 < (f.code.length : Int)) = decide (512 < f.code.length) from decide_eq_decide.2 (by omega)]
  exact h
theorem odd_c (v : V) (z1 z2 : Nat) (lp : List PV) (t1 t2 : Bool) (a : VA v z1 lp z2) (Post : PV → List (Nat × Blk) → Prop) (h : Post (.bool (!mayV v)) []) : Spec K 46 [.agg (vc v z1 lp t1 z2 t2)] [] Post := by
  refine is46.specW K_ok K_mix false (by simp) (by simp [keys]) ?_
  (conv => whnf); repeat ((first | (refine And.intro ?_ ?_; focus exact Cl4) | refine Both.T (by exact rfl) ?_ | refine Both.F (by exact rfl) ?_ | refine Both.GT (by exact rfl) (by exact rfl) ?_ | refine Both.GF (by exact rfl) ?_ | refine Both.GN (by exact rfl) ?_); conv => whnf)
  refine check_spec v z1 z2 lp t1 t2 _ a ?_
  cases hm : mayV v
  · rw [hm] at h
    (conv => whnf); repeat ((first | (refine And.intro ?_ ?_; focus exact Cl4) | refine Both.T (by exact rfl) ?_ | refine Both.F (by exact rfl) ?_ | refine Both.GT (by exact rfl) (by exact rfl) ?_ | refine Both.GF (by exact rfl) ?_ | refine Both.GN (by exact rfl) ?_); conv => whnf)
    exact h
  · rw [hm] at h
    (conv => whnf); repeat ((first | (refine And.intro ?_ ?_; focus exact Cl4) | refine Both.T (by exact rfl) ?_ | refine Both.F (by exact rfl) ?_ | refine Both.GT (by exact rfl) (by exact rfl) ?_ | refine Both.GF (by exact rfl) ?_ | refine Both.GN (by exact rfl) ?_); conv => whnf)
    exact h
theorem same_c (f : FD) (z : Nat) (t : Bool) (s : List UInt8) (Post : PV → List (Nat × Blk) → Prop) (h : Post (.bool (f.name == s)) [(0, .box [.str s])]) : Spec K 62 [.agg (fdc f z t), .ptr 0 0] [(0, .box [.str s])] Post := by
  refine is62.specW K_ok K_mix false (by simp) (by simp [keys]) ?_
  (conv => whnf); repeat ((first | (refine And.intro ?_ ?_; focus exact Cl4) | refine Both.T (by exact rfl) ?_ | refine Both.F (by exact rfl) ?_ | refine Both.GT (by exact rfl) (by exact rfl) ?_ | refine Both.GF (by exact rfl) ?_ | refine Both.GN (by exact rfl) ?_); conv => whnf)
  exact h
set_option maxHeartbeats 4000000 in
theorem index_long  (l : List FD) (z : Nat) (lp : List PV) (t : Bool) (hl : FPs l lp) (hz : z = 4 ∨ l = []) (hn : l.length ≤ 1000000000) (Post : PV → List (Nat × Blk) → Prop) (h : Post (.int .i64 (idxL (fun f => decide (512 < f.code.length)) l)) []) : Spec K 61 [.sl z lp t true, .fn (.func 44) [] []] [] Post := by
  refine is61.specW K_ok K_mix false (by simp) (by simp [keys]) ?_
  have hlen := FPs_len hl
  have hz2 : z = 4 ∨ lp = [] := hz.imp id fun h => by rw [h] at hlen; exact List.length_eq_zero_iff.1 hlen
  (conv => whnf); repeat ((first | (refine And.intro ?_ ?_; focus exact Cl4) | refine Both.T (by exact rfl) ?_ | refine Both.F (by exact rfl) ?_ | refine Both.GT (by exact rfl) (by exact rfl) ?_ | refine Both.GF (by exact rfl) ?_ | refine Both.GN (by exact rfl) ?_); conv => whnf)
  rw [hlen]
  refine ⟨Nat, fun i => ⟨19, [(8, .int .i64 i), (7, .int .i64 l.length), (1, .fn (.func 44) [] []), (0, .sl z lp t true)], [], []⟩, fun i => i ≤ l.length ∧ idxL (fun f => decide (512 < f.code.length)) l = sh i (idxL (fun f => decide (512 < f.code.length)) (l.drop i)), fun i => l.length - i, ⟨[], 0, ⟨Nat.zero_le _, sh_zero.symm⟩, ?_⟩, fun i hI => ?_⟩
  · simp [meets, ghosts, St.le, St.get, look, keys, PV.labs, labsL, lookB, Blk.labs]
  · obtain ⟨hi, hin⟩ := hI
    conv => (arg 5; dsimp only)
    (conv => whnf); repeat ((first | (refine And.intro ?_ ?_; focus exact Cl4) | refine Both.T (by exact rfl) ?_ | refine Both.F (by exact rfl) ?_ | refine Both.GT (by exact rfl) (by exact rfl) ?_ | refine Both.GF (by exact rfl) ?_ | refine Both.GN (by exact rfl) ?_); conv => whnf)
    by_cases hix : i < l.length
    · have hilp : i < lp.length := by omega
      rw [decide_eq_true (show (i : Int) < (l.length : Int) by omega)]
      (conv => whnf); repeat ((first | (refine And.intro ?_ ?_; focus exact Cl4) | refine Both.T (by exact rfl) ?_ | refine Both.F (by exact rfl) ?_ | refine Both.GT (by exact rfl) (by exact rfl) ?_ | refine Both.GF (by exact rfl) ?_ | refine Both.GN (by exact rfl) ?_); conv => whnf)
      obtain ⟨y, u, o, hq, hy⟩ := FPs_nth hl hix
      rw [Int.toNat_natCast, hq]
      (conv => whnf); repeat ((first | (refine And.intro ?_ ?_; focus exact Cl4) | refine Both.T (by exact rfl) ?_ | refine Both.F (by exact rfl) ?_ | refine Both.GT (by exact rfl) (by exact rfl) ?_ | refine Both.GF (by exact rfl) ?_ | refine Both.GN (by exact rfl) ?_); conv => whnf)
      refine long_spec l[i] _ _ _ ?_
      cases hp : (fun f => decide (512 < f.code.length)) l[i]
      · refine Both.F hp ?_
        (conv => whnf); repeat ((first | (refine And.intro ?_ ?_; focus exact Cl4) | refine Both.T (by exact rfl) ?_ | refine Both.F (by exact rfl) ?_ | refine Both.GT (by exact rfl) (by exact rfl) ?_ | refine Both.GF (by exact rfl) ?_ | refine Both.GN (by exact rfl) ?_); conv => whnf)
        rw [wrap64 (n := (i : Int) + 1) (by omega) (by omega)]
        refine ⟨[], i + 1, ⟨hix, by rw [hin]; exact sh_step hix hp⟩, by show l.length - (i + 1) < l.length - i; omega, ?_⟩
        simp [meets, ghosts, St.le, St.get, look, keys, PV.labs, labsL, lookB, Blk.labs]
      · refine Both.T hp ?_
        (conv => whnf); repeat ((first | (refine And.intro ?_ ?_; focus exact Cl4) | refine Both.T (by exact rfl) ?_ | refine Both.F (by exact rfl) ?_ | refine Both.GT (by exact rfl) (by exact rfl) ?_ | refine Both.GF (by exact rfl) ?_ | refine Both.GN (by exact rfl) ?_); conv => whnf)
        rw [hin, sh_hit hix hp] at h
        exact h
    · obtain rfl : i = l.length := by omega
      rw [decide_eq_false (show ¬ (l.length : Int) < (l.length : Int) by omega)]
      (conv => whnf); repeat ((first | (refine And.intro ?_ ?_; focus exact Cl4) | refine Both.T (by exact rfl) ?_ | refine Both.F (by exact rfl) ?_ | refine Both.GT (by exact rfl) (by exact rfl) ?_ | refine Both.GF (by exact rfl) ?_ | refine Both.GN (by exact rfl) ?_); conv => whnf)
      rw [hin, sh_end] at h
      exact h
set_option maxHeartbeats 4000000 in
theorem index_name (s : List UInt8) (l : List FD) (z : Nat) (lp : List PV) (t : Bool) (hl : FPs l lp) (hz : z = 4 ∨ l = []) (hn : l.length ≤ 1000000000) (Post : PV → List (Nat × Blk) → Prop) (h : Post (.int .i64 (idxL (fun f => f.name == s) l)) [(0, .box [.str s])]) : Spec K 61 [.sl z lp t true, .fn (.func 62) [] [.ptr 0 0]] [(0, .box [.str s])] Post := by
  refine is61.specW K_ok K_mix false (by simp) (by simp [keys]) ?_
  have hlen := FPs_len hl
  have hz2 : z = 4 ∨ lp = [] := hz.imp id fun h => by rw [h] at hlen; exact List.length_eq_zero_iff.1 hlen
  (conv => whnf); repeat ((first | (refine And.intro ?_ ?_; focus exact Cl4) | refine Both.T (by exact rfl) ?_ | refine Both.F (by exact rfl) ?_ | refine Both.GT (by exact rfl) (by exact rfl) ?_ | refine Both.GF (by exact rfl) ?_ | refine Both.GN (by exact rfl) ?_); conv => whnf)
  rw [hlen]
  refine ⟨Nat, fun i => ⟨19, [(8, .int .i64 i), (7, .int .i64 l.length), (1, .fn (.func 62) [] [.ptr 0 0]), (0, .sl z lp t true)], [(0, .box [.str s])], [0]⟩, fun i => i ≤ l.length ∧ idxL (fun f => f.name == s) l = sh i (idxL (fun f => f.name == s) (l.drop i)), fun i => l.length - i, ⟨[], 0, ⟨Nat.zero_le _, sh_zero.symm⟩, ?_⟩, fun i hI => ?_⟩
  · simp [meets, ghosts, St.le, St.get, look, keys, PV.labs, labsL, lookB, Blk.labs]
  · obtain ⟨hi, hin⟩ := hI
    conv => (arg 5; dsimp only)
    (conv => whnf); repeat ((first | (refine And.intro ?_ ?_; focus exact Cl4) | refine Both.T (by exact rfl) ?_ | refine Both.F (by exact rfl) ?_ | refine Both.GT (by exact rfl) (by exact rfl) ?_ | refine Both.GF (by exact rfl) ?_ | refine Both.GN (by exact rfl) ?_); conv => whnf)
    by_cases hix : i < l.length
    · have hilp : i < lp.length := by omega
      rw [decide_eq_true (show (i : Int) < (l.length : Int) by omega)]
      (conv => whnf); repeat ((first | (refine And.intro ?_ ?_; focus exact Cl4) | refine Both.T (by exact rfl) ?_ | refine Both.F (by exact rfl) ?_ | refine Both.GT (by exact rfl) (by exact rfl) ?_ | refine Both.GF (by exact rfl) ?_ | refine Both.GN (by exact rfl) ?_); conv => whnf)
      obtain ⟨y, u, o, hq, hy⟩ := FPs_nth hl hix
      rw [Int.toNat_natCast, hq]
      (conv => whnf); repeat ((first | (refine And.intro ?_ ?_; focus exact Cl4) | refine Both.T (by exact rfl) ?_ | refine Both.F (by exact rfl) ?_ | refine Both.GT (by exact rfl) (by exact rfl) ?_ | refine Both.GF (by exact rfl) ?_ | refine Both.GN (by exact rfl) ?_); conv => whnf)
      refine same_c l[i] _ _ s _ ?_
      cases hp : (fun f => f.name == s) l[i]
      · refine Both.F hp ?_
        (conv => whnf); repeat ((first | (refine And.intro ?_ ?_; focus exact Cl4) | refine Both.T (by exact rfl) ?_ | refine Both.F (by exact rfl) ?_ | refine Both.GT (by exact rfl) (by exact rfl) ?_ | refine Both.GF (by exact rfl) ?_ | refine Both.GN (by exact rfl) ?_); conv => whnf)
        rw [wrap64 (n := (i : Int) + 1) (by omega) (by omega)]
        refine ⟨[], i + 1, ⟨hix, by rw [hin]; exact sh_step hix hp⟩, by show l.length - (i + 1) < l.length - i; omega, ?_⟩
        simp [meets, ghosts, St.le, St.get, look, keys, PV.labs, labsL, lookB, Blk.labs]
      · refine Both.T hp ?_
        (conv => whnf); repeat ((first | (refine And.intro ?_ ?_; focus exact Cl4) | refine Both.T (by exact rfl) ?_ | refine Both.F (by exact rfl) ?_ | refine Both.GT (by exact rfl) (by exact rfl) ?_ | refine Both.GF (by exact rfl) ?_ | refine Both.GN (by exact rfl) ?_); conv => whnf)
        rw [hin, sh_hit hix hp] at h
        exact h
    · obtain rfl : i = l.length := by omega
      rw [decide_eq_false (show ¬ (l.length : Int) < (l.length : Int) by omega)]
      (conv => whnf); repeat ((first | (refine And.intro ?_ ?_; focus exact Cl4) | refine Both.T (by exact rfl) ?_ | refine Both.F (by exact rfl) ?_ | refine Both.GT (by exact rfl) (by exact rfl) ?_ | refine Both.GF (by exact rfl) ?_ | refine Both.GN (by exact rfl) ?_); conv => whnf)
      rw [hin, sh_end] at h
      exact h
set_option maxHeartbeats 4000000 in
theorem index_odd  (l : List V) (z : Nat) (lp : List PV) (t : Bool) (hl : VPs l lp) (hz : z = 5 ∨ l = []) (hn : l.length ≤ 1000000000) (hb : ∀ v ∈ l, i64 v.n ∧ bulkV v ≤ 1000000000) (Post : PV → List (Nat × Blk) → Prop) (h : Post (.int .i64 (idxL (fun v => !mayV v) l)) []) : Spec K 70 [.sl z lp t true, .fn (.func 46) [] []] [] Post := by
  refine is70.specW K_ok K_mix false (by simp) (by simp [keys]) ?_
  have hlen := VPs_len hl
  have hz2 : z = 5 ∨ lp = [] := hz.imp id fun h => by rw [h] at hlen; exact List.length_eq_zero_iff.1 hlen
  (conv => whnf); repeat ((first | (refine And.intro ?_ ?_; focus exact Cl4) | refine Both.T (by exact rfl) ?_ | refine Both.F (by exact rfl) ?_ | refine Both.GT (by exact rfl) (by exact rfl) ?_ | refine Both.GF (by exact rfl) ?_ | refine Both.GN (by exact rfl) ?_); conv => whnf)
  rw [hlen]
  refine ⟨Nat, fun i => ⟨19, [(8, .int .i64 i), (7, .int .i64 l.length), (1, .fn (.func 46) [] []), (0, .sl z lp t true)], [], []⟩, fun i => i ≤ l.length ∧ idxL (fun v => !mayV v) l = sh i (idxL (fun v => !mayV v) (l.drop i)), fun i => l.length - i, ⟨[], 0, ⟨Nat.zero_le _, sh_zero.symm⟩, ?_⟩, fun i hI => ?_⟩
  · simp [meets, ghosts, St.le, St.get, look, keys, PV.labs, labsL, lookB, Blk.labs]
  · obtain ⟨hi, hin⟩ := hI
    conv => (arg 5; dsimp only)
    (conv => whnf); repeat ((first | (refine And.intro ?_ ?_; focus exact Cl4) | refine Both.T (by exact rfl) ?_ | refine Both.F (by exact rfl) ?_ | refine Both.GT (by exact rfl) (by exact rfl) ?_ | refine Both.GF (by exact rfl) ?_ | refine Both.GN (by exact rfl) ?_); conv => whnf)
    by_cases hix : i < l.length
    · have hilp : i < lp.length := by omega
      rw [decide_eq_true (show (i : Int) < (l.length : Int) by omega)]
      (conv => whnf); repeat ((first | (refine And.intro ?_ ?_; focus exact Cl4) | refine Both.T (by exact rfl) ?_ | refine Both.F (by exact rfl) ?_ | refine Both.GT (by exact rfl) (by exact rfl) ?_ | refine Both.GF (by exact rfl) ?_ | refine Both.GN (by exact rfl) ?_); conv => whnf)
      obtain ⟨y1, mp, u1, o1, y2, u2, o2, hq, hv, g1, g2, g3⟩ := (VPs_nth hl hix).out
      have hbv := hb l[i] (List.getElem_mem hix)
      rw [Int.toNat_natCast, hq]
      (conv => whnf); repeat ((first | (refine And.intro ?_ ?_; focus exact Cl4) | refine Both.T (by exact rfl) ?_ | refine Both.F (by exact rfl) ?_ | refine Both.GT (by exact rfl) (by exact rfl) ?_ | refine Both.GF (by exact rfl) ?_ | refine Both.GN (by exact rfl) ?_); conv => whnf)
      refine odd_c l[i] _ _ mp _ _ ⟨hv, g1, g2, hbv.1, by have := hbv.2; omega⟩ _ ?_
      cases hp : (fun v => !mayV v) l[i]
      · refine Both.F hp ?_
        (conv => whnf); repeat ((first | (refine And.intro ?_ ?_; focus exact Cl4) | refine Both.T (by exact rfl) ?_ | refine Both.F (by exact rfl) ?_ | refine Both.GT (by exact rfl) (by exact rfl) ?_ | refine Both.GF (by exact rfl) ?_ | refine Both.GN (by exact rfl) ?_); conv => whnf)
        rw [wrap64 (n := (i : Int) + 1) (by omega) (by omega)]
        refine ⟨[], i + 1, ⟨hix, by rw [hin]; exact sh_step hix hp⟩, by show l.length - (i + 1) < l.length - i; omega, ?_⟩
        simp [meets, ghosts, St.le, St.get, look, keys, PV.labs, labsL, lookB, Blk.labs]
      · refine Both.T hp ?_
        (conv => whnf); repeat ((first | (refine And.intro ?_ ?_; focus exact Cl4) | refine Both.T (by exact rfl) ?_ | refine Both.F (by exact rfl) ?_ | refine Both.GT (by exact rfl) (by exact rfl) ?_ | refine Both.GF (by exact rfl) ?_ | refine Both.GN (by exact rfl) ?_); conv => whnf)
        rw [hin, sh_hit hix hp] at h
        exact h
    · obtain rfl : i = l.length := by omega
      rw [decide_eq_false (show ¬ (l.length : Int) < (l.length : Int) by omega)]
      (conv => whnf); repeat ((first | (refine And.intro ?_ ?_; focus exact Cl4) | refine Both.T (by exact rfl) ?_ | refine Both.F (by exact rfl) ?_ | refine Both.GT (by exact rfl) (by exact rfl) ?_ | refine Both.GF (by exact rfl) ?_ | refine Both.GN (by exact rfl) ?_); conv => whnf)
      rw [hin, sh_end] at h
      exact h
end Go.Vc
namespace Go.Vc
open Go Go.Proofs
set_option maxRecDepth 100000
/-! Does a row hold one of a kind? -/
theorem any_long (l : List FD) (z : Nat) (lp : List PV) (t : Bool) (hl : FPs l lp) (hz : z = 4 ∨ l = []) (hn : l.length ≤ 1000000000) (Post : PV → List (Nat × Blk) → Prop)
    (h : Post (.bool (l.any fun f => decide (512 < f.code.length))) []) : Spec K 45 [.sl z lp t true, .fn (.func 44) [] []] [] Post := by
  refine is45.specW K_ok K_mix false (by simp) (by simp [keys]) ?_
  (conv => whnf); repeat ((first | (refine And.intro ?_ ?_; focus exact Cl4) | refine Both.T (by exact rfl) ?_ | refine Both.F (by exact rfl) ?_ | refine Both.GT (by exact rfl) (by exact rfl) ?_ | refine Both.GF (by exact rfl) ?_ | refine Both.GN (by exact rfl) ?_); conv => whnf)
  refine index_long l z lp t hl hz hn _ ?_
  (conv => whnf); repeat ((first | (refine And.intro ?_ ?_; focus exact Cl4) | refine Both.T (by exact rfl) ?_ | refine Both.F (by exact rfl) ?_ | refine Both.GT (by exact rfl) (by exact rfl) ?_ | refine Both.GF (by exact rfl) ?_ | refine Both.GN (by exact rfl) ?_); conv => whnf)
  rw [idxL_any]
  exact h
theorem any_odd (l : List V) (z : Nat) (lp : List PV) (t : Bool) (hl : VPs l lp) (hz : z = 5 ∨ l = []) (hn : l.length ≤ 1000000000) (hb : ∀ v ∈ l, i64 v.n ∧ bulkV v ≤ 1000000000) (Post : PV → List (Nat × Blk) → Prop)
    (h : Post (.bool (l.any fun v => !mayV v)) []) : Spec K 50 [.sl z lp t true, .fn (.func 46) [] []] [] Post := by
  refine is50.specW K_ok K_mix false (by simp) (by simp [keys]) ?_
  (conv => whnf); repeat ((first | (refine And.intro ?_ ?_; focus exact Cl4) | refine Both.T (by exact rfl) ?_ | refine Both.F (by exact rfl) ?_ | refine Both.GT (by exact rfl) (by exact rfl) ?_ | refine Both.GF (by exact rfl) ?_ | refine Both.GN (by exact rfl) ?_); conv => whnf)
  refine index_odd l z lp t hl hz hn hb _ ?_
  (conv => whnf); repeat ((first | (refine And.intro ?_ ?_; focus exact Cl4) | refine Both.T (by exact rfl) ?_ | refine Both.F (by exact rfl) ?_ | refine Both.GT (by exact rfl) (by exact rfl) ?_ | refine Both.GF (by exact rfl) ?_ | refine Both.GN (by exact rfl) ?_); conv => whnf)
  rw [idxL_any]
  exact h
theorem find_spec (p : PG) (s : List UInt8) (zf : Nat) (lf : List PV) (tf : Bool) (zc : Nat) (lc : List PV) (tc : Bool) (hp : PGA p zf lf zc lc) (Post : PV → List (Nat × Blk) → Prop)
    (h : Post (.tup [.int .i64 (if 0 > findM p s then 0 else findM p s), .bool (decide (0 ≤ findM p s))]) []) : Spec K 34 [.agg (pgc zf lf tf zc lc tc), .str s] [] Post := by
  refine is34.specW K_ok K_mix false (by simp) (by simp [keys]) ?_
  (conv => whnf); repeat ((first | (refine And.intro ?_ ?_; focus exact Cl4) | refine Both.T (by exact rfl) ?_ | refine Both.F (by exact rfl) ?_ | refine Both.GT (by exact rfl) (by exact rfl) ?_ | refine Both.GF (by exact rfl) ?_ | refine Both.GN (by exact rfl) ?_); conv => whnf)
  refine index_name s p.funcs zf lf tf hp.fs hp.zf hp.nf _ ?_
  (conv => whnf); repeat ((first | (refine And.intro ?_ ?_; focus exact Cl4) | refine Both.T (by exact rfl) ?_ | refine Both.F (by exact rfl) ?_ | refine Both.GT (by exact rfl) (by exact rfl) ?_ | refine Both.GF (by exact rfl) ?_ | refine Both.GN (by exact rfl) ?_); conv => whnf)
  exact h
theorem VPs_rep : ∀ n, VPs (List.replicate n Vz) (List.replicate n (.agg [.int .i64 0, .int .i64 0, .str [], .sl 0 [] true false, .sl 0 [] true false]))
  | 0 => rfl
  | n + 1 => ⟨_, _, rfl, ⟨0, [], true, false, 0, true, false, rfl, rfl, .inr rfl, .inr rfl, ⟨by decide, by decide⟩⟩, VPs_rep n⟩
theorem bulk_rep : ∀ n, bulkVs (List.replicate n Vz) = n
  | 0 => rfl
  | n + 1 => by rw [List.replicate_succ, bulkVs, bulk_rep n]; simp [Vz, bulkV, nsBulk, bulkVs]; omega
theorem bulk_names : ∀ l : List V, nsBulk (l.map V.s) ≤ bulkVs l
  | [] => Nat.le_refl _
  | .mk k n s l ns :: r => by
    have := bulk_names r
    simp only [List.map_cons, nsBulk, bulkVs, bulkV, V.s]
    omega
theorem strs_app (a b : List (List UInt8)) : strs (a ++ b) = strs a ++ strs b := List.map_append ..
set_option maxHeartbeats 8000000 in
theorem record_spec (v : V) (z1 z2 : Nat) (lp : List PV) (t1 t2 : Bool) (a : VA v z1 lp z2) (hb : bulkV v ≤ 1000000000) (Post : PV → List (Nat × Blk) → Prop) (h : Post (.bool (recordM v)) []) : Spec K 97 [.agg (vc v z1 lp t1 z2 t2)] [] Post := by
  obtain ⟨k, n, s, l, ns⟩ := v
  have hl : VPs l lp := a.l
  have hz1 : z1 = 5 ∨ l = [] := a.z1
  have hlen := VPs_len hl
  have hz : z1 = 5 ∨ lp = [] := hz1.imp id fun h => by rw [h] at hlen; exact List.length_eq_zero_iff.1 hlen
  have hbl : bulkVs l ≤ 1000000000 := by simp only [bulkV] at hb; omega
  have hll := len_sizeVs l
  have hsb := sizes_bulk l
  simp only [vc, V.k, V.n, V.s, V.l, V.ns] at *
  have hze : zeroElem K 66 = .agg [.int .i64 0, .int .i64 0, .str [], .sl 0 [] true false, .sl 0 [] true false] := rfl
  have hk5 : K.size 9 = 1 := rfl
  refine is97.specW K_ok K_mix false (by simp) (by simp [keys]) ?_
  (conv => whnf); repeat ((first | (refine And.intro ?_ ?_; focus exact Cl4) | refine Both.T (by exact rfl) ?_ | refine Both.F (by exact rfl) ?_ | refine Both.GT (by exact rfl) (by exact rfl) ?_ | refine Both.GF (by exact rfl) ?_ | refine Both.GN (by exact rfl) ?_); conv => whnf)
  refine ⟨by rw [hlen]; show ((80 : Nat) : Int) * (l.length : Int) ≤ _; omega, ?_⟩
  (conv => whnf); repeat ((first | (refine And.intro ?_ ?_; focus exact Cl4) | refine Both.T (by exact rfl) ?_ | refine Both.F (by exact rfl) ?_ | refine Both.GT (by exact rfl) (by exact rfl) ?_ | refine Both.GF (by exact rfl) ?_ | refine Both.GN (by exact rfl) ?_); conv => whnf)
  rw [hlen]
  refine ⟨Nat, fun i => ⟨43, [(14, .int .i64 i), (13, .int .i64 l.length), (12, .sl z1 lp t1 true), (3, .ptr 2 0), (1, .ptr 0 0), (2, .bool false)],
    [(0, .box [.int .i64 k, .int .i64 n, .str s, .sl z1 lp t1 true, .sl z2 (strs ns) t2 true]), (1, .row 66 5 (List.replicate l.length (.agg [.int .i64 0, .int .i64 0, .str [], .sl 0 [] true false, .sl 0 [] true false])) false), (2, .box [.int .i64 5, .int .i64 0, .str [], .ref 5 1 0 l.length, .ref 1 3 0 i]), (3, .row 9 1 (strs ((l.take i).map V.s)) false)], []⟩,
    fun i => i ≤ l.length ∧ (l.take i).all (fun x => x.k == 3) = true, fun i => l.length - i, ⟨[.cell 2 4 9], 0, ⟨Nat.zero_le _, rfl⟩, ?_⟩, fun i hI => ?_⟩
  · rw [Int.toNat_natCast, hze]
    simp [meets, ghosts, ghost, St.le, St.get, St.put, look, keys, PV.labs, labsL, lookB, updB, Blk.labs, fresh, nth, strs, hk5]
  · obtain ⟨hi, hin⟩ := hI
    conv => (arg 5; dsimp only)
    (conv => whnf); repeat ((first | (refine And.intro ?_ ?_; focus exact Cl4) | refine Both.T (by exact rfl) ?_ | refine Both.F (by exact rfl) ?_ | refine Both.GT (by exact rfl) (by exact rfl) ?_ | refine Both.GF (by exact rfl) ?_ | refine Both.GN (by exact rfl) ?_); conv => whnf)
    by_cases hix : i < l.length
    · have hilp : i < lp.length := by omega
      rw [decide_eq_true (show (i : Int) < (l.length : Int) by omega)]
      (conv => whnf); repeat ((first | (refine And.intro ?_ ?_; focus exact Cl4) | refine Both.T (by exact rfl) ?_ | refine Both.F (by exact rfl) ?_ | refine Both.GT (by exact rfl) (by exact rfl) ?_ | refine Both.GF (by exact rfl) ?_ | refine Both.GN (by exact rfl) ?_); conv => whnf)
      obtain ⟨y1, mp, u1, o1, y2, u2, o2, hq, hv, g1, g2, g3⟩ := (VPs_nth hl hix).out
      rw [Int.toNat_natCast, hq]
      (conv => whnf); repeat ((first | (refine And.intro ?_ ?_; focus exact Cl4) | refine Both.T (by exact rfl) ?_ | refine Both.F (by exact rfl) ?_ | refine Both.GT (by exact rfl) (by exact rfl) ?_ | refine Both.GF (by exact rfl) ?_ | refine Both.GN (by exact rfl) ?_); conv => whnf)
      by_cases hk : l[i].k = 3
      · rw [hk]
        (conv => whnf); repeat ((first | (refine And.intro ?_ ?_; focus exact Cl4) | refine Both.T (by exact rfl) ?_ | refine Both.F (by exact rfl) ?_ | refine Both.GT (by exact rfl) (by exact rfl) ?_ | refine Both.GF (by exact rfl) ?_ | refine Both.GN (by exact rfl) ?_); conv => whnf)
        refine ⟨by show (i + 1) * 17 ≤ _; omega, ?_⟩
        (conv => whnf); repeat ((first | (refine And.intro ?_ ?_; focus exact Cl4) | refine Both.T (by exact rfl) ?_ | refine Both.F (by exact rfl) ?_ | refine Both.GT (by exact rfl) (by exact rfl) ?_ | refine Both.GF (by exact rfl) ?_ | refine Both.GN (by exact rfl) ?_); conv => whnf)
        rw [wrap64 (n := (i : Int) + 1) (by omega) (by omega)]
        have hrow : List.take i (strs (List.map V.s (List.take i l))) ++ List.take 1 (List.drop 0 [PV.str l[i].s]) = strs (List.map V.s (List.take (i + 1) l)) := by
          rw [List.take_of_length_le (by rw [strs_len, List.length_map, List.length_take]; omega), List.take_succ_eq_append_getElem hix, List.map_append, strs_app]; rfl
        rw [hrow]
        refine ⟨[], i + 1, ⟨hix, by rw [List.take_succ_eq_append_getElem hix, List.all_append, hin]; simp [hk]⟩, by show l.length - (i + 1) < l.length - i; omega, ?_⟩
        simp [meets, ghosts, St.le, St.get, look, keys, PV.labs, labsL, lookB, Blk.labs]
      · have hk2 : (l[i].k != 3) = true := by simpa using hk
        rw [hk2]
        (conv => whnf); repeat ((first | (refine And.intro ?_ ?_; focus exact Cl4) | refine Both.T (by exact rfl) ?_ | refine Both.F (by exact rfl) ?_ | refine Both.GT (by exact rfl) (by exact rfl) ?_ | refine Both.GF (by exact rfl) ?_ | refine Both.GN (by exact rfl) ?_); conv => whnf)
        have hf : recordM (.mk k n s l ns) = false := by
          have : l.all (fun x => x.k == 3) = false := by
            rw [List.all_eq_false]
            exact ⟨l[i], List.getElem_mem hix, by simpa using hk⟩
          show (l.all (fun x => x.k == 3) && _) = false
          rw [this]; rfl
        rw [hf] at h
        exact h
    · obtain rfl : i = l.length := by omega
      rw [decide_eq_false (show ¬ (l.length : Int) < (l.length : Int) by omega)]
      (conv => whnf); repeat ((first | (refine And.intro ?_ ?_; focus exact Cl4) | refine Both.T (by exact rfl) ?_ | refine Both.F (by exact rfl) ?_ | refine Both.GT (by exact rfl) (by exact rfl) ?_ | refine Both.GF (by exact rfl) ?_ | refine Both.GN (by exact rfl) ?_); conv => whnf)
      have hall : l.all (fun x => x.k == 3) = true := by rw [List.take_length] at hin; exact hin
      have hre : recordM (.mk k n s l ns) = ((bif k == 4 then decide ((lp.length : Int) ≤ 8) else false) && mayV (.mk 5 0 [] (List.replicate l.length Vz) (l.map V.s))) := by
        show (l.all (fun x => x.k == 3) && (k == 4 && decide (l.length ≤ 8) && _)) = _
        rw [hall, hlen, show decide ((l.length : Int) ≤ 8) = decide (l.length ≤ 8) from decide_eq_decide.2 (by omega)]
        cases k == 4 <;> rfl
      rw [hre] at h
      clear hre
      cases hb2 : (bif k == 4 then decide ((lp.length : Int) ≤ 8) else false)
      · rw [hb2] at h
        refine Both.GF rfl ?_
        (conv => whnf); repeat ((first | (refine And.intro ?_ ?_; focus exact Cl4) | refine Both.T (by exact rfl) ?_ | refine Both.F (by exact rfl) ?_ | refine Both.GT (by exact rfl) (by exact rfl) ?_ | refine Both.GF (by exact rfl) ?_ | refine Both.GN (by exact rfl) ?_); conv => whnf)
        exact h
      · rw [hb2] at h
        refine Both.GT rfl rfl ?_
        (conv => whnf); repeat ((first | (refine And.intro ?_ ?_; focus exact Cl4) | refine Both.T (by exact rfl) ?_ | refine Both.F (by exact rfl) ?_ | refine Both.GT (by exact rfl) (by exact rfl) ?_ | refine Both.GF (by exact rfl) ?_ | refine Both.GN (by exact rfl) ?_); conv => whnf)
        have e1 : List.take l.length (List.drop 0 (List.replicate l.length (PV.agg [.int .i64 0, .int .i64 0, .str [], .sl 0 [] true false, .sl 0 [] true false]))) = List.replicate l.length (PV.agg [.int .i64 0, .int .i64 0, .str [], .sl 0 [] true false, .sl 0 [] true false]) := by
          rw [List.drop_zero, List.take_of_length_le (by simp)]
        have e2 : List.take l.length (List.drop 0 (strs (List.map V.s (List.take l.length l)))) = strs (l.map V.s) := by
          rw [List.drop_zero, List.take_length, List.take_of_length_le (by rw [strs_len]; simp)]
        rw [e1, e2]
        refine check_spec (.mk 5 0 [] (List.replicate l.length Vz) (l.map V.s)) 5 1 (List.replicate l.length (.agg [.int .i64 0, .int .i64 0, .str [], .sl 0 [] true false, .sl 0 [] true false])) _ _ _ ⟨VPs_rep _, .inl rfl, .inl rfl, (show i64 5 ∧ i64 0 from ⟨⟨by decide, by decide⟩, ⟨by decide, by decide⟩⟩).2, ?_⟩ ?_
        · have h1 := bulk_rep l.length
          have h2 := bulk_names l
          simp only [bulkV, List.length_nil]
          omega
        · cases hm : mayV (.mk 5 0 [] (List.replicate l.length Vz) (l.map V.s))
          · rw [hm] at h
            (conv => whnf); repeat ((first | (refine And.intro ?_ ?_; focus exact Cl4) | refine Both.T (by exact rfl) ?_ | refine Both.F (by exact rfl) ?_ | refine Both.GT (by exact rfl) (by exact rfl) ?_ | refine Both.GF (by exact rfl) ?_ | refine Both.GN (by exact rfl) ?_); conv => whnf)
            exact h
          · rw [hm] at h
            (conv => whnf); repeat ((first | (refine And.intro ?_ ?_; focus exact Cl4) | refine Both.T (by exact rfl) ?_ | refine Both.F (by exact rfl) ?_ | refine Both.GT (by exact rfl) (by exact rfl) ?_ | refine Both.GF (by exact rfl) ?_ | refine Both.GN (by exact rfl) ?_); conv => whnf)
            exact h
end Go.Vc
namespace Go.Vc
open Go Go.Proofs
set_option maxRecDepth 100000
/-! What value.Fits answers, of texts; taken as a hypothesis of the texts that follow until the walk of readRec stands. -/
theorem fields_site (p : PG) (f : FD) (x : IN) (zf : Nat) (lf : List PV) (tf : Bool) (zc : Nat) (lc : List PV) (tc : Bool) (z : Nat) (t : Bool) (hp : PGA p zf lf zc lc) (Post : PV → List (Nat × Blk) → Prop)
    (h : Post (.bool (inB x.a p.consts.length && (match p.consts[x.a.toNat]? with | some v => recordM v | none => false))) [(0, .box (pgc zf lf tf zc lc tc)), (1, .box (fdc f z t))]) :
    Spec K 83 [.agg [.ptr 0 0, .ptr 1 0, .int .i64 x.op, .int .i64 x.a, .int .i64 x.b]] [(0, .box (pgc zf lf tf zc lc tc)), (1, .box (fdc f z t))] Post := by
  refine is83.specW K_ok K_mix false (by simp) (by simp [keys]) ?_
  have hc := VPs_len hp.cs
  have hz := zlc hp
  cases hi : inB x.a p.consts.length
  · rw [hi] at h
    by_cases hlt : x.a.toNat < p.consts.length
    · obtain ⟨y1, mp, u1, o1, y2, u2, o2, hq, hv, g1, g2, g3⟩ := (VPs_nth hp.cs hlt).out
      (conv => whnf); repeat' (first | ((first | (refine And.intro ?_ ?_; focus exact Cl4) | refine Both.T (by exact rfl) ?_ | refine Both.F (by exact rfl) ?_ | refine Both.GT (by exact rfl) (by exact rfl) ?_ | refine Both.GF (by exact rfl) ?_ | refine Both.GN (by exact rfl) ?_); conv => whnf) | (refine value_site p f x zf lf tf zc lc tc z t hp _ ?_; rw [hi]; conv => whnf) | (rw [hq]; conv => whnf) | ((refine Both.mk ?_ ?_ <;> fail_if_success (intro _)) <;> conv => whnf))
      all_goals exact h
    · have hq : nth lc x.a.toNat = .undef := by unfold nth; rw [List.getD_eq_getElem?_getD, List.getElem?_eq_none (by omega)]; rfl
      (conv => whnf); repeat' (first | ((first | (refine And.intro ?_ ?_; focus exact Cl4) | refine Both.T (by exact rfl) ?_ | refine Both.F (by exact rfl) ?_ | refine Both.GT (by exact rfl) (by exact rfl) ?_ | refine Both.GF (by exact rfl) ?_ | refine Both.GN (by exact rfl) ?_); conv => whnf) | (refine value_site p f x zf lf tf zc lc tc z t hp _ ?_; rw [hi]; conv => whnf) | (rw [hq]; conv => whnf) | ((refine Both.mk ?_ ?_ <;> fail_if_success (intro _)) <;> conv => whnf))
      all_goals exact h
  · rw [hi] at h
    have hb : 0 ≤ x.a ∧ x.a < p.consts.length := by unfold inB at hi; simp only [Bool.and_eq_true, decide_eq_true_eq] at hi; exact hi
    have hlt : x.a.toNat < p.consts.length := by omega
    rw [List.getElem?_eq_getElem hlt] at h
    obtain ⟨y1, mp, u1, o1, y2, u2, o2, hq, hv, g1, g2, g3⟩ := (VPs_nth hp.cs hlt).out
    have hcb := hp.cb _ (List.getElem_mem hlt)
    (conv => whnf); repeat' (first | ((first | (refine And.intro ?_ ?_; focus exact Cl4) | refine Both.T (by exact rfl) ?_ | refine Both.F (by exact rfl) ?_ | refine Both.GT (by exact rfl) (by exact rfl) ?_ | refine Both.GF (by exact rfl) ?_ | refine Both.GN (by exact rfl) ?_); conv => whnf) | (refine value_site p f x zf lf tf zc lc tc z t hp _ ?_; rw [hi]; conv => whnf) | (rw [hq]; conv => whnf) | (refine record_spec p.consts[x.a.toNat] y1 y2 mp _ _ ⟨hv, g1, g2, hcb.1, by have := hcb.2; omega⟩ hcb.2 _ ?_; conv => whnf) | ((refine Both.mk ?_ ?_ <;> fail_if_success (intro _)) <;> conv => whnf))
    all_goals exact h
end Go.Vc
