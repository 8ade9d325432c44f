/- What is proved here: contracts of functions of the program: of each function what it hands back and what it leaves in memory. Conditions: those that each theorem names. -/
import Derived.Test.YtmbopgmllnijjaaCi
import Derived.Test.YtmbopgmllnijjaaFx
import Derived.Test.YtmbopgmllnijjaaFy
set_option linter.unusedVariables false
set_option linter.unusedSimpArgs false
set_option linter.unusedSectionVars false
namespace Go.Vc
open Go Go.Proofs
set_option maxRecDepth 100000
set_option maxHeartbeats 4000000 in
theorem bring_spec (n m : Int) (hn : i64 n) (hm : 0 < m) (hm2 : m ≤ 1000000000) (Post : PV → List (Nat × Blk) → Prop) (h : Post (.int .i64 (n % m)) []) : Spec K 19 [.int .i64 n, .int .i64 m] [] Post := by
  refine is19.specW K_ok K_mix false (by simp) (by simp [keys]) ?_
  have h1 := Int.tmod_lt_of_pos n hm
  have h0 := Int.emod_nonneg n (show m ≠ 0 by omega)
  have h2 := Int.emod_lt_of_pos n hm
  have h3 : n.tmod m = if 0 ≤ n ∨ m ∣ n then n % m else n % m - m := by
    rw [Int.tmod_eq_emod]
    split <;> simp <;> omega
  unfold i64 at hn
  (conv => whnf); repeat ((first | (refine And.intro ?_ ?_; focus exact Cl4) | refine Both.T (by exact rfl) ?_ | refine Both.F (by exact rfl) ?_ | refine Both.GT (by exact rfl) (by exact rfl) ?_ | refine Both.GF (by exact rfl) ?_ | refine Both.GN (by exact rfl) ?_); conv => whnf)
  rw [decide_eq_false (show ¬ m ≤ 0 by omega)]
  (conv => whnf); repeat ((first | (refine And.intro ?_ ?_; focus exact Cl4) | refine Both.T (by exact rfl) ?_ | refine Both.F (by exact rfl) ?_ | refine Both.GT (by exact rfl) (by exact rfl) ?_ | refine Both.GF (by exact rfl) ?_ | refine Both.GN (by exact rfl) ?_); conv => whnf)
  by_cases hneg : n.tmod m < 0
  · rw [decide_eq_true hneg]
    (conv => whnf); repeat ((first | (refine And.intro ?_ ?_; focus exact Cl4) | refine Both.T (by exact rfl) ?_ | refine Both.F (by exact rfl) ?_ | refine Both.GT (by exact rfl) (by exact rfl) ?_ | refine Both.GF (by exact rfl) ?_ | refine Both.GN (by exact rfl) ?_); conv => whnf)
    have : IntKind.i64.wrap (n.tmod m + m) = n % m := by
      split at h3
      · omega
      · rw [wrap64 (by omega) (by omega)]; omega
    rw [this]
    exact h
  · rw [decide_eq_false hneg]
    (conv => whnf); repeat ((first | (refine And.intro ?_ ?_; focus exact Cl4) | refine Both.T (by exact rfl) ?_ | refine Both.F (by exact rfl) ?_ | refine Both.GT (by exact rfl) (by exact rfl) ?_ | refine Both.GF (by exact rfl) ?_ | refine Both.GN (by exact rfl) ?_); conv => whnf)
    have : n.tmod m = n % m := by split at h3 <;> omega
    rw [this]
    exact h
theorem copyB_ref (a : List UInt8) (z : Nat) (t : Bool) (ha : a.length ≤ 1000000000) (Post : PV → List (Nat × Blk) → Prop) (h : Post (.ref 1 0 0 a.length) [(0, .row 5 1 (bs a) true)]) : Spec K 33 [.sl z (bs a) t true] [] Post := by
  refine is33.spec K_ok K_mix true (by simp) (by simp [keys]) ?_
  (conv => whnf); repeat ((first | (refine And.intro ?_ ?_; focus exact Cl4) | refine Both.T (by exact rfl) ?_ | refine Both.F (by exact rfl) ?_ | refine Both.GT (by exact rfl) (by exact rfl) ?_ | refine Both.GF (by exact rfl) ?_ | refine Both.GN (by exact rfl) ?_); conv => whnf)
  refine ⟨by rw [bs_len]; show a.length * 2 ≤ _; omega, ?_⟩
  (conv => whnf); repeat ((first | (refine And.intro ?_ ?_; focus exact Cl4) | refine Both.T (by exact rfl) ?_ | refine Both.F (by exact rfl) ?_ | refine Both.GT (by exact rfl) (by exact rfl) ?_ | refine Both.GF (by exact rfl) ?_ | refine Both.GN (by exact rfl) ?_); conv => whnf)
  rw [bs_len]
  exact h
set_option maxHeartbeats 32000000 in
theorem cut_law (hF : FitsC) (hW : WorksD) (p : PG) (n : Int) (hn : i64 n) (zf : Nat) (lf : List PV) (tf : Bool) (zc : Nat) (lc : List PV) (tc : Bool) (hp : PGA p zf lf zc lc) : CSpec K 10 [.agg (pgc zf lf tf zc lc tc), .int .i64 n] [] LawPost := by
  refine is10.cspec K_ok K_mix false (by simp) (by simp [keys]) ?_
  (conv => whnf); repeat ((first | (refine And.intro ?_ ?_; focus exact Cl4) | refine Both.T (by exact rfl) ?_ | refine Both.F (by exact rfl) ?_ | refine Both.GT (by exact rfl) (by exact rfl) ?_ | refine Both.GF (by exact rfl) ?_ | refine Both.GN (by exact rfl) ?_); conv => whnf)
  refine hW _ ?_
  (conv => whnf); repeat ((first | (refine And.intro ?_ ?_; focus exact Cl4) | refine Both.T (by exact rfl) ?_ | refine Both.F (by exact rfl) ?_ | refine Both.GT (by exact rfl) (by exact rfl) ?_ | refine Both.GF (by exact rfl) ?_ | refine Both.GN (by exact rfl) ?_); conv => whnf)
  refine bytes_spec1 hF p zf lf tf zc lc tc hp _ (fun hc => ?_) (fun hc => ?_)
  · have hc2 : (chkM p != 0) = true := by simpa using hc
    (conv => whnf); repeat ((first | (refine And.intro ?_ ?_; focus exact Cl4) | refine Both.T (by exact rfl) ?_ | refine Both.F (by exact rfl) ?_ | refine Both.GT (by exact rfl) (by exact rfl) ?_ | refine Both.GF (by exact rfl) ?_ | refine Both.GN (by exact rfl) ?_); conv => whnf)
    rw [hc2]
    (conv => whnf); repeat ((first | (refine And.intro ?_ ?_; focus exact Cl4) | refine Both.T (by exact rfl) ?_ | refine Both.F (by exact rfl) ?_ | refine Both.GT (by exact rfl) (by exact rfl) ?_ | refine Both.GF (by exact rfl) ?_ | refine Both.GN (by exact rfl) ?_); conv => whnf)
    exact ⟨congrArg _ hc2, rfl⟩
  · have hnv := VPs_nV hp.cs
    have hbl := bytesM_len hc
    have hpos : 0 < (bytesM p).length := by simp [bytesM, bytesI, constsB]
    have hb := bs_len (bytesM p)
    have h0 := Int.emod_nonneg n (show ((bytesM p).length : Int) ≠ 0 by omega)
    have h1 := Int.emod_lt_of_pos n (show (0 : Int) < ((bytesM p).length : Int) by omega)
    obtain ⟨k, hk⟩ : ∃ k : Nat, n % ((bytesM p).length : Int) = k := ⟨(n % ((bytesM p).length : Int)).toNat, by omega⟩
    have hkl : k < (bytesM p).length := by omega
    have hcut := prog_cut hc hnv hkl
    have hmore := prog_more hc hnv
    generalize bytesM p = B at *
    (conv => whnf); repeat ((first | (refine And.intro ?_ ?_; focus exact Cl4) | refine Both.T (by exact rfl) ?_ | refine Both.F (by exact rfl) ?_ | refine Both.GT (by exact rfl) (by exact rfl) ?_ | refine Both.GF (by exact rfl) ?_ | refine Both.GN (by exact rfl) ?_); conv => whnf)
    rw [hb]
    rw [show ((B.length : Int) == 0) = false by simp; intro h; rw [h] at hpos; cases hpos]
    (conv => whnf); repeat ((first | (refine And.intro ?_ ?_; focus exact Cl4) | refine Both.T (by exact rfl) ?_ | refine Both.F (by exact rfl) ?_ | refine Both.GT (by exact rfl) (by exact rfl) ?_ | refine Both.GF (by exact rfl) ?_ | refine Both.GN (by exact rfl) ?_); conv => whnf)
    rw [hb]
    refine bring_spec n B.length hn (by omega) (by omega) _ ?_
    rw [hk]
    (conv => whnf); repeat ((first | (refine And.intro ?_ ?_; focus exact Cl4) | refine Both.T (by exact rfl) ?_ | refine Both.F (by exact rfl) ?_ | refine Both.GT (by exact rfl) (by exact rfl) ?_ | refine Both.GF (by exact rfl) ?_ | refine Both.GN (by exact rfl) ?_); conv => whnf)
    rw [List.drop_zero, Int.toNat_natCast, bs_take]
    refine parse_spec hF (B.take k) 1 _ (Or.inl rfl) (by rw [List.length_take]; omega) _ (fun e he _ => ?_) (fun p' lf2 lc2 z1 z2 hp' hp2 => by rw [hcut] at hp'; cases hp')
    obtain rfl : 3 = e := by rw [hcut] at he; cases he; rfl
    (conv => whnf); repeat ((first | (refine And.intro ?_ ?_; focus exact Cl4) | refine Both.T (by exact rfl) ?_ | refine Both.F (by exact rfl) ?_ | refine Both.GT (by exact rfl) (by exact rfl) ?_ | refine Both.GF (by exact rfl) ?_ | refine Both.GN (by exact rfl) ?_); conv => whnf)
    refine copyB_ref B _ _ (by omega) _ ?_
    (conv => whnf); repeat ((first | (refine And.intro ?_ ?_; focus exact Cl4) | refine Both.T (by exact rfl) ?_ | refine Both.F (by exact rfl) ?_ | refine Both.GT (by exact rfl) (by exact rfl) ?_ | refine Both.GF (by exact rfl) ?_ | refine Both.GN (by exact rfl) ?_); conv => whnf)
    refine ⟨by show (B.length + 1) * 2 ≤ _; omega, ?_⟩
    (conv => whnf); repeat ((first | (refine And.intro ?_ ?_; focus exact Cl4) | refine Both.T (by exact rfl) ?_ | refine Both.F (by exact rfl) ?_ | refine Both.GT (by exact rfl) (by exact rfl) ?_ | refine Both.GF (by exact rfl) ?_ | refine Both.GN (by exact rfl) ?_); conv => whnf)
    have e3 : List.take (B.length + (List.take 1 (List.drop 0 [PV.int IntKind.u8 0])).length) (List.drop 0 (List.take B.length (bs B) ++ List.take 1 (List.drop 0 [PV.int IntKind.u8 0]))) = bs (B ++ [0]) := by
      rw [tkb, List.drop_zero, bs_app]
      exact List.take_of_length_le (by simp [hb])
    rw [e3]
    refine parse_spec hF (B ++ [0]) 1 _ (Or.inl rfl) (by rw [List.length_append, List.length_singleton]; omega) _ (fun e he _ => ?_) (fun p' lf2 lc2 z1 z2 hp' hp2 => by rw [hmore] at hp'; cases hp')
    obtain rfl : 4 = e := by rw [hmore] at he; cases he; rfl
    (conv => whnf); repeat ((first | (refine And.intro ?_ ?_; focus exact Cl4) | refine Both.T (by exact rfl) ?_ | refine Both.F (by exact rfl) ?_ | refine Both.GT (by exact rfl) (by exact rfl) ?_ | refine Both.GF (by exact rfl) ?_ | refine Both.GN (by exact rfl) ?_); conv => whnf)
end Go.Vc
