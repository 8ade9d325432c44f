/- What is proved here: contracts of functions of the program: of each function what it hands back and what it leaves in memory. Conditions: those that each theorem names. -/
import Derived.Test.YtfnmagjngnpokaaDoorWl
import Derived.Test.YtfnmagjngnpokaaDoorWn
import Derived.Test.YtfnmagjngnpokaaDoorWm
set_option linter.unusedVariables false
set_option linter.unusedSimpArgs false
set_option linter.unusedSectionVars false
namespace Go.Vc
open Go Go.Proofs
set_option maxRecDepth 100000
set_option maxHeartbeats 16000000 in
theorem takeV_spec (c : UInt8) (b : List UInt8) (hc : c ≠ 1) (hb : b ≠ []) (t : Bool) (Post : PV → List (Nat × Blk) → Prop) (h : Post (.tup [zeroE, .sl 0 [] false true, .int .i64 4]) []) :
    Spec K 17 [.sl 1 (bs (c :: b)) t true] [] Post := by
  have hl : 1 ≤ b.length := by cases b with
    | nil => exact absurd rfl hb
    | cons x r => simp
  refine is17.specW K_ok K_mix false (by simp) (by simp [keys]) ?_
  (conv => whnf); repeat ((first | (refine And.intro ?_ ?_; focus exact Cl3) | refine Both.T (by exact rfl) ?_ | refine Both.F (by exact rfl) ?_ | refine Both.GT (by exact rfl) (by exact rfl) ?_ | refine Both.GF (by exact rfl) ?_ | refine Both.GN (by exact rfl) ?_); conv => whnf)
  refine ⟨fun h1 => ?_, fun h1 => ?_⟩
  · have := of_decide_eq_true h1
    rw [bs_len] at this
    simp at this
    omega
  (conv => whnf); repeat ((first | (refine And.intro ?_ ?_; focus exact Cl3) | refine Both.T (by exact rfl) ?_ | refine Both.F (by exact rfl) ?_ | refine Both.GT (by exact rfl) (by exact rfl) ?_ | refine Both.GF (by exact rfl) ?_ | refine Both.GN (by exact rfl) ?_); conv => whnf)
  refine ⟨fun _ => ⟨by decide, by rw [bs_len]; simp only [List.length_cons]; omega⟩, ?_⟩
  (conv => whnf); repeat ((first | (refine And.intro ?_ ?_; focus exact Cl3) | refine Both.T (by exact rfl) ?_ | refine Both.F (by exact rfl) ?_ | refine Both.GT (by exact rfl) (by exact rfl) ?_ | refine Both.GF (by exact rfl) ?_ | refine Both.GN (by exact rfl) ?_); conv => whnf)
  rw [show nth (bs (c :: b)) (Int.toNat 1) = .int .u8 ((b.headD 0).toNat : Int) by cases b with
    | nil => exact absurd rfl hb
    | cons x r => rfl]
  (conv => whnf); repeat ((first | (refine And.intro ?_ ?_; focus exact Cl3) | refine Both.T (by exact rfl) ?_ | refine Both.F (by exact rfl) ?_ | refine Both.GT (by exact rfl) (by exact rfl) ?_ | refine Both.GF (by exact rfl) ?_ | refine Both.GN (by exact rfl) ?_); conv => whnf)
  refine ⟨fun _ => ⟨by decide, by rw [bs_len]; simp only [List.length_cons]; omega⟩, ?_⟩
  (conv => whnf); repeat ((first | (refine And.intro ?_ ?_; focus exact Cl3) | refine Both.T (by exact rfl) ?_ | refine Both.F (by exact rfl) ?_ | refine Both.GT (by exact rfl) (by exact rfl) ?_ | refine Both.GF (by exact rfl) ?_ | refine Both.GN (by exact rfl) ?_); conv => whnf)
  have hv : (((c.toNat : Int)) != 1) = true := by
    simp
    intro h2
    exact hc (UInt8.toNat.inj (by show c.toNat = 1; omega))
  rw [show ((c.toNat : Int) != 1) = true from hv]
  (conv => whnf); repeat ((first | (refine And.intro ?_ ?_; focus exact Cl3) | refine Both.T (by exact rfl) ?_ | refine Both.F (by exact rfl) ?_ | refine Both.GT (by exact rfl) (by exact rfl) ?_ | refine Both.GF (by exact rfl) ?_ | refine Both.GN (by exact rfl) ?_); conv => whnf)
  exact h
set_option maxHeartbeats 16000000 in
theorem law6 (b : List UInt8) (c : UInt8) (z : Nat) (t : Bool) (hz : z = 1 ∨ b = []) (hb : b.length ≤ 2000000) : CSpec K 6 [.sl z (bs b) t true, .int .u8 c.toNat] [] LawPost := by
  refine is6.cspec K_ok K_mix false (by simp) (by simp [keys]) ?_
  (conv => whnf); repeat ((first | (refine And.intro ?_ ?_; focus exact Cl3) | refine Both.T (by exact rfl) ?_ | refine Both.F (by exact rfl) ?_ | refine Both.GT (by exact rfl) (by exact rfl) ?_ | refine Both.GF (by exact rfl) ?_ | refine Both.GN (by exact rfl) ?_); conv => whnf)
  rw [bs_len]
  by_cases hc : c = 1
  · subst hc
    refine ⟨fun _ => ?_, fun h => absurd h (by simp)⟩
    (conv => whnf); repeat ((first | (refine And.intro ?_ ?_; focus exact Cl3) | refine Both.T (by exact rfl) ?_ | refine Both.F (by exact rfl) ?_ | refine Both.GT (by exact rfl) (by exact rfl) ?_ | refine Both.GF (by exact rfl) ?_ | refine Both.GN (by exact rfl) ?_); conv => whnf)
    refine works_spec _ ?_
    (conv => whnf); repeat ((first | (refine And.intro ?_ ?_; focus exact Cl3) | refine Both.T (by exact rfl) ?_ | refine Both.F (by exact rfl) ?_ | refine Both.GT (by exact rfl) (by exact rfl) ?_ | refine Both.GF (by exact rfl) ?_ | refine Both.GN (by exact rfl) ?_); conv => whnf)
  · have hv : ((c.toNat : Int) == 1) = false := by
      have : ¬ (c.toNat : Int) = 1 := fun h2 => hc (UInt8.toNat.inj (by show c.toNat = 1; omega))
      simpa using this
    rw [hv]
    by_cases hb0 : b = []
    · subst hb0
      refine ⟨fun _ => ?_, fun h => absurd h (by simp)⟩
      (conv => whnf); repeat ((first | (refine And.intro ?_ ?_; focus exact Cl3) | refine Both.T (by exact rfl) ?_ | refine Both.F (by exact rfl) ?_ | refine Both.GT (by exact rfl) (by exact rfl) ?_ | refine Both.GF (by exact rfl) ?_ | refine Both.GN (by exact rfl) ?_); conv => whnf)
      refine works_spec _ ?_
      (conv => whnf); repeat ((first | (refine And.intro ?_ ?_; focus exact Cl3) | refine Both.T (by exact rfl) ?_ | refine Both.F (by exact rfl) ?_ | refine Both.GT (by exact rfl) (by exact rfl) ?_ | refine Both.GF (by exact rfl) ?_ | refine Both.GN (by exact rfl) ?_); conv => whnf)
    · have hl : 1 ≤ b.length := by cases b with
        | nil => exact absurd rfl hb0
        | cons x r => simp
      refine ⟨fun h => ?_, fun _ => ?_⟩
      · have : ((b.length : Int) == 0) = true := h
        simp at this
        exact absurd this hb0
      (conv => whnf); repeat ((first | (refine And.intro ?_ ?_; focus exact Cl3) | refine Both.T (by exact rfl) ?_ | refine Both.F (by exact rfl) ?_ | refine Both.GT (by exact rfl) (by exact rfl) ?_ | refine Both.GF (by exact rfl) ?_ | refine Both.GN (by exact rfl) ?_); conv => whnf)
      refine ⟨by rw [bs_len]; show (1 + b.length) * 2 ≤ _; omega, ?_⟩
      (conv => whnf); repeat ((first | (refine And.intro ?_ ?_; focus exact Cl3) | refine Both.T (by exact rfl) ?_ | refine Both.F (by exact rfl) ?_ | refine Both.GT (by exact rfl) (by exact rfl) ?_ | refine Both.GF (by exact rfl) ?_ | refine Both.GN (by exact rfl) ?_); conv => whnf)
      rw [show List.take (1 + (bs b).length) (List.drop 0 (List.take 1 [PV.int .u8 (c.toNat : Int)] ++ bs b)) = bs (c :: b) from List.take_of_length_le (by simp [bs_len]; omega)]
      refine takeV_spec c b hc hb0 false _ ?_
      (conv => whnf); repeat ((first | (refine And.intro ?_ ?_; focus exact Cl3) | refine Both.T (by exact rfl) ?_ | refine Both.F (by exact rfl) ?_ | refine Both.GT (by exact rfl) (by exact rfl) ?_ | refine Both.GF (by exact rfl) ?_ | refine Both.GN (by exact rfl) ?_); conv => whnf)
      refine works_spec _ ?_
      (conv => whnf); repeat ((first | (refine And.intro ?_ ?_; focus exact Cl3) | refine Both.T (by exact rfl) ?_ | refine Both.F (by exact rfl) ?_ | refine Both.GT (by exact rfl) (by exact rfl) ?_ | refine Both.GF (by exact rfl) ?_ | refine Both.GN (by exact rfl) ?_); conv => whnf)
open Go.Deep Go.ChangeShapes
open Go.Proofs.YtfnmagjngnpokaaDoor (Rows.uptoBulk Rows.uptoBulkAll)
variable {H : Type} {enc : TypeId × Value → H} {W : World} {sp : Nat → Bool} {hd : Bool}
theorem bulkAll_len : ∀ l : List (DataW H), l.length ≤ Rows.uptoBulkAll l
  | [] => by simp
  | x :: r => by
    have := bulkAll_len r
    have : 1 ≤ Rows.uptoBulk x := by
      cases x with
      | lit l => cases l <;> simp [Rows.uptoBulk]
      | _ => simp [Rows.uptoBulk]
    simp only [List.length_cons, Rows.uptoBulkAll]; omega
theorem u8_wf {n : Int} (h : (Lit.int .u8 n : Lit).wf = true) : ∃ c : UInt8, n = c.toNat := by
  simp [Lit.wf, IntKind.min, IntKind.max, IntKind.signed, IntKind.bits] at h
  refine ⟨UInt8.ofNat n.toNat, ?_⟩
  have : (UInt8.ofNat n.toNat).toNat = n.toNat % 256 := rfl
  rw [this]
  omega
theorem bytes_read {fuel : Nat} {cs : List Value} {x : DataW H × List MemPlace} (h : DataW.trod enc Tryd.prog W 0 sp hd fuel 28 cs = some x) :
    ∃ (v : Value) (b : List UInt8), cs = [v] ∧ Rep0 W (Zall W) (.sl 1 (bs b) false true) v ∧ b.length ≤ Rows.uptoBulk x.1 := by
  have hc5 : Tryd.prog.cellsOf 5 = 1 := by kernel_rfl
  rcases open_sl Tryd.underlying28 h with ⟨rfl, rfl⟩ | ⟨a, len, cap, n, D, R, hn, rfl, hl, hx, hel⟩
  · refine ⟨_, [], rfl, .sl 1 [] false true none 0 0 (fun _ _ => undef) rfl (Nat.le_refl _) (fun h => by cases h) (fun _ h => by cases h) (fun j hj => absurd hj (by simp)) (fun j i x u hx => by simp at hx), by simp⟩
  · have hel2 : ∀ i, ∃ s : UInt8, i < len → W.cells? 0 (a.add (i * 1)) 1 = some [.int .u8 s.toNat] := by
      intro i
      by_cases hi : i < len
      · obtain ⟨cs', pl, h1, h2⟩ := hel i hi
        obtain ⟨m, rfl, h3, hw⟩ := DataW.trod_int Tryd.underlying5 h2
        obtain ⟨c, rfl⟩ := u8_wf hw
        rw [hc5] at h1
        exact ⟨c, fun _ => h1⟩
      · exact ⟨0, fun h => absurd h hi⟩
    obtain ⟨S, hS⟩ := Classical.axiomOfChoice hel2
    have hr := row_at (cs := fun i => [Value.int .u8 (S i).toNat]) (by omega) fun i hi => hS i hi
    refine ⟨_, (List.range len).map S, rfl, .sl 1 _ false true (some a) len cap (fun j _ => .int .u8 (S j).toNat) (by simp [bs]) (by simpa [bs] using hl) (fun h => by cases h) (fun u hu => ?_) (fun j hj => ?_) (fun j i u w hu hw => ?_), ?_⟩
    · simp only [bs, List.map_map, List.mem_map] at hu
      obtain ⟨_, _, rfl⟩ := hu
      rfl
    · have hj' : j < len := by simpa [bs] using hj
      obtain ⟨h1, h2, _, h4⟩ := hr j hj'
      refine ⟨a, rfl, h2, h1, fun i hi => ?_⟩
      have := h4 i hi
      obtain rfl : i = 0 := by omega
      simpa using this
    · simp only [bs, List.map_map, List.getElem?_map] at hu
      obtain ⟨q, hq, rfl⟩ := Option.map_eq_some_iff.1 hu
      obtain rfl : j = q := by
        obtain ⟨h1, h2⟩ := List.getElem?_eq_some_iff.1 hq
        simpa using h2
      have : w = .int .u8 (S j).toNat := by
        rcases i with _ | i
        · exact (Option.some.inj hw).symm
        · cases hw
      subst this
      exact .int _ _
    · have := bulkAll_len ((List.range len).map D)
      rw [hx, Rows.uptoBulk]
      simp at this ⊢
      omega
end Go.Vc
