/- What is proved here: contracts of functions of the program: of each function what it hands back and what it leaves in memory. Conditions: those that each theorem names. -/
import Derived.Test.YtmbopgmllnijjaaCh
import Derived.Test.YtmbopgmllnijjaaCf
import Derived.Test.YtmbopgmllnijjaaFx
set_option linter.unusedVariables false
set_option linter.unusedSimpArgs false
set_option linter.unusedSectionVars false
namespace Go.Vc
open Go Go.Proofs
set_option maxRecDepth 100000
/-! The laws of chapter 15. -/
mutual
theorem writeV_size : ∀ v : V, (writeV v).length + 1 ≤ 20 * sizeV v
  | .mk k n s l ns => by
    have := writeVs_size (k == 5) l ns
    simp only [writeV, sizeV]
    split
    · simp [be8_len]; omega
    · split
      · simp; omega
      · split
        · simp [countedB]; omega
        · split
          · simp; omega
          · simp; omega
theorem writeVs_size : ∀ (r : Bool) (l : List V) (ns : List (List UInt8)), (writeVs r l ns).length ≤ 20 * sizeVs l + nsLen ns
  | _, [], _ => by simp [writeVs]
  | r, v :: l, [] => by
    have := writeV_size v
    have := writeVs_size r l []
    simp only [writeVs, sizeVs, List.length_append, List.headD_nil, List.tail_nil] at *
    cases r <;> simp [countedB] at * <;> omega
  | r, v :: l, s :: ns => by
    have := writeV_size v
    have := writeVs_size r l ns
    simp only [writeVs, sizeVs, nsLen, List.length_append, List.headD_cons, List.tail_cons] at *
    cases r <;> simp [countedB] at * <;> omega
end
theorem may_write {v : V} (h : mayV v = true) : (writeV v).length ≤ 5200 := by
  have := (okV_iff.1 h).1.2
  have := writeV_size v
  omega
theorem flat_le {α : Type} {w : α → List UInt8} {B : Nat} : ∀ {l : List α}, (∀ x ∈ l, (w x).length ≤ B) → (l.flatMap w).length ≤ l.length * B
  | [], _ => by simp
  | x :: r, h => by
    have h1 := h x (by simp)
    have h2 := flat_le (l := r) fun y hy => h y (by simp [hy])
    rw [List.flatMap_cons, List.length_append, List.length_cons, Nat.succ_mul]
    omega
theorem bytesM_len {p : PG} (hc : chkM p = 0) : (bytesM p).length ≤ 2000000 := by
  have hm := chk_may hc
  obtain ⟨h256, hv⟩ := chk_consts hc
  have h1 := flat_le (w := writeV) (B := 5200) fun v hvm => may_write (hv v hvm)
  have h2 : (p.funcs.flatMap funB).length ≤ p.funcs.length * 3000 := flat_le fun f hf => by
    obtain ⟨b1, _⟩ := head_b (hm.head f hf)
    have := hm.len f hf
    rw [funB, List.length_append, insB_len]
    simp only [headB, twoB, List.length_append, List.length_cons, List.length_nil]
    omega
  have h16 := hm.few
  have e1 : p.consts.length * 5200 ≤ 256 * 5200 := Nat.mul_le_mul_right _ h256
  have e2 : p.funcs.length * 3000 ≤ 16 * 3000 := Nat.mul_le_mul_right _ h16
  simp only [bytesM, bytesI, constsB, List.take_length, twoB, List.length_append, List.length_cons, List.length_nil]
  omega
theorem moves_b {p : PG} {f : FD} {x : IN} (hc : chkM p = 0) (hf : f ∈ p.funcs) (hx : x ∈ f.code) : (0 ≤ (movesM p x).1 ∧ (movesM p x).1 ≤ 8) ∧ 0 ≤ (movesM p x).2 ∧ (movesM p x).2 ≤ 2 := by
  have hm := chk_may hc
  have hi := hm.ins f hf x hx
  unfold insM at hi
  simp only [Bool.and_eq_true] at hi
  have ho := hi.2
  unfold movesM
  split
  · exact ⟨⟨by decide, by decide⟩, by decide, by decide⟩
  split
  · exact ⟨⟨by decide, by decide⟩, by decide, by decide⟩
  split
  · exact ⟨⟨by decide, by decide⟩, by decide, by decide⟩
  split
  · exact ⟨⟨by decide, by decide⟩, by decide, by decide⟩
  split
  · exact ⟨⟨by decide, by decide⟩, by decide, by decide⟩
  split
  · rename_i h20
    have : operandM p f x = (decide (0 ≤ x.a) && decide (x.a ≤ 8)) := by
      unfold operandM
      rw [if_neg (by omega), if_neg (by omega), if_pos h20]
    rw [this] at ho
    simp only [Bool.and_eq_true, decide_eq_true_eq] at ho
    exact ⟨ho, (show (0 : Int) ≤ 1 by decide), (show (1 : Int) ≤ 2 by decide)⟩
  split
  · rename_i h21
    have : operandM p f x = (inB x.a p.consts.length && (match p.consts[x.a.toNat]? with | some v => recordM v | none => false)) := by
      unfold operandM
      rw [if_neg (by omega), if_neg (by omega), if_neg (by omega), if_pos h21]
      rfl
    rw [this] at ho
    simp only [Bool.and_eq_true] at ho
    obtain ⟨hb, hr⟩ := ho
    have := inB_b hb
    rw [if_pos this.1]
    split at hr
    · rename_i v hv
      rw [hv]
      unfold recordM at hr
      simp only [Bool.and_eq_true, decide_eq_true_eq] at hr
      have := hr.2.1.2
      exact ⟨⟨by dsimp only; omega, by dsimp only; omega⟩, (show (0 : Int) ≤ 1 by decide), (show (1 : Int) ≤ 2 by decide)⟩
    · cases hr
  split
  · rename_i h29
    have : operandM p f x = inB x.a p.funcs.length := by
      unfold operandM
      rw [if_neg (by omega), if_neg (by omega), if_neg (by omega), if_neg (by omega), if_neg (by omega), if_neg (by omega), if_neg (by omega), if_pos h29]
    rw [this] at ho
    have hb := inB_b ho
    rw [if_pos hb.1]
    have hlt : x.a.toNat < p.funcs.length := by omega
    rw [List.getElem?_eq_getElem hlt]
    have := (head_b (hm.head _ (List.getElem_mem hlt))).2.1
    exact ⟨this, (show (0 : Int) ≤ 1 by decide), (show (1 : Int) ≤ 2 by decide)⟩
  split
  · split <;> exact ⟨⟨by decide, by decide⟩, by decide, by decide⟩
  · exact ⟨⟨by decide, by decide⟩, by decide, by decide⟩
set_option maxHeartbeats 32000000 in
theorem moves_law (hF : FitsC) (hW : WorksD) (p : PG) (zf : Nat) (lf : List PV) (tf : Bool) (zc : Nat) (lc : List PV) (tc : Bool) (hp : PGA p zf lf zc lc) : CSpec K 12 [.agg (pgc zf lf tf zc lc tc)] [] LawPost := by
  refine is12.cspecC [32] K_ok K_mix false (by simp) (by simp [keys]) ?_
  have hfl := FPs_len hp.fs
  have hz := zlf hp
  have hnf := hp.nf
  (conv => whnf); repeat ((first | (refine And.intro ?_ ?_; focus exact Cl4) | refine Both.T (by exact rfl) ?_ | refine Both.F (by exact rfl) ?_ | refine Both.GT (by exact rfl) (by exact rfl) ?_ | refine Both.GF (by exact rfl) ?_ | refine Both.GN (by exact rfl) ?_); conv => whnf)
  refine hW _ ?_
  (conv => whnf); repeat ((first | (refine And.intro ?_ ?_; focus exact Cl4) | refine Both.T (by exact rfl) ?_ | refine Both.F (by exact rfl) ?_ | refine Both.GT (by exact rfl) (by exact rfl) ?_ | refine Both.GF (by exact rfl) ?_ | refine Both.GN (by exact rfl) ?_); conv => whnf)
  refine chk_spec hF p zf lf tf zc lc tc hp _ ?_
  by_cases hc : chkM p = 0
  case neg =>
    have hc2 : (chkM p != 0) = true := by simpa using hc
    (conv => whnf); repeat ((first | (refine And.intro ?_ ?_; focus exact Cl4) | refine Both.T (by exact rfl) ?_ | refine Both.F (by exact rfl) ?_ | refine Both.GT (by exact rfl) (by exact rfl) ?_ | refine Both.GF (by exact rfl) ?_ | refine Both.GN (by exact rfl) ?_); conv => whnf)
    rw [hc2]
    (conv => whnf); repeat ((first | (refine And.intro ?_ ?_; focus exact Cl4) | refine Both.T (by exact rfl) ?_ | refine Both.F (by exact rfl) ?_ | refine Both.GT (by exact rfl) (by exact rfl) ?_ | refine Both.GF (by exact rfl) ?_ | refine Both.GN (by exact rfl) ?_); conv => whnf)
  case pos =>
  have hm := chk_may hc
  rw [hc]
  (conv => whnf); repeat ((first | (refine And.intro ?_ ?_; focus exact Cl4) | refine Both.T (by exact rfl) ?_ | refine Both.F (by exact rfl) ?_ | refine Both.GT (by exact rfl) (by exact rfl) ?_ | refine Both.GF (by exact rfl) ?_ | refine Both.GN (by exact rfl) ?_); conv => whnf)
  refine ⟨Nat, fun i => ⟨58, [(3, .int .i64 i), (1, .ptr 0 0)], [(0, .box (pgc zf lf tf zc lc tc))], []⟩, fun i => i ≤ p.funcs.length, fun i => p.funcs.length - i, ⟨[], 0, Nat.zero_le _, ?_⟩, fun i hi => ?_⟩
  · simp [meets, ghosts, St.le, St.get, look, keys, PV.labs, labsL, lookB, Blk.labs]
  · conv => (arg 5; dsimp only)
    (conv => whnf); repeat ((first | (refine And.intro ?_ ?_; focus exact Cl4) | refine Both.T (by exact rfl) ?_ | refine Both.F (by exact rfl) ?_ | refine Both.GT (by exact rfl) (by exact rfl) ?_ | refine Both.GF (by exact rfl) ?_ | refine Both.GN (by exact rfl) ?_); conv => whnf)
    rw [hfl]
    by_cases hix : i < p.funcs.length
    · rw [decide_eq_true (show (i : Int) < (p.funcs.length : Int) by omega)]
      obtain ⟨z, t, o, hqf, hzc⟩ := FPs_nth hp.fs hix
      have hfm := List.getElem_mem hix
      have hcl := hm.len _ hfm
      have hmv := fun x hx => moves_b (x := x) hc hfm hx
      generalize p.funcs[i] = f at *
      rw [← Int.toNat_natCast i] at hqf
      have hcm : (f.code.map INP).length = f.code.length := List.length_map _
      have hz3 : z = 3 ∨ f.code.map INP = [] := hzc.imp id fun h => by rw [h]; rfl
      (conv => whnf); repeat ((first | (refine And.intro ?_ ?_; focus exact Cl4) | refine Both.T (by exact rfl) ?_ | refine Both.F (by exact rfl) ?_ | refine Both.GT (by exact rfl) (by exact rfl) ?_ | refine Both.GF (by exact rfl) ?_ | refine Both.GN (by exact rfl) ?_); conv => whnf)
      refine ⟨Nat, fun k => ⟨58, [(4, .int .i64 k), (3, .int .i64 i), (1, .ptr 0 0)], [(0, .box (pgc zf lf tf zc lc tc))], []⟩, fun k => k ≤ f.code.length, fun k => f.code.length - k, ⟨[], 0, Nat.zero_le _, ?_⟩, fun k hk => ?_⟩
      · simp [meets, ghosts, St.le, St.get, look, keys, PV.labs, labsL, lookB, Blk.labs]
      · conv => (arg 5; dsimp only)
        (conv => whnf); repeat ((first | (refine And.intro ?_ ?_; focus exact Cl4) | refine Both.T (by exact rfl) ?_ | refine Both.F (by exact rfl) ?_ | refine Both.GT (by exact rfl) (by exact rfl) ?_ | refine Both.GF (by exact rfl) ?_ | refine Both.GN (by exact rfl) ?_); conv => whnf)
        rw [hqf]
        (conv => whnf); repeat ((first | (refine And.intro ?_ ?_; focus exact Cl4) | refine Both.T (by exact rfl) ?_ | refine Both.F (by exact rfl) ?_ | refine Both.GT (by exact rfl) (by exact rfl) ?_ | refine Both.GF (by exact rfl) ?_ | refine Both.GN (by exact rfl) ?_); conv => whnf)
        rw [hcm]
        by_cases hkx : k < f.code.length
        · rw [decide_eq_true (show (k : Int) < (f.code.length : Int) by omega)]
          have hqx : nth (f.code.map INP) (Int.toNat (k : Int)) = .agg [.int .i64 f.code[k].op, .int .i64 f.code[k].a, .int .i64 f.code[k].b] := by rw [Int.toNat_natCast]; exact code_nth hkx
          have hb := hmv _ (List.getElem_mem hkx)
          have hsp := moves_spec p f.code[k] zf lf tf zc lc tc hp
          generalize f.code[k] = x at *
          obtain ⟨op, a, b⟩ := x
          generalize movesM p ⟨op, a, b⟩ = mv at hb hsp
          obtain ⟨off, on⟩ := mv
          simp only at hb hsp hqx
          obtain ⟨⟨b1, b2⟩, b3, b4⟩ := hb
          (conv => whnf); repeat ((first | (refine And.intro ?_ ?_; focus exact Cl4) | refine Both.T (by exact rfl) ?_ | refine Both.F (by exact rfl) ?_ | refine Both.GT (by exact rfl) (by exact rfl) ?_ | refine Both.GF (by exact rfl) ?_ | refine Both.GN (by exact rfl) ?_); conv => whnf)
          refine ⟨Unit, fun _ => ⟨58, [(5, .int .i64 off), (6, .int .i64 on), (4, .int .i64 k), (3, .int .i64 i), (1, .ptr 0 0)], [(0, .box (pgc zf lf tf zc lc tc))], []⟩, fun _ => True, ?_, fun _ _ => ?_⟩
          · (conv => whnf); repeat' (first | ((first | (refine And.intro ?_ ?_; focus exact Cl4) | refine Both.T (by exact rfl) ?_ | refine Both.F (by exact rfl) ?_ | refine Both.GT (by exact rfl) (by exact rfl) ?_ | refine Both.GF (by exact rfl) ?_ | refine Both.GN (by exact rfl) ?_); conv => whnf) | (rw [hqf]; conv => whnf) | (rw [hqx]; conv => whnf) | (refine hsp _ ?_; conv => whnf) | ((refine Both.mk ?_ ?_ <;> fail_if_success (intro _)) <;> conv => whnf))
            all_goals (
              refine ⟨[], (), trivial, ?_⟩
              simp [meets, ghosts, St.le, St.get, look, keys, PV.labs, labsL, lookB, Blk.labs])
          have d1 : decide (off < 0) = false := decide_eq_false (by omega)
          have d2 : decide (8 < off) = false := decide_eq_false (by omega)
          have d3 : decide (on < 0) = false := decide_eq_false (by omega)
          have d4 : decide (2 < on) = false := decide_eq_false (by omega)
          conv => (arg 4; dsimp only)
          (conv => whnf); repeat ((first | (refine And.intro ?_ ?_; focus exact Cl4) | refine Both.T (by exact rfl) ?_ | refine Both.F (by exact rfl) ?_ | refine Both.GT (by exact rfl) (by exact rfl) ?_ | refine Both.GF (by exact rfl) ?_ | refine Both.GN (by exact rfl) ?_); conv => whnf)
          rw [d1, d2, d3, d4]
          (conv => whnf); repeat ((first | (refine And.intro ?_ ?_; focus exact Cl4) | refine Both.T (by exact rfl) ?_ | refine Both.F (by exact rfl) ?_ | refine Both.GT (by exact rfl) (by exact rfl) ?_ | refine Both.GF (by exact rfl) ?_ | refine Both.GN (by exact rfl) ?_); conv => whnf)
          rw [wrap64 (n := (k : Int) + 1) (by omega) (by omega)]
          refine ⟨[], k + 1, hkx, by show f.code.length - (k + 1) < f.code.length - k; omega, ?_⟩
          simp [meets, ghosts, St.le, St.get, look, keys, PV.labs, labsL, lookB, Blk.labs]
        · obtain rfl : k = f.code.length := by omega
          rw [decide_eq_false (show ¬ (f.code.length : Int) < (f.code.length : Int) by omega)]
          (conv => whnf); repeat ((first | (refine And.intro ?_ ?_; focus exact Cl4) | refine Both.T (by exact rfl) ?_ | refine Both.F (by exact rfl) ?_ | refine Both.GT (by exact rfl) (by exact rfl) ?_ | refine Both.GF (by exact rfl) ?_ | refine Both.GN (by exact rfl) ?_); conv => whnf)
          rw [wrap64 (n := (i : Int) + 1) (by omega) (by omega)]
          refine ⟨[], i + 1, hix, by show p.funcs.length - (i + 1) < p.funcs.length - i; omega, ?_⟩
          simp [meets, ghosts, St.le, St.get, look, keys, PV.labs, labsL, lookB, Blk.labs]
    · obtain rfl : i = p.funcs.length := by omega
      rw [decide_eq_false (show ¬ (p.funcs.length : Int) < (p.funcs.length : Int) by omega)]
      (conv => whnf); repeat ((first | (refine And.intro ?_ ?_; focus exact Cl4) | refine Both.T (by exact rfl) ?_ | refine Both.F (by exact rfl) ?_ | refine Both.GT (by exact rfl) (by exact rfl) ?_ | refine Both.GF (by exact rfl) ?_ | refine Both.GN (by exact rfl) ?_); conv => whnf)
end Go.Vc
namespace Go.Vc
open Go Go.Proofs
set_option maxRecDepth 100000
theorem bytes_spec1 (hF : FitsC) (p : PG) (zf : Nat) (lf : List PV) (tf : Bool) (zc : Nat) (lc : List PV) (tc : Bool) (hp : PGA p zf lf zc lc) (Post : PV → List (Nat × Blk) → Prop)
    (h0 : chkM p ≠ 0 → Post (.tup [.sl 0 [] false true, .int .i64 (chkM p)]) []) (h1 : chkM p = 0 → Post (.tup [.sl 1 (bs (bytesM p)) false true, .int .i64 0]) []) : Spec K 29 [.agg (pgc zf lf tf zc lc tc)] [] Post := (bytes_spec hF p zf lf tf zc lc tc hp Post h0 h1).of2
set_option maxHeartbeats 32000000 in
theorem back_law (hF : FitsC) (hW : WorksD) (hS : SameC) (p : PG) (zf : Nat) (lf : List PV) (tf : Bool) (zc : Nat) (lc : List PV) (tc : Bool) (hp : PGA p zf lf zc lc) : CSpec K 8 [.agg (pgc zf lf tf zc lc tc)] [] LawPost := by
  refine is8.cspec K_ok K_mix false (by simp) (by simp [keys]) ?_
  (conv => whnf); repeat ((first | (refine And.intro ?_ ?_; focus exact Cl4) | refine Both.T (by exact rfl) ?_ | refine Both.F (by exact rfl) ?_ | refine Both.GT (by exact rfl) (by exact rfl) ?_ | refine Both.GF (by exact rfl) ?_ | refine Both.GN (by exact rfl) ?_); conv => whnf)
  refine hW _ ?_
  (conv => whnf); repeat ((first | (refine And.intro ?_ ?_; focus exact Cl4) | refine Both.T (by exact rfl) ?_ | refine Both.F (by exact rfl) ?_ | refine Both.GT (by exact rfl) (by exact rfl) ?_ | refine Both.GF (by exact rfl) ?_ | refine Both.GN (by exact rfl) ?_); conv => whnf)
  refine bytes_spec1 hF p zf lf tf zc lc tc hp _ (fun hc => ?_) (fun hc => ?_)
  · have hc2 : (chkM p != 0) = true := by simpa using hc
    (conv => whnf); repeat ((first | (refine And.intro ?_ ?_; focus exact Cl4) | refine Both.T (by exact rfl) ?_ | refine Both.F (by exact rfl) ?_ | refine Both.GT (by exact rfl) (by exact rfl) ?_ | refine Both.GF (by exact rfl) ?_ | refine Both.GN (by exact rfl) ?_); conv => whnf)
    rw [hc2]
    (conv => whnf); repeat ((first | (refine And.intro ?_ ?_; focus exact Cl4) | refine Both.T (by exact rfl) ?_ | refine Both.F (by exact rfl) ?_ | refine Both.GT (by exact rfl) (by exact rfl) ?_ | refine Both.GF (by exact rfl) ?_ | refine Both.GN (by exact rfl) ?_); conv => whnf)
    refine chk_spec hF p zf lf tf zc lc tc hp _ ?_
    (conv => whnf); repeat ((first | (refine And.intro ?_ ?_; focus exact Cl4) | refine Both.T (by exact rfl) ?_ | refine Both.F (by exact rfl) ?_ | refine Both.GT (by exact rfl) (by exact rfl) ?_ | refine Both.GF (by exact rfl) ?_ | refine Both.GN (by exact rfl) ?_); conv => whnf)
  · (conv => whnf); repeat ((first | (refine And.intro ?_ ?_; focus exact Cl4) | refine Both.T (by exact rfl) ?_ | refine Both.F (by exact rfl) ?_ | refine Both.GT (by exact rfl) (by exact rfl) ?_ | refine Both.GF (by exact rfl) ?_ | refine Both.GN (by exact rfl) ?_); conv => whnf)
    have hbk := prog_back hc (VPs_nV hp.cs)
    have hbl := bytesM_len hc
    refine parse_spec hF (bytesM p) 1 _ (Or.inl rfl) (by omega) _ (fun e he _ => by rw [hbk] at he; cases he) (fun p' lf2 lc2 z1 z2 hp' hp2 => ?_)
    obtain rfl : p = p' := by rw [hbk] at hp'; cases hp'; rfl
    (conv => whnf); repeat' (first | ((first | (refine And.intro ?_ ?_; focus exact Cl4) | refine Both.T (by exact rfl) ?_ | refine Both.F (by exact rfl) ?_ | refine Both.GT (by exact rfl) (by exact rfl) ?_ | refine Both.GF (by exact rfl) ?_ | refine Both.GN (by exact rfl) ?_); conv => whnf) | (refine hS p _ _ _ _ _ _ _ _ _ _ _ _ hp hp2 _ ?_; conv => whnf) | ((refine chk_spec hF p _ _ _ _ _ _ hp _ ?_; rw [hc]); conv => whnf) | ((refine Both.mk ?_ ?_ <;> fail_if_success (intro _)) <;> conv => whnf))
    all_goals exact ⟨rfl, rfl⟩
theorem eq_t (a : List UInt8) (z1 z2 : Nat) (t1 t2 : Bool) (h1 : z1 = 1 ∨ bs a = []) (h2 : z2 = 1 ∨ bs a = []) (ha : a.length ≤ 1000000000) (Post : PV → List (Nat × Blk) → Prop) (h : Post (.bool true) []) :
    Spec K 32 [.sl z1 (bs a) t1 true, .sl z2 (bs a) t2 true] [] Post := eq_spec a a z1 z2 _ _ _ _ h1 h2 ha _ (by rw [beq_self_eq_true]; exact h)
theorem PGA0 : PGA ⟨[], []⟩ 0 [] 0 [] := ⟨rfl, rfl, .inr rfl, .inr rfl, Nat.zero_le _, Nat.zero_le _, fun f hf => (by cases hf), fun v hv => (by cases hv)⟩
set_option maxHeartbeats 32000000 in
theorem again_law (hF : FitsC) (hW : WorksD) (hS : SameC) (b : List UInt8) (z : Nat) (t : Bool) (hz : z = 1 ∨ b = []) (hb : b.length ≤ 2000000) : CSpec K 9 [.sl z (bs b) t true] [] LawPost := by
  refine is9.cspec K_ok K_mix false (by simp) (by simp [keys]) ?_
  have hz2 : z = 1 ∨ bs b = [] := hz.imp id fun h => by rw [h]; rfl
  (conv => whnf); repeat ((first | (refine And.intro ?_ ?_; focus exact Cl4) | refine Both.T (by exact rfl) ?_ | refine Both.F (by exact rfl) ?_ | refine Both.GT (by exact rfl) (by exact rfl) ?_ | refine Both.GF (by exact rfl) ?_ | refine Both.GN (by exact rfl) ?_); conv => whnf)
  refine hW _ ?_
  (conv => whnf); repeat ((first | (refine And.intro ?_ ?_; focus exact Cl4) | refine Both.T (by exact rfl) ?_ | refine Both.F (by exact rfl) ?_ | refine Both.GT (by exact rfl) (by exact rfl) ?_ | refine Both.GF (by exact rfl) ?_ | refine Both.GN (by exact rfl) ?_); conv => whnf)
  refine parse_spec hF b z t hz (by omega) _ (fun e he hne => ?_) (fun p lf lc z1 z2 hpr hp => ?_)
  · have hc2 : (e != 0) = true := by simpa using hne
    (conv => whnf); repeat ((first | (refine And.intro ?_ ?_; focus exact Cl4) | refine Both.T (by exact rfl) ?_ | refine Both.F (by exact rfl) ?_ | refine Both.GT (by exact rfl) (by exact rfl) ?_ | refine Both.GF (by exact rfl) ?_ | refine Both.GN (by exact rfl) ?_); conv => whnf)
    rw [hc2]
    (conv => whnf); repeat ((first | (refine And.intro ?_ ?_; focus exact Cl4) | refine Both.T (by exact rfl) ?_ | refine Both.F (by exact rfl) ?_ | refine Both.GT (by exact rfl) (by exact rfl) ?_ | refine Both.GF (by exact rfl) ?_ | refine Both.GN (by exact rfl) ?_); conv => whnf)
    refine hS ⟨[], []⟩ _ _ _ _ _ _ _ _ _ _ _ _ PGA0 PGA0 _ ?_
    (conv => whnf); repeat ((first | (refine And.intro ?_ ?_; focus exact Cl4) | refine Both.T (by exact rfl) ?_ | refine Both.F (by exact rfl) ?_ | refine Both.GT (by exact rfl) (by exact rfl) ?_ | refine Both.GF (by exact rfl) ?_ | refine Both.GN (by exact rfl) ?_); conv => whnf)
  · obtain ⟨hc, hbm⟩ := prog_again hpr
    (conv => whnf); repeat ((first | (refine And.intro ?_ ?_; focus exact Cl4) | refine Both.T (by exact rfl) ?_ | refine Both.F (by exact rfl) ?_ | refine Both.GT (by exact rfl) (by exact rfl) ?_ | refine Both.GF (by exact rfl) ?_ | refine Both.GN (by exact rfl) ?_); conv => whnf)
    refine bytes_spec1 hF p z1 lf _ z2 lc _ hp _ (fun h => absurd hc h) (fun _ => ?_)
    rw [hbm]
    (conv => whnf); repeat' (first | ((first | (refine And.intro ?_ ?_; focus exact Cl4) | refine Both.T (by exact rfl) ?_ | refine Both.F (by exact rfl) ?_ | refine Both.GT (by exact rfl) (by exact rfl) ?_ | refine Both.GF (by exact rfl) ?_ | refine Both.GN (by exact rfl) ?_); conv => whnf) | (refine eq_t b _ _ _ _ hz2 (Or.inl rfl) (by omega) _ ?_; conv => whnf) | ((refine chk_spec hF p _ _ _ _ _ _ hp _ ?_; rw [hc]); conv => whnf) | ((refine Both.mk ?_ ?_ <;> fail_if_success (intro _)) <;> conv => whnf))
    all_goals exact ⟨rfl, rfl⟩
end Go.Vc
