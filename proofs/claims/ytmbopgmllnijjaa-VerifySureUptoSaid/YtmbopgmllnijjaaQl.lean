/- What is proved here: contracts of functions of the program: of each function what it hands back and what it leaves in memory. Conditions: those that each theorem names. -/
import Derived.Test.YtmbopgmllnijjaaQk
import Derived.Test.YtmbopgmllnijjaaPa
import Derived.Test.YtmbopgmllnijjaaQi
set_option linter.unusedVariables false
set_option linter.unusedSimpArgs false
set_option linter.unusedSectionVars false
namespace Go.Vc
open Go Go.Proofs
set_option maxRecDepth 100000
theorem PlW.open {x : Option HS} {p : PV} (h : PlW x p) (hb : ∀ s, x = some s → s.ts.length ≤ 8) : ∃ b hh y ts u o, p = .agg [.bool b, .int .i64 hh, .sl y (tps ts) u o] ∧ (y = 2 ∨ ts = []) ∧ ts.length ≤ 8 ∧
    ∀ y' u' o', (y' = 2 ∨ ts = []) → PlW x (.agg [.bool b, .int .i64 hh, .sl y' (tps ts) u' o']) := by
  cases x with
  | none =>
    obtain ⟨z, t, o, rfl⟩ := h
    exact ⟨false, 0, z, [], t, o, rfl, .inr rfl, by decide, fun y' u' o' _ => ⟨y', u', o', rfl⟩⟩
  | some s =>
    obtain ⟨z, t, o, rfl, hz⟩ := h
    exact ⟨true, s.h, z, s.ts, t, o, rfl, hz, hb s rfl, fun y' u' o' hy => ⟨y', u', o', rfl, hy⟩⟩
/-- A code whose numbers are small. -/
structure CodeOk (p : PG) (c : List IN) : Prop where
  pos : 0 < c.length
  len : c.length ≤ 1000
  ins : ∀ x ∈ c, Small p x
set_option maxHeartbeats 32000000 in
theorem func_spec (p : PG) (f : FD) (zf : Nat) (lf : List PV) (tf : Bool) (zc : Nat) (lc : List PV) (tc : Bool) (z : Nat) (t : Bool) (hp : PGA p zf lf zc lc) (hz : z = 3 ∨ f.code = []) (hc : CodeOk p f.code) (Post : PV → List (Nat × Blk) → Prop)
    (h0 : funcK p f.code = none → Post (.tup [.sl 0 [] false true, .int .i64 170]) []) (h1 : ∀ pl L, funcK p f.code = some pl → PWs pl L → Post (.tup [.sl 3 L false true, .int .i64 0]) []) :
    Spec K 42 [.agg (pgc zf lf tf zc lc tc), .agg (fdc f z t)] [] Post := by
  refine is42.specC [23, 35, 49, 74] K_ok K_mix false (by simp) (by simp [keys]) ?_
  have hpos := hc.pos
  have hlen := hc.len
  have hze : zeroElem K 38 = .agg [.bool false, .int .i64 0, .sl 0 [] true false] := rfl
  (conv => whnf); repeat ((first | (refine And.intro ?_ ?_; focus exact Cl4) | refine Both.T (by exact rfl) ?_ | refine Both.F (by exact rfl) ?_ | refine Both.GT (by exact rfl) (by exact rfl) ?_ | refine Both.GF (by exact rfl) ?_ | refine Both.GN (by exact rfl) ?_); conv => whnf)
  refine ⟨by rw [List.length_map]; show ((40 : Nat) : Int) * (f.code.length : Int) ≤ _; omega, ?_⟩
  (conv => whnf); repeat ((first | (refine And.intro ?_ ?_; focus exact Cl4) | refine Both.T (by exact rfl) ?_ | refine Both.F (by exact rfl) ?_ | refine Both.GT (by exact rfl) (by exact rfl) ?_ | refine Both.GF (by exact rfl) ?_ | refine Both.GN (by exact rfl) ?_); conv => whnf)
  rw [hze, List.length_map, Int.toNat_natCast]
  have hPL0 : PLs (List.replicate f.code.length none) (List.replicate f.code.length (.agg [.bool false, .int .i64 0, .sl 0 [] true false])) := by
    refine ⟨by simp, fun i hi => ?_⟩
    rw [List.length_replicate] at hi
    have e1 : PL.at (List.replicate f.code.length none) i = none := by unfold PL.at; rw [List.getElem?_replicate]; split <;> rfl
    have e2 : nth (List.replicate f.code.length (PV.agg [.bool false, .int .i64 0, .sl 0 [] true false])) i = .agg [.bool false, .int .i64 0, .sl 0 [] true false] := by
      unfold nth; rw [List.getD_eq_getElem?_getD, List.getElem?_replicate, if_pos hi]; rfl
    rw [e1, e2]
    exact ⟨0, true, false, rfl⟩
  (conv => whnf); repeat ((first | (refine And.intro ?_ ?_; focus exact Cl4) | refine Both.T (by exact rfl) ?_ | refine Both.F (by exact rfl) ?_ | refine Both.GT (by exact rfl) (by exact rfl) ?_ | refine Both.GF (by exact rfl) ?_ | refine Both.GN (by exact rfl) ?_); conv => whnf)
  refine come0_spec f.code.length _ hPL0 hpos (by omega) _ (fun L hL => ?_)
  (conv => whnf); repeat ((first | (refine And.intro ?_ ?_; focus exact Cl4) | refine Both.T (by exact rfl) ?_ | refine Both.F (by exact rfl) ?_ | refine Both.GT (by exact rfl) (by exact rfl) ?_ | refine Both.GF (by exact rfl) ?_ | refine Both.GN (by exact rfl) ?_); conv => whnf)
  have hsK := start_KI f.code.length hpos
  have hst := start_todo f.code.length hpos
  refine ⟨KS × List PV × List PV, fun x => ⟨95, [(6, .ptr 3 0), (3, .ptr 1 0), (2, .ptr 0 0)], [(3, .box [.ref 3 2 0 f.code.length, .ref 1 8 0 x.1.left.length, .bool x.1.odd]), (2, .row 38 3 x.2.1 true), (8, .row 3 1 x.2.2 true), (1, .box (fdc f z t)), (0, .box (pgc zf lf tf zc lc tc))], []⟩,
    fun x => x.1.odd = false ∧ KI f.code.length x.1 ∧ x.1.todo ≤ f.code.length ∧ PLs x.1.pl x.2.1 ∧ Lf x.1.left x.2.2 ∧ ∃ m, x.1.todo ≤ m ∧ loopK p f.code m x.1 = loopK p f.code f.code.length (startK f.code.length), fun x => x.1.todo,
    ⟨[.age 8], (startK f.code.length, L, [.int .i64 0]), ⟨rfl, hsK, Nat.le_of_eq hst, hL, ⟨rfl⟩, f.code.length, Nat.le_of_eq hst, rfl⟩, ?_⟩, fun x hI => ?_⟩
  · simp [meets, ghosts, ghost, St.le, St.get, look, keys, PV.labs, labsL, lookB, Blk.labs, updB, startK]
  · clear hL hPL0 hsK hst
    clear L
    obtain ⟨k, L, M⟩ := x
    obtain ⟨ho, hK, htd, hL, hM, m, hm, hR⟩ := hI
    simp only at ho hK htd hL hM hm hR
    have hkl := hK.len
    have hll : k.left.length ≤ f.code.length := by unfold KS.todo at htd; omega
    conv => (arg 5; dsimp only)
    (conv => whnf); repeat ((first | (refine And.intro ?_ ?_; focus exact Cl4) | refine Both.T (by exact rfl) ?_ | refine Both.F (by exact rfl) ?_ | refine Both.GT (by exact rfl) (by exact rfl) ?_ | refine Both.GF (by exact rfl) ?_ | refine Both.GN (by exact rfl) ?_); conv => whnf)
    cases hg : k.left.getLast? with
    | none =>
      have hl0 : k.left = [] := List.getLast?_eq_none_iff.1 hg
      rw [hl0, ho]
      (conv => whnf); repeat ((first | (refine And.intro ?_ ?_; focus exact Cl4) | refine Both.T (by exact rfl) ?_ | refine Both.F (by exact rfl) ?_ | refine Both.GT (by exact rfl) (by exact rfl) ?_ | refine Both.GF (by exact rfl) ?_ | refine Both.GN (by exact rfl) ?_); conv => whnf)
      have hfk : funcK p f.code = some k.pl := by
        have e1 : loopK p f.code m k = k := by
          cases m with
          | zero => rfl
          | succ m => simp only [loopK, hg]
        unfold funcK
        rw [← hR, e1, if_neg (by rw [ho]; simp)]
      refine ⟨Nat × List PV, fun x => ⟨95, [(71, .int .i64 x.1), (70, .int .i64 f.code.length), (6, .ptr 3 0)], [(3, .box [.ref 3 2 0 f.code.length, .ref 1 8 0 0, .bool false]), (2, .row 38 3 x.2 true), (8, .row 3 1 M true)], []⟩, fun x => x.1 ≤ f.code.length ∧ PWs k.pl x.2, fun x => f.code.length - x.1,
        ⟨[], (0, L), ⟨Nat.zero_le _, hL.len, fun i hi => ?_⟩, ?_⟩, fun x hI => ?_⟩
      · have := hL.at_ i hi
        cases ha : PL.at k.pl i with
        | none => rw [ha] at this; exact this
        | some s => rw [ha] at this; obtain ⟨y, o, q1, q2⟩ := this; exact ⟨y, true, o, q1, q2⟩
      · simp [meets, ghosts, ghost, St.le, St.get, look, keys, PV.labs, labsL, lookB, Blk.labs, updB]
      · obtain ⟨j, LL⟩ := x
        obtain ⟨hj, hW⟩ := hI
        simp only at hj hW
        have hWl := hW.len
        conv => (arg 5; dsimp only)
        (conv => whnf); repeat ((first | (refine And.intro ?_ ?_; focus exact Cl4) | refine Both.T (by exact rfl) ?_ | refine Both.F (by exact rfl) ?_ | refine Both.GT (by exact rfl) (by exact rfl) ?_ | refine Both.GF (by exact rfl) ?_ | refine Both.GN (by exact rfl) ?_); conv => whnf)
        by_cases hjx : j < f.code.length
        · rw [decide_eq_true (show (j : Int) < (f.code.length : Int) by omega)]
          (conv => whnf); repeat ((first | (refine And.intro ?_ ?_; focus exact Cl4) | refine Both.T (by exact rfl) ?_ | refine Both.F (by exact rfl) ?_ | refine Both.GT (by exact rfl) (by exact rfl) ?_ | refine Both.GF (by exact rfl) ?_ | refine Both.GN (by exact rfl) ?_); conv => whnf)
          have hjl : j < LL.length := by omega
          have hjl2 : 0 + ((j : Int)).toNat < LL.length := by omega
          obtain ⟨bb, hh, y, ts, u, o, hqj, hy, hts, hput⟩ := PlW.open (hW.at_ j (by omega)) (fun s hs => (hK.q j s hs).2.2)
          have hqj2 : nth LL (0 + ((j : Int)).toNat) = .agg [.bool bb, .int .i64 hh, .sl y (tps ts) u o] := by rw [Nat.zero_add, Int.toNat_natCast]; exact hqj
          refine ⟨Nat, fun y' => ⟨95, [(71, .int .i64 j), (70, .int .i64 f.code.length), (6, .ptr 3 0)], [(3, .box [.ref 3 2 0 f.code.length, .ref 1 8 0 0, .bool false]), (2, .row 38 3 (LL.set j (.agg [.bool bb, .int .i64 hh, .sl y' (tps ts) false true])) true), (8, .row 3 1 M true)], []⟩, fun y' => y' = 2 ∨ ts = [], ?_, fun y' hy' => ?_⟩
          · (conv => whnf); repeat' (first | ((first | (refine And.intro ?_ ?_; focus exact Cl4) | refine Both.T (by exact rfl) ?_ | refine Both.F (by exact rfl) ?_ | refine Both.GT (by exact rfl) (by exact rfl) ?_ | refine Both.GF (by exact rfl) ?_ | refine Both.GN (by exact rfl) ?_); conv => whnf) | (rw [hqj2]; conv => whnf) | (refine clone_spec ts y _ hy (by omega) _ (fun y' hy' => ?_); conv => whnf) | ((refine Both.mk ?_ ?_ <;> fail_if_success (intro _)) <;> conv => whnf))
            all_goals (
              refine ⟨[], y', hy', ?_⟩
              simp [meets, ghosts, ghost, St.le, St.get, look, keys, PV.labs, labsL, lookB, Blk.labs, updB, putElem, setAt])
          conv => (arg 4; dsimp only)
          (conv => whnf); repeat ((first | (refine And.intro ?_ ?_; focus exact Cl4) | refine Both.T (by exact rfl) ?_ | refine Both.F (by exact rfl) ?_ | refine Both.GT (by exact rfl) (by exact rfl) ?_ | refine Both.GF (by exact rfl) ?_ | refine Both.GN (by exact rfl) ?_); conv => whnf)
          rw [wrap64 (n := (j : Int) + 1) (by omega) (by omega)]
          refine ⟨[], (j + 1, LL.set j (.agg [.bool bb, .int .i64 hh, .sl y' (tps ts) false true])), ⟨hjx, by rw [List.length_set]; exact hWl, fun i hi => ?_⟩, by show f.code.length - (j + 1) < f.code.length - j; omega, ?_⟩
          · rw [nth_set hjl]
            by_cases hij : j = i
            · subst hij; rw [if_pos rfl]; exact hput y' false true hy'
            · rw [if_neg hij]; exact hW.at_ i hi
          · simp [meets, ghosts, ghost, St.le, St.get, look, keys, PV.labs, labsL, lookB, Blk.labs, updB]
        · obtain rfl : j = f.code.length := by omega
          rw [decide_eq_false (show ¬ (f.code.length : Int) < (f.code.length : Int) by omega)]
          (conv => whnf); repeat ((first | (refine And.intro ?_ ?_; focus exact Cl4) | refine Both.T (by exact rfl) ?_ | refine Both.F (by exact rfl) ?_ | refine Both.GT (by exact rfl) (by exact rfl) ?_ | refine Both.GF (by exact rfl) ?_ | refine Both.GN (by exact rfl) ?_); conv => whnf)
          rw [List.drop_zero, List.take_of_length_le (by omega)]
          exact h1 k.pl LL hfk hW
    | some i =>
      have hne : k.left ≠ [] := fun h => by rw [h] at hg; cases hg
      have hpl : 0 < k.left.length := List.length_pos_iff.2 hne
      rw [decide_eq_true (show (0 : Int) < (k.left.length : Int) by omega)]
      (conv => whnf); repeat ((first | (refine And.intro ?_ ?_; focus exact Cl4) | refine Both.T (by exact rfl) ?_ | refine Both.F (by exact rfl) ?_ | refine Both.GT (by exact rfl) (by exact rfl) ?_ | refine Both.GF (by exact rfl) ?_ | refine Both.GN (by exact rfl) ?_); conv => whnf)
      have w1 : IntKind.i64.wrap ((k.left.length : Int) - 1) = (k.left.length : Int) - 1 := wrap64 (by omega) (by omega)
      have hMt : M.take k.left.length = lfs k.left := hM.take
      have hMl : k.left.length ≤ M.length := by
        have := congrArg List.length hMt
        rw [List.length_take, List.length_map] at this
        omega
      have hmem : i ∈ k.left := List.mem_of_getLast? hg
      have hil : k.left[k.left.length - 1]'(by omega) = i := by
        rw [List.getLast?_eq_getElem?, List.getElem?_eq_getElem (by omega)] at hg
        exact Option.some.inj hg
      have hnM : nth M (0 + ((k.left.length : Int) - 1).toNat) = .int .i64 (i : Int) := by
        rw [Nat.zero_add, show ((k.left.length : Int) - 1).toNat = k.left.length - 1 by omega]
        have : (M.take k.left.length)[k.left.length - 1]? = some (.int .i64 (i : Int)) := by
          rw [hMt, List.getElem?_map, List.getElem?_eq_getElem (by omega), hil]; rfl
        rw [List.getElem?_take, if_pos (by omega)] at this
        unfold nth
        rw [List.getD_eq_getElem?_getD, this]; rfl
      have hbM : 0 + ((k.left.length : Int) - 1).toNat < M.length := by omega
      refine ⟨Unit, fun _ => ⟨95, [(7, .int .i64 i), (6, .ptr 3 0), (3, .ptr 1 0), (2, .ptr 0 0)], [(3, .box [.ref 3 2 0 f.code.length, .ref 1 8 0 k.left.length, .bool k.odd]), (2, .row 38 3 L true), (8, .row 3 1 M true), (1, .box (fdc f z t)), (0, .box (pgc zf lf tf zc lc tc))], []⟩, fun _ => True, ?_, fun _ _ => ?_⟩
      · (conv => whnf); repeat' (first | ((first | (refine And.intro ?_ ?_; focus exact Cl4) | refine Both.T (by exact rfl) ?_ | refine Both.F (by exact rfl) ?_ | refine Both.GT (by exact rfl) (by exact rfl) ?_ | refine Both.GF (by exact rfl) ?_ | refine Both.GN (by exact rfl) ?_); conv => whnf) | (rw [w1]; conv => whnf) | (rw [hnM]; conv => whnf) | ((refine Both.mk ?_ ?_ <;> fail_if_success (intro _)) <;> conv => whnf))
        all_goals (
          refine ⟨[], (), trivial, ?_⟩
          simp [meets, ghosts, ghost, St.le, St.get, look, keys, PV.labs, labsL, lookB, Blk.labs, updB])
      conv => (arg 4; dsimp only)
      (conv => whnf); repeat ((first | (refine And.intro ?_ ?_; focus exact Cl4) | refine Both.T (by exact rfl) ?_ | refine Both.F (by exact rfl) ?_ | refine Both.GT (by exact rfl) (by exact rfl) ?_ | refine Both.GF (by exact rfl) ?_ | refine Both.GN (by exact rfl) ?_); conv => whnf)
      refine ⟨Unit, fun _ => ⟨95, [(7, .int .i64 i), (6, .ptr 3 0), (3, .ptr 1 0), (2, .ptr 0 0)], [(3, .box [.ref 3 2 0 f.code.length, .ref 1 8 0 (k.left.length - 1), .bool k.odd]), (2, .row 38 3 L true), (8, .row 3 1 M true), (1, .box (fdc f z t)), (0, .box (pgc zf lf tf zc lc tc))], []⟩, fun _ => True, ?_, fun _ _ => ?_⟩
      · (conv => whnf); repeat' (first | ((first | (refine And.intro ?_ ?_; focus exact Cl4) | refine Both.T (by exact rfl) ?_ | refine Both.F (by exact rfl) ?_ | refine Both.GT (by exact rfl) (by exact rfl) ?_ | refine Both.GF (by exact rfl) ?_ | refine Both.GN (by exact rfl) ?_); conv => whnf) | (rw [w1]; conv => whnf) | ((refine Both.mk ?_ ?_ <;> fail_if_success (intro _)) <;> conv => whnf))
        all_goals (
          refine ⟨[], (), trivial, ?_⟩
          have w2 : ((k.left.length : Int) - 1).toNat = k.left.length - 1 := by omega
          simp [meets, ghosts, ghost, St.le, St.get, look, keys, PV.labs, labsL, lookB, Blk.labs, updB, w2])
      conv => (arg 4; dsimp only)
      (conv => whnf); repeat ((first | (refine And.intro ?_ ?_; focus exact Cl4) | refine Both.T (by exact rfl) ?_ | refine Both.F (by exact rfl) ?_ | refine Both.GT (by exact rfl) (by exact rfl) ?_ | refine Both.GF (by exact rfl) ?_ | refine Both.GN (by exact rfl) ?_); conv => whnf)
      obtain ⟨s, hs⟩ := hK.lf i hmem
      have hic : i < f.code.length := by have := PL.at_lt hs; omega
      have hx := hc.ins _ (List.getElem_mem hic)
      have hq := hK.q i s hs
      have hki : i < (List.map INP f.code).length := by rw [List.length_map]; exact hic
      have hz2 : z = 3 ∨ List.map INP f.code = [] := hz.imp id fun h => by rw [h]; rfl
      have hM' : Lf k.left.dropLast M := ⟨by
        have e1 : M.take k.left.dropLast.length = (M.take k.left.length).take k.left.dropLast.length := by rw [List.take_take, Nat.min_eq_left (by rw [List.length_dropLast]; omega)]
        rw [e1, hMt, List.length_dropLast, lfs, lfs, List.dropLast_eq_take, List.map_take]⟩
      have hstep := step_spec p f.code[i] i s { k with left := k.left.dropLast } L M zf lf tf zc lc tc hp hx hL hM' (by show k.pl.length ≤ _; omega) (by show k.left.dropLast.length ≤ _; rw [List.length_dropLast]; omega) hs (fun j u hu => (hK.q j u hu).2.2) hq.1 hq.2.1
      have hspl : (stepK p f.code[i] i s { k with left := k.left.dropLast }).odd = false → KI f.code.length (stepK p f.code[i] i s { k with left := k.left.dropLast }) ∧ (stepK p f.code[i] i s { k with left := k.left.dropLast }).todo + 1 = k.todo := round_KI hK hs hne hx.on0 hx.jump
      have hloop : ∀ m', loopK p f.code (m' + 1) k = (if (stepK p f.code[i] i s { k with left := k.left.dropLast }).odd then stepK p f.code[i] i s { k with left := k.left.dropLast } else loopK p f.code m' (stepK p f.code[i] i s { k with left := k.left.dropLast })) := by
        intro m'
        have hgd : f.code.getD i default = f.code[i] := by rw [List.getD_eq_getElem?_getD, List.getElem?_eq_getElem hic]; rfl
        simp only [loopK, hg, hs, Option.getD_some, hgd]
      simp only [kh, List.length_dropLast, hkl] at hstep
      have hk2l : (stepK p f.code[i] i s { k with left := k.left.dropLast }).pl.length = f.code.length := (stepK_len _ _ _ _ _).trans hkl
      generalize hk2 : stepK p f.code[i] i s { k with left := k.left.dropLast } = k2 at hstep hspl hloop hk2l
      refine ⟨List PV × List PV, fun y => ⟨95, [(6, .ptr 3 0), (3, .ptr 1 0), (2, .ptr 0 0)], [(3, .box [.ref 3 2 0 k2.pl.length, .ref 1 8 0 k2.left.length, .bool k2.odd]), (2, .row 38 3 y.1 true), (8, .row 3 1 y.2 true), (1, .box (fdc f z t)), (0, .box (pgc zf lf tf zc lc tc))], []⟩, fun y => PLs k2.pl y.1 ∧ Lf k2.left y.2, ?_, fun y hy => ?_⟩
      · have hcn := code_nth hic
        (conv => whnf); repeat' (first | ((first | (refine And.intro ?_ ?_; focus exact Cl4) | refine Both.T (by exact rfl) ?_ | refine Both.F (by exact rfl) ?_ | refine Both.GT (by exact rfl) (by exact rfl) ?_ | refine Both.GF (by exact rfl) ?_ | refine Both.GN (by exact rfl) ?_); conv => whnf) | (rw [Int.toNat_natCast, hcn]; conv => whnf) | (rw [hcn]; conv => whnf) | (refine hstep _ (fun L2 M2 hL2 hM2 => ?_); conv => whnf) | ((refine Both.mk ?_ ?_ <;> fail_if_success (intro _)) <;> conv => whnf))
        all_goals exact ⟨[], (L2, M2), ⟨hL2, hM2⟩, by simp [meets, ghosts, ghost, St.le, St.get, look, keys, PV.labs, labsL, lookB, Blk.labs, updB]⟩
      obtain ⟨L2, M2⟩ := y
      obtain ⟨hL2, hM2⟩ := hy
      simp only at hL2 hM2
      conv => (arg 4; dsimp only)
      (conv => whnf); repeat ((first | (refine And.intro ?_ ?_; focus exact Cl4) | refine Both.T (by exact rfl) ?_ | refine Both.F (by exact rfl) ?_ | refine Both.GT (by exact rfl) (by exact rfl) ?_ | refine Both.GF (by exact rfl) ?_ | refine Both.GN (by exact rfl) ?_); conv => whnf)
      have htp := todo_pop hne
      obtain ⟨m', rfl⟩ : ∃ m', m = m' + 1 := ⟨m - 1, by omega⟩
      have hlm := hloop m'
      rw [hR] at hlm
      cases ho2 : k2.odd
      · rw [ho2] at hlm
        obtain ⟨hK2, ht2⟩ := hspl ho2
        (conv => whnf); repeat ((first | (refine And.intro ?_ ?_; focus exact Cl4) | refine Both.T (by exact rfl) ?_ | refine Both.F (by exact rfl) ?_ | refine Both.GT (by exact rfl) (by exact rfl) ?_ | refine Both.GF (by exact rfl) ?_ | refine Both.GN (by exact rfl) ?_); conv => whnf)
        refine ⟨[], (k2, L2, M2), ⟨ho2, hK2, by show k2.todo ≤ _; omega, hL2, hM2, m', by show k2.todo ≤ m'; omega, hlm.symm⟩, by show k2.todo < k.todo; omega, ?_⟩
        simp [meets, ghosts, ghost, St.le, St.get, look, keys, PV.labs, labsL, lookB, Blk.labs, updB, hk2l, ho2]
      · rw [ho2] at hlm
        (conv => whnf); repeat ((first | (refine And.intro ?_ ?_; focus exact Cl4) | refine Both.T (by exact rfl) ?_ | refine Both.F (by exact rfl) ?_ | refine Both.GT (by exact rfl) (by exact rfl) ?_ | refine Both.GF (by exact rfl) ?_ | refine Both.GN (by exact rfl) ?_); conv => whnf)
        refine h0 ?_
        unfold funcK
        rw [hlm]
        show (if k2.odd = true then none else some k2.pl) = none
        rw [if_pos ho2]
end Go.Vc
namespace Go.Vc
open Go Go.Proofs
set_option maxRecDepth 100000
/-- A program that may be. -/
structure May (p : PG) : Prop where
  some : p.funcs ≠ []
  few : p.funcs.length ≤ 16
  len : ∀ f ∈ p.funcs, f.code.length ≤ 512
  head : ∀ f ∈ p.funcs, headM p f = true
  ins : ∀ f ∈ p.funcs, ∀ x ∈ f.code, insM p f x = true
theorem chk_may {p : PG} (h : chkM p = 0) : May p := by
  unfold chkM at h
  split at h
  · cases h
  rename_i h1
  split at h
  · cases h
  rename_i h2
  split at h
  · cases h
  rename_i h3
  have a1 : ¬ 16 < p.funcs.length := fun hc => h1 (.inl hc)
  have a2 : (p.funcs.any fun f => decide (512 < f.code.length)) = false := by
    cases hc : (p.funcs.any fun f => decide (512 < f.code.length))
    · rfl
    · exact absurd (.inr (.inr hc)) h1
  have a3 : (p.funcs.any fun f => !headM p f) = false := by
    cases hc : (p.funcs.any fun f => !headM p f)
    · rfl
    · exact absurd (.inr (.inr hc)) h2
  have a4 : (p.funcs.any fun f => f.code.any fun x => !insM p f x) = false := by
    cases hc : (p.funcs.any fun f => f.code.any fun x => !insM p f x)
    · rfl
    · exact absurd hc h3
  rw [List.any_eq_false] at a2 a3 a4
  refine ⟨fun hc => h2 (.inl hc), by omega, fun f hf => by have := a2 f hf; simp at this; exact this, fun f hf => by have := a3 f hf; simpa using this, fun f hf x hx => ?_⟩
  have := a4 f hf
  simp only [Bool.not_eq_true] at this
  rw [List.any_eq_false] at this
  have := this x hx
  simpa using this
theorem ins_small {p : PG} {f : FD} {x : IN} (hm : May p) (hf : f ∈ p.funcs) (hx : x ∈ f.code) (hi : i64 x.a) : Small p x := by
  have h := hm.ins f hf x hx
  unfold insM at h
  simp only [Bool.and_eq_true, decide_eq_true_eq] at h
  obtain ⟨⟨⟨h1, h2⟩, h3⟩, h4⟩ := h
  have hmv : 0 ≤ (movesM p x).1 ∧ (movesM p x).1 ≤ 1000 ∧ 0 ≤ (movesM p x).2 ∧ (movesM p x).2 ≤ 1000 := by
    by_cases h20 : x.op = 20
    · have e : movesM p x = (x.a, 1) := by unfold movesM; rw [h20]; rfl
      have e2 : operandM p f x = (decide (0 ≤ x.a) && decide (x.a ≤ 8)) := by unfold operandM; rw [h20]; rfl
      rw [e2, Bool.and_eq_true, decide_eq_true_eq, decide_eq_true_eq] at h4
      rw [e]
      exact ⟨h4.1, by show x.a ≤ 1000; omega, by show (0 : Int) ≤ 1; decide, by show (1 : Int) ≤ 1000; decide⟩
    by_cases h21 : x.op = 21
    · have e2 : operandM p f x = (inB x.a p.consts.length && (match p.consts[x.a.toNat]? with | some v => recordM v | none => false)) := by unfold operandM; rw [h21]; rfl
      rw [e2, Bool.and_eq_true] at h4
      obtain ⟨g1, g2⟩ := h4
      unfold inB at g1
      rw [Bool.and_eq_true, decide_eq_true_eq, decide_eq_true_eq] at g1
      have hlt : x.a.toNat < p.consts.length := by omega
      rw [List.getElem?_eq_getElem hlt] at g2
      have g3 : recordM p.consts[x.a.toNat] = true := g2
      unfold recordM at g3
      simp only [Bool.and_eq_true, decide_eq_true_eq] at g3
      have e : movesM p x = (((p.consts[x.a.toNat].l.length : Nat) : Int), 1) := by
        unfold movesM; rw [h21]; simp [g1.1, List.getElem?_eq_getElem hlt]
      rw [e]
      have := g3.2.1.2
      exact ⟨by show (0 : Int) ≤ ((p.consts[x.a.toNat].l.length : Nat) : Int); omega, by show ((p.consts[x.a.toNat].l.length : Nat) : Int) ≤ 1000; omega, by show (0 : Int) ≤ 1; decide, by show (1 : Int) ≤ 1000; decide⟩
    by_cases h29 : x.op = 29
    · have e2 : operandM p f x = inB x.a p.funcs.length := by unfold operandM; rw [h29]; rfl
      rw [e2] at h4
      unfold inB at h4
      rw [Bool.and_eq_true, decide_eq_true_eq, decide_eq_true_eq] at h4
      have hlt : x.a.toNat < p.funcs.length := by omega
      have hh := hm.head _ (List.getElem_mem hlt)
      unfold headM at hh
      simp only [Bool.and_eq_true, decide_eq_true_eq] at hh
      have e : movesM p x = (p.funcs[x.a.toNat].args, 1) := by
        unfold movesM; rw [h29]; simp [h4.1, List.getElem?_eq_getElem hlt]
      rw [e]
      exact ⟨hh.1.1.1.1.2, by show p.funcs[x.a.toNat].args ≤ 1000; have := hh.1.1.1.2; omega, by show (0 : Int) ≤ 1; decide, by show (1 : Int) ≤ 1000; decide⟩
    clear h4 h3
    unfold movesM
    rw [if_neg h20, if_neg h21, if_neg h29]
    repeat' split
    all_goals (refine ⟨?_, ?_, ?_, ?_⟩ <;> (first | (show (0 : Int) ≤ 0; decide) | (show (0 : Int) ≤ 1; decide) | (show (0 : Int) ≤ 2; decide) | (show (0 : Int) ≤ 1000; decide) | (show (1 : Int) ≤ 1000; decide) | (show (2 : Int) ≤ 1000; decide)))
  refine ⟨hmv.1, hmv.2.1, hmv.2.2.1, hmv.2.2.2, hi, fun hj => ?_⟩
  unfold operandM at h4
  have : inB x.a f.code.length = true := by
    rcases hj with hj | hj | hj <;> (rw [hj] at h4; simpa using h4)
  unfold inB at this
  simp only [Bool.and_eq_true, decide_eq_true_eq] at this
  exact this.1
theorem may_code {p : PG} {zf zc : Nat} {lf lc : List PV} (hp : PGA p zf lf zc lc) (hm : May p) {f : FD} (hf : f ∈ p.funcs) : CodeOk p f.code := by
  have hh := hm.head f hf
  unfold headM at hh
  simp only [Bool.and_eq_true, decide_eq_true_eq] at hh
  exact ⟨hh.2, by have := hm.len f hf; omega, fun x hx => ins_small hm hf hx ((hp.fb f hf).ins x hx).2.1⟩
/-- What Func answers. -/
def verM (p : PG) (f : Int) : Except Int PL :=
  if chkM p ≠ 0 then .error (chkM p)
  else if f < 0 ∨ (p.funcs.length : Int) ≤ f then .error 9
  else match p.funcs[f.toNat]? with
    | none => .error 9
    | some g => match funcK p g.code with
      | none => .error 170
      | some pl => .ok pl
def progM (p : PG) : Int := if chkM p ≠ 0 then chkM p else if (p.funcs.any fun f => (funcK p f.code).isNone) = true then 170 else 0
set_option maxHeartbeats 8000000 in
theorem verf_spec (hF : FitsC) (p : PG) (f : Int) (zf : Nat) (lf : List PV) (tf : Bool) (zc : Nat) (lc : List PV) (tc : Bool) (hp : PGA p zf lf zc lc) (Post : PV → List (Nat × Blk) → Prop)
    (h0 : ∀ e, verM p f = .error e → Post (.tup [.sl 0 [] false true, .int .i64 e]) []) (h1 : ∀ pl L, verM p f = .ok pl → PWs pl L → Post (.tup [.sl 3 L false true, .int .i64 0]) []) :
    Spec K 16 [.agg (pgc zf lf tf zc lc tc), .int .i64 f] [] Post := by
  refine is16.specW K_ok K_mix false (by simp) (by simp [keys]) ?_
  have hfl := FPs_len hp.fs
  have hz := zlf hp
  (conv => whnf); repeat ((first | (refine And.intro ?_ ?_; focus exact Cl4) | refine Both.T (by exact rfl) ?_ | refine Both.F (by exact rfl) ?_ | refine Both.GT (by exact rfl) (by exact rfl) ?_ | refine Both.GF (by exact rfl) ?_ | refine Both.GN (by exact rfl) ?_); conv => whnf)
  refine chk_spec hF p zf lf tf zc lc tc hp _ ?_
  by_cases hc : chkM p = 0
  · rw [hc]
    (conv => whnf); repeat ((first | (refine And.intro ?_ ?_; focus exact Cl4) | refine Both.T (by exact rfl) ?_ | refine Both.F (by exact rfl) ?_ | refine Both.GT (by exact rfl) (by exact rfl) ?_ | refine Both.GF (by exact rfl) ?_ | refine Both.GN (by exact rfl) ?_); conv => whnf)
    rw [hfl]
    by_cases hr : f < 0 ∨ (p.funcs.length : Int) ≤ f
    · refine Both.T (by rcases hr with hr | hr <;> simp [hr]) ?_
      (conv => whnf); repeat ((first | (refine And.intro ?_ ?_; focus exact Cl4) | refine Both.T (by exact rfl) ?_ | refine Both.F (by exact rfl) ?_ | refine Both.GT (by exact rfl) (by exact rfl) ?_ | refine Both.GF (by exact rfl) ?_ | refine Both.GN (by exact rfl) ?_); conv => whnf)
      exact h0 9 (by unfold verM; rw [if_neg (by simp [hc]), if_pos hr])
    · have r1 : ¬ f < 0 := fun h => hr (.inl h)
      have r2 : ¬ (p.funcs.length : Int) ≤ f := fun h => hr (.inr h)
      refine Both.F (by rw [decide_eq_false r1, decide_eq_false r2]; rfl) ?_
      have hlt : f.toNat < p.funcs.length := by omega
      obtain ⟨y, u, o, hq, hy⟩ := FPs_nth hp.fs hlt
      have hco := may_code hp (chk_may hc) (List.getElem_mem hlt)
      have hv : verM p f = (match funcK p p.funcs[f.toNat].code with | none => .error 170 | some pl => .ok pl) := by
        unfold verM; rw [if_neg (by simp [hc]), if_neg hr, List.getElem?_eq_getElem hlt]
      have e0 : funcK p p.funcs[f.toNat].code = none → verM p f = .error 170 := fun e => by rw [hv, e]
      have e1 : ∀ pl, funcK p p.funcs[f.toNat].code = some pl → verM p f = .ok pl := fun pl e => by rw [hv, e]
      (conv => whnf); repeat ((first | (refine And.intro ?_ ?_; focus exact Cl4) | refine Both.T (by exact rfl) ?_ | refine Both.F (by exact rfl) ?_ | refine Both.GT (by exact rfl) (by exact rfl) ?_ | refine Both.GF (by exact rfl) ?_ | refine Both.GN (by exact rfl) ?_); conv => whnf)
      (conv => whnf); repeat' (first | ((first | (refine And.intro ?_ ?_; focus exact Cl4) | refine Both.T (by exact rfl) ?_ | refine Both.F (by exact rfl) ?_ | refine Both.GT (by exact rfl) (by exact rfl) ?_ | refine Both.GF (by exact rfl) ?_ | refine Both.GN (by exact rfl) ?_); conv => whnf) | (rw [hq]; conv => whnf) | (refine func_spec p p.funcs[f.toNat] zf lf tf zc lc tc y u hp hy hco _ (fun e => ?_) (fun pl L e hW => ?_); conv => whnf) | ((refine Both.mk ?_ ?_ <;> fail_if_success (intro _)) <;> conv => whnf))
      all_goals first
      | exact h0 170 (e0 (by assumption))
      | exact h1 _ _ (e1 _ (by assumption)) (by assumption)
  · have hc2 : (chkM p != 0) = true := by simpa using hc
    (conv => whnf); repeat ((first | (refine And.intro ?_ ?_; focus exact Cl4) | refine Both.T (by exact rfl) ?_ | refine Both.F (by exact rfl) ?_ | refine Both.GT (by exact rfl) (by exact rfl) ?_ | refine Both.GF (by exact rfl) ?_ | refine Both.GN (by exact rfl) ?_); conv => whnf)
    rw [hc2]
    (conv => whnf); repeat ((first | (refine And.intro ?_ ?_; focus exact Cl4) | refine Both.T (by exact rfl) ?_ | refine Both.F (by exact rfl) ?_ | refine Both.GT (by exact rfl) (by exact rfl) ?_ | refine Both.GF (by exact rfl) ?_ | refine Both.GN (by exact rfl) ?_); conv => whnf)
    exact h0 _ (by unfold verM; rw [if_pos hc])
end Go.Vc
namespace Go.Vc
open Go Go.Proofs
set_option maxRecDepth 100000
set_option maxHeartbeats 8000000 in
theorem prog_spec (hF : FitsC) (p : PG) (zf : Nat) (lf : List PV) (tf : Bool) (zc : Nat) (lc : List PV) (tc : Bool) (hp : PGA p zf lf zc lc) (Post : PV → List (Nat × Blk) → Prop)
    (h : Post (.int .i64 (progM p)) []) : Spec K 15 [.agg (pgc zf lf tf zc lc tc)] [] Post := by
  refine is15.specW K_ok K_mix false (by simp) (by simp [keys]) ?_
  have hfl := FPs_len hp.fs
  have hz := zlf hp
  have hnf := hp.nf
  unfold progM at h
  (conv => whnf); repeat ((first | (refine And.intro ?_ ?_; focus exact Cl4) | refine Both.T (by exact rfl) ?_ | refine Both.F (by exact rfl) ?_ | refine Both.GT (by exact rfl) (by exact rfl) ?_ | refine Both.GF (by exact rfl) ?_ | refine Both.GN (by exact rfl) ?_); conv => whnf)
  refine chk_spec hF p zf lf tf zc lc tc hp _ ?_
  by_cases hc : chkM p = 0
  · rw [if_neg (by simp [hc])] at h
    rw [hc]
    have hm := chk_may hc
    (conv => whnf); repeat ((first | (refine And.intro ?_ ?_; focus exact Cl4) | refine Both.T (by exact rfl) ?_ | refine Both.F (by exact rfl) ?_ | refine Both.GT (by exact rfl) (by exact rfl) ?_ | refine Both.GF (by exact rfl) ?_ | refine Both.GN (by exact rfl) ?_); conv => whnf)
    rw [hfl]
    refine ⟨Nat, fun i => ⟨30, [(16, .int .i64 i), (15, .int .i64 p.funcs.length), (14, .sl zf lf tf true), (1, .ptr 0 0)], [(0, .box (pgc zf lf tf zc lc tc))], []⟩, fun i => i ≤ p.funcs.length ∧ ((p.funcs.take i).any fun f => (funcK p f.code).isNone) = false, fun i => p.funcs.length - i, ⟨[], 0, ⟨Nat.zero_le _, rfl⟩, ?_⟩, fun i hI => ?_⟩
    · simp [meets, ghosts, St.le, St.get, look, keys, PV.labs, labsL, lookB, Blk.labs]
    · obtain ⟨hi, hin⟩ := hI
      conv => (arg 5; dsimp only)
      (conv => whnf); repeat ((first | (refine And.intro ?_ ?_; focus exact Cl4) | refine Both.T (by exact rfl) ?_ | refine Both.F (by exact rfl) ?_ | refine Both.GT (by exact rfl) (by exact rfl) ?_ | refine Both.GF (by exact rfl) ?_ | refine Both.GN (by exact rfl) ?_); conv => whnf)
      by_cases hix : i < p.funcs.length
      · rw [decide_eq_true (show (i : Int) < (p.funcs.length : Int) by omega)]
        (conv => whnf); repeat ((first | (refine And.intro ?_ ?_; focus exact Cl4) | refine Both.T (by exact rfl) ?_ | refine Both.F (by exact rfl) ?_ | refine Both.GT (by exact rfl) (by exact rfl) ?_ | refine Both.GF (by exact rfl) ?_ | refine Both.GN (by exact rfl) ?_); conv => whnf)
        obtain ⟨y, u, o, hq, hy⟩ := FPs_nth hp.fs hix
        have hco := may_code hp hm (List.getElem_mem hix)
        rw [Int.toNat_natCast, hq]
        (conv => whnf); repeat ((first | (refine And.intro ?_ ?_; focus exact Cl4) | refine Both.T (by exact rfl) ?_ | refine Both.F (by exact rfl) ?_ | refine Both.GT (by exact rfl) (by exact rfl) ?_ | refine Both.GF (by exact rfl) ?_ | refine Both.GN (by exact rfl) ?_); conv => whnf)
        refine func_spec p p.funcs[i] zf lf tf zc lc tc y u hp hy hco _ (fun e => ?_) (fun pl L e hW => ?_)
        · (conv => whnf); repeat ((first | (refine And.intro ?_ ?_; focus exact Cl4) | refine Both.T (by exact rfl) ?_ | refine Both.F (by exact rfl) ?_ | refine Both.GT (by exact rfl) (by exact rfl) ?_ | refine Both.GF (by exact rfl) ?_ | refine Both.GN (by exact rfl) ?_); conv => whnf)
          have hb : (fun f : FD => (funcK p f.code).isNone) p.funcs[i] = true := by show (funcK p p.funcs[i].code).isNone = true; rw [e]; rfl
          rw [if_pos (any_hit hix hb)] at h
          exact h
        · (conv => whnf); repeat ((first | (refine And.intro ?_ ?_; focus exact Cl4) | refine Both.T (by exact rfl) ?_ | refine Both.F (by exact rfl) ?_ | refine Both.GT (by exact rfl) (by exact rfl) ?_ | refine Both.GF (by exact rfl) ?_ | refine Both.GN (by exact rfl) ?_); conv => whnf)
          rw [wrap64 (n := (i : Int) + 1) (by omega) (by omega)]
          refine ⟨[], i + 1, ⟨hix, any_step hix hin (by show (funcK p p.funcs[i].code).isNone = false; rw [e]; rfl)⟩, by show p.funcs.length - (i + 1) < p.funcs.length - i; omega, ?_⟩
          simp [meets, ghosts, St.le, St.get, look, keys, PV.labs, labsL, lookB, Blk.labs]
      · obtain rfl : i = p.funcs.length := by omega
        rw [decide_eq_false (show ¬ (p.funcs.length : Int) < (p.funcs.length : Int) by omega)]
        (conv => whnf); repeat ((first | (refine And.intro ?_ ?_; focus exact Cl4) | refine Both.T (by exact rfl) ?_ | refine Both.F (by exact rfl) ?_ | refine Both.GT (by exact rfl) (by exact rfl) ?_ | refine Both.GF (by exact rfl) ?_ | refine Both.GN (by exact rfl) ?_); conv => whnf)
        rw [List.take_length] at hin
        rw [if_neg (by rw [hin]; simp)] at h
        exact h
  · have hc2 : (chkM p != 0) = true := by simpa using hc
    rw [if_pos hc] at h
    (conv => whnf); repeat ((first | (refine And.intro ?_ ?_; focus exact Cl4) | refine Both.T (by exact rfl) ?_ | refine Both.F (by exact rfl) ?_ | refine Both.GT (by exact rfl) (by exact rfl) ?_ | refine Both.GF (by exact rfl) ?_ | refine Both.GN (by exact rfl) ?_); conv => whnf)
    rw [hc2]
    (conv => whnf); repeat ((first | (refine And.intro ?_ ?_; focus exact Cl4) | refine Both.T (by exact rfl) ?_ | refine Both.F (by exact rfl) ?_ | refine Both.GT (by exact rfl) (by exact rfl) ?_ | refine Both.GF (by exact rfl) ?_ | refine Both.GN (by exact rfl) ?_); conv => whnf)
    exact h
end Go.Vc
