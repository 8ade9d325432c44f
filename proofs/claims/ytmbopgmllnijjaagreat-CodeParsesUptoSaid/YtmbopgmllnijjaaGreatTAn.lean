/- What is proved here: contracts of functions of the program: of each function what it hands back and what it leaves in memory. Conditions: those that each theorem names. -/
import Derived.Test.YtmbopgmllnijjaaGreatTAl
set_option linter.unusedVariables false
set_option linter.unusedSimpArgs false
set_option linter.unusedSectionVars false
namespace Go.Vc
open Go Go.Proofs
set_option maxRecDepth 100000
def mayV (v : V) : Bool := okV v 0 256
def vc (v : V) (z1 : Nat) (lp : List PV) (t1 : Bool) (z2 : Nat) (t2 : Bool) : List PV := [.int .i64 v.k, .int .i64 v.n, .str v.s, .sl z1 lp t1 true, .sl z2 (strs v.ns) t2 true]
structure VA (v : V) (z1 : Nat) (lp : List PV) (z2 : Nat) : Prop where
 l : VPs v.l lp
 z1 : z1 = 5 ∨ v.l = []
 z2 : z2 = 1 ∨ v.ns = []
 n : i64 v.n
 b : bulkV v ≤ 100000000000
theorem check_spec (v : V) (z1 z2 : Nat) (lp : List PV) (t1 t2 : Bool) (Post : PV → List (Nat × Blk) → Prop) (a : VA v z1 lp z2) (h : Post (.int .i64 (bif mayV v then 0 else 2)) []) :
  Spec K 36 [.agg (vc v z1 lp t1 z2 t2)] [] Post := by
 refine is36.specW K_ok K_mix false (by simp) (by simp [keys]) ?_
 (conv => whnf); repeat ((apply And.intro;· exact Cl1); conv => whnf)
 refine fits_spec 100000000000 v.k v.n v.s v.l v.ns (by rw [V.eta]; exact a.b) (by omega) z1 z2 lp t1 t2 0 256 _ a.l a.z1 a.z2 a.n (by omega) (by omega) (by omega) ?_
 rw [V.eta]
 (conv => whnf); repeat ((apply And.intro;· exact Cl1); conv => whnf)
 refine ⟨fun h2 => ?_, fun h2 => ?_⟩
 ·have h2' : mayV v = false := by unfold mayV; simpa using h2
  rw [h2'] at h
  (conv => whnf); repeat ((apply And.intro;· exact Cl1); conv => whnf)
  exact h
 ·have h2' : mayV v = true := by unfold mayV; simpa using h2
  rw [h2'] at h
  (conv => whnf); repeat ((apply And.intro;· exact Cl1); conv => whnf)
  exact h
def Items : List (List UInt8) → List PV → Prop
 | [], L => L = []
 | a :: r, L => ∃ z t o R, L = .sl z (bs a) t o :: R ∧ (z = 1 ∨ a = []) ∧ Items r R
theorem Items_len : ∀ {ts : List (List UInt8)} {L : List PV}, Items ts L → L.length = ts.length
 | [], _, h => by simp only [Items] at h; simp [h]
 | a :: r, _, h => by
  simp only [Items] at h
  obtain ⟨z, t, o, R, rfl, _, h2⟩ := h
  simp [Items_len h2]
theorem Items_nth : ∀ {ts : List (List UInt8)} {L : List PV}, Items ts L → ∀ {i : Nat} (hi : i < ts.length), ∃ z t o, nth L i = .sl z (bs ts[i]) t o ∧ (z = 1 ∨ ts[i] = [])
 | a :: r, _, h, 0, hi => by
  simp only [Items] at h
  obtain ⟨z, t, o, R, rfl, h1, _⟩ := h
  exact ⟨z, t, o, rfl, h1⟩
 | a :: r, _, h, i + 1, hi => by
  simp only [Items] at h
  obtain ⟨z, t, o, R, rfl, _, h2⟩ := h
  exact Items_nth h2 (i := i) (by simpa using hi)
theorem flat_take_len (ts : List (List UInt8)) (i : Nat) : (ts.take i).flatten.length ≤ ts.flatten.length := by
 have h := congrArg (fun l : List (List UInt8) => l.flatten.length) (List.take_append_drop i ts)
 simp only [List.flatten_append, List.length_append] at h
 omega
theorem flat_take {ts : List (List UInt8)} {i : Nat} (hi : i < ts.length) : (ts.take (i + 1)).flatten = (ts.take i).flatten ++ ts[i] := by
 rw [List.take_succ_eq_append_getElem hi, List.flatten_append, List.flatten_singleton]
set_option maxHeartbeats 8000000 in
theorem joined_spec (ts : List (List UInt8)) (z : Nat) (L : List PV) (t : Bool) (hL : Items ts L) (hz : z = 1 ∨ ts = []) (hb : ts.flatten.length ≤ 10000000000000) (hn : ts.length ≤ 1000000000000) (Post : PV → List (Nat × Blk) → Prop)
  (h : Post (.sl 1 (bs ts.flatten) false true) []) : Spec K 108 [.sl z L t true] [] Post := by
 have hlen := Items_len hL
 have hz' : z = 1 ∨ L = [] := hz.imp (fun h => h) fun h => by rw [h] at hL; exact hL
 refine is108.specW K_ok K_mix false (by simp) (by simp [keys]) ?_
 (conv => whnf); repeat ((apply And.intro;· exact Cl1); conv => whnf)
 refine ⟨Nat × Bool, fun x => ⟨17, [(8, .int .i64 x.1), (7, .int .i64 ts.length), (6, .sl z L t true), (3, .ref 1 0 0 (ts.take x.1).flatten.length)], [(0, .row 5 1 (bs (ts.take x.1).flatten) x.2)], []⟩, fun x => x.1 ≤ ts.length, fun x => ts.length - x.1,
  ⟨[.slot 3 5], (0, false), Nat.zero_le _, ?_⟩, fun x hI => ?_⟩
 ·simp [meets, ghosts, ghost, St.le, St.get, St.put, look, keys, PV.labs, labsL, lookB, Blk.labs, hlen, fresh, bs]
  decide
 ·obtain ⟨i, o⟩ := x
  have hI : i ≤ ts.length := hI
  have hfl := flat_take_len ts i
  conv => (arg 5; dsimp only)
  (conv => whnf); repeat ((apply And.intro;· exact Cl1); conv => whnf)
  refine ⟨fun h1 => ?_, fun h1 => ?_⟩
  ·have hix : i < ts.length := by have := of_decide_eq_true h1; omega
   have hfl' := flat_take_len ts (i + 1)
   rw [flat_take hix, List.length_append] at hfl'
   obtain ⟨z', t', o', hp, hz2⟩ := Items_nth hL hix
   (conv => whnf); repeat ((apply And.intro;· exact Cl1); conv => whnf)
   refine ⟨hz', fun _ => ⟨by omega, by rw [hlen]; omega⟩, ?_⟩
   (conv => whnf); repeat ((apply And.intro;· exact Cl1); conv => whnf)
   rw [Int.toNat_natCast, hp]
   (conv => whnf); repeat ((apply And.intro;· exact Cl1); conv => whnf)
   refine ⟨by rw [bs_len]; show _ * 2 ≤ _; omega, ?_⟩
   (conv => whnf); repeat ((apply And.intro;· exact Cl1); conv => whnf)
   rw [Bool.or_true]
   (conv => whnf); repeat ((apply And.intro;· exact Cl1); conv => whnf)
   rw [wrap64 (by omega) (by omega), bs_len, List.take_of_length_le (l := bs _) (by rw [bs_len]; omega), ← bs_app, ← List.length_append, ← flat_take hix]
   refine ⟨[], (i + 1, true), hix, by show ts.length - (i + 1) < ts.length - i; omega, ?_⟩
   simp [meets, ghosts, St.le, St.get, look, keys, PV.labs, labsL, lookB, Blk.labs]
  ·have hix : i = ts.length := by have := of_decide_eq_false h1; omega
   subst hix
   (conv => whnf); repeat ((apply And.intro;· exact Cl1); conv => whnf)
   simp only [List.take_length, List.drop_zero, Nat.zero_add]
   rw [List.take_of_length_le (l := bs _) (by rw [bs_len]; omega)]
   exact h
def ub (n : Int) : UInt8 := UInt8.ofNat (n % 256).toNat
theorem wrapub (n : Int) : IntKind.u8.wrap n = ((ub n).toNat : Int) := by
 unfold ub
 rw [← wrapB]
 simp only [IntKind.wrap, IntKind.bits, IntKind.signed, Bool.false_and, Bool.false_eq_true, if_false]
 omega
theorem ub1 (n : Int) : [PV.int .u8 (IntKind.u8.wrap n)] = bs [ub n] := by rw [wrapub]; rfl
def countedB (s : List UInt8) : List UInt8 := ub s.length :: s
theorem counted_spec (s : List UInt8) (hs : s.length ≤ 100000000000) (Post : PV → List (Nat × Blk) → Prop) (h : Post (.sl 1 (bs (countedB s)) false true) []) : Spec K 109 [.str s] [] Post := by
 refine is109.specW K_ok K_mix false (by simp) (by simp [keys]) ?_
 (conv => whnf); repeat ((apply And.intro;· exact Cl1); conv => whnf)
 refine ⟨by omega, rfl, ?_⟩
 (conv => whnf); repeat ((apply And.intro;· exact Cl1); conv => whnf)
 refine joined_spec [[ub s.length], s] _ _ _ ⟨1, _, _, _, by rw [wrapub]; rfl, .inl rfl, 1, _, _, _, rfl, .inl rfl, rfl⟩ (.inl rfl) (by simp; omega) (by simp) _ ?_
 rw [show [[ub s.length], s].flatten = countedB s by simp [countedB]]
 (conv => whnf); repeat ((apply And.intro;· exact Cl1); conv => whnf)
 exact h
def be8 (n : Int) : List UInt8 := (List.range 8).map fun i => ub (n / 2 ^ (8 * (7 - i)))
mutual
def writeV : V → List UInt8
 | .mk k n s l ns => ub k :: (if k = 1 then be8 n else if k = 2 ∨ k = 6 then [ub n] else if k = 3 then countedB s else if k = 4 ∨ k = 5 then ub l.length :: writeVs (k == 5) l ns else [])
def writeVs : Bool → List V → List (List UInt8) → List UInt8
 | _, [], _ => []
 | r, v :: l, ns => (bif r then countedB (ns.headD []) else []) ++ writeV v ++ writeVs r l ns.tail
end
theorem be8_len (n : Int) : (be8 n).length = 8 := rfl
theorem be8_take (n : Int) {i : Nat} (hi : i < 8) : (be8 n).take (i + 1) = (be8 n).take i ++ [ub (n / 2 ^ (8 * (7 - i)))] := by
 rw [List.take_succ_eq_append_getElem (by rw [be8_len]; exact hi)]
 simp [be8]
mutual
theorem writeV_len : ∀ v : V, (writeV v).length + 1 ≤ 20 * bulkV v
 | .mk k n s l ns => by
  have := writeVs_len (k == 5) l ns
  simp only [writeV, bulkV]
  split
  ·simp [be8_len]; omega
  ·split
   ·simp; omega
   ·split
    ·simp [countedB]; omega
    ·split
     ·simp; omega
     ·simp; omega
theorem writeVs_len : ∀ (r : Bool) (l : List V) (ns : List (List UInt8)), (writeVs r l ns).length ≤ 20 * bulkVs l + nsBulk ns
 | _, [], _ => by simp [writeVs]
 | r, v :: l, [] => by
  have := writeV_len v
  have := writeVs_len r l []
  simp only [writeVs, bulkVs, List.length_append, List.headD_nil, List.tail_nil] at *
  cases r <;> simp [countedB] at * <;> omega
 | r, v :: l, s :: ns => by
  have := writeV_len v
  have := writeVs_len r l ns
  simp only [writeVs, bulkVs, nsBulk, List.length_append, List.headD_cons, List.tail_cons] at *
  cases r <;> simp [countedB] at * <;> omega
end
theorem allVs_mem : ∀ {l : List V} {i : Nat} (hi : i < l.length), allVs l = true → allV l[i] = true
 | v :: r, 0, hi, h => by simp only [allVs, Bool.and_eq_true] at h; exact h.1
 | v :: r, i + 1, hi, h => by
  simp only [allVs, Bool.and_eq_true] at h
  exact allVs_mem (l := r) (i := i) (by simpa using hi) h.2
set_option maxHeartbeats 8000000 in
theorem write_spec (N : Nat) : ∀ (k n : Int) (s : List UInt8) (l : List V) (ns : List (List UInt8)), bulkV (.mk k n s l ns) ≤ N → N ≤ 100000000000 → ∀ (z1 z2 : Nat) (lp : List PV) (t1 t2 : Bool) (Post : PV → List (Nat × Blk) → Prop),
  VPs l lp → (z1 = 5 ∨ l = []) → (z2 = 1 ∨ ns = []) → i64 n → allV (.mk k n s l ns) = true → Post (.sl 1 (bs (writeV (.mk k n s l ns))) false true) [] →
  Spec K 80 [.agg [.int .i64 k, .int .i64 n, .str s, .sl z1 lp t1 true, .sl z2 (strs ns) t2 true]] [] Post := by
 induction N with
 | zero => intro k n s l ns h; exact absurd (bulkV_pos (.mk k n s l ns)) (by omega)
 | succ N ih =>
  intro k n s l ns hs hN z1 z2 lp t1 t2 Post hl hz1 hz2 hn hall h
  have hz2' : z2 = 1 ∨ strs ns = [] := hz2.imp (fun h => h) fun h => by rw [h]; rfl
  have hlp := VPs_len hl
  have hz1' : z1 = 5 ∨ lp = [] := hz1.imp (fun h => h) fun h => by rw [h] at hlp; exact List.length_eq_zero_iff.1 hlp
  have hs' := hs
  simp only [bulkV] at hs'
  have hnb := nsBulk_le ns
  have hlb := len_sizeVs l
  have hsb := sizes_bulk l
  refine is80.specW K_ok K_mix false (by simp) (by simp [keys]) ?_
  (conv => whnf); repeat ((apply And.intro;· exact Cl1); conv => whnf)
  refine ⟨fun h1 => ?_, fun h1 => ?_⟩
  ·obtain rfl : k = 1 := by simpa using h1
   (conv => whnf); repeat ((apply And.intro;· exact Cl1); conv => whnf)
   refine ⟨Nat, fun i => ⟨83, [(15, .int .i64 i), (3, .ref 1 1 0 (i + 1)), (1, .ptr 0 0)], [(0, .box [.int .i64 1, .int .i64 n, .str s, .sl z1 lp t1 true, .sl z2 (strs ns) t2 true]), (1, .row 5 1 (bs (ub 1 :: (be8 n).take i)) false)], []⟩,
    fun i => i ≤ 8, fun i => 8 - i, ⟨[], 0, Nat.zero_le _, ?_⟩, fun i hI => ?_⟩
   ·simp [meets, ghosts, St.le, St.get, look, keys, PV.labs, labsL, lookB, Blk.labs, ub1]
   ·have hI : i ≤ 8 := hI
    conv => (arg 5; dsimp only)
    (conv => whnf); repeat ((apply And.intro;· exact Cl1); conv => whnf)
    refine ⟨fun h2 => ?_, fun h2 => ?_⟩
    ·have hi : i < 8 := by have := of_decide_eq_true h2; omega
     (conv => whnf); repeat ((apply And.intro;· exact Cl1); conv => whnf)
     have e1 : IntKind.i64.wrap (8 * IntKind.i64.wrap (7 - (i : Int))) = ((8 * (7 - i) : Nat) : Int) := by
      rw [wrap64 (n := 7 - (i : Int)) (by omega) (by omega), wrap64 (by omega) (by omega)]; omega
     rw [e1]
     refine ⟨fun _ => by omega, ?_⟩
     (conv => whnf); repeat ((apply And.intro;· exact Cl1); conv => whnf)
     have e2 : n.fdiv (2 ^ min (((8 * (7 - i) : Nat) : Int)).toNat IntKind.i64.bits) = n / 2 ^ (8 * (7 - i)) := by
      rw [Int.toNat_natCast, Nat.min_eq_left (by show _ ≤ 64; omega), Int.fdiv_eq_ediv_of_nonneg _ (Int.pow_nonneg (by omega))]
     rw [e2]
     (conv => whnf); repeat ((apply And.intro;· exact Cl1); conv => whnf)
     refine ⟨by show (i + 1 + 1) * 2 ≤ _; omega, ?_⟩
     (conv => whnf); repeat ((apply And.intro;· exact Cl1); conv => whnf)
     rw [ub1, List.take_of_length_le (l := bs _) (by rw [bs_len]; simp [be8_len]; omega), List.take_of_length_le (l := List.drop 0 (bs _)) (by rw [List.drop_zero, bs_len]; exact Nat.le_refl 1), List.drop_zero, ← bs_app, wrap64 (by omega) (by omega)]
     refine ⟨[], i + 1, hi, by show 8 - (i + 1) < 8 - i; omega, ?_⟩
     simp [meets, ghosts, St.le, St.get, look, keys, PV.labs, labsL, lookB, Blk.labs, be8_take n hi, bs_len]
    ·have hi : i = 8 := by have := of_decide_eq_false h2; omega
     subst hi
     (conv => whnf); repeat ((apply And.intro;· exact Cl1); conv => whnf)
     rw [List.take_of_length_le (by rw [List.drop_zero, bs_len]; simp [be8_len])]
     rw [List.drop_zero, List.take_of_length_le (l := be8 n) (by rw [be8_len]; omega)]
     simpa [writeV] using h
  ·have h1' : k ≠ 1 := by simpa using h1
   (conv => whnf); repeat ((apply And.intro;· exact Cl1); conv => whnf)
   refine ⟨fun h2 => ?_, fun h2 => ?_⟩
   ·obtain rfl : k = 2 := by simpa using h2
    (conv => whnf); repeat ((apply And.intro;· exact Cl1); conv => whnf)
    refine ⟨fun _ => ?_, fun hc => (by cases hc)⟩
    (conv => whnf); repeat ((apply And.intro;· exact Cl1); conv => whnf)
    simpa [writeV, wrapub, bs] using h
   ·have h2' : k ≠ 2 := by simpa using h2
    (conv => whnf); repeat ((apply And.intro;· exact Cl1); conv => whnf)
    refine ⟨fun h3 => ?_, fun h3 => ?_⟩
    ·obtain rfl : k = 6 := by simpa using h3
     (conv => whnf); repeat ((apply And.intro;· exact Cl1); conv => whnf)
     simpa [writeV, wrapub, bs] using h
    ·have h3' : k ≠ 6 := by simpa using h3
     (conv => whnf); repeat ((apply And.intro;· exact Cl1); conv => whnf)
     refine ⟨fun h4 => ?_, fun h4 => ?_⟩
     ·obtain rfl : k = 3 := by simpa using h4
      (conv => whnf); repeat ((apply And.intro;· exact Cl1); conv => whnf)
      refine counted_spec s (by omega) _ ?_
      (conv => whnf); repeat ((apply And.intro;· exact Cl1); conv => whnf)
      refine joined_spec [[ub 3], countedB s] _ _ _ ⟨1, _, _, _, by rw [wrapub]; rfl, .inl rfl, 1, _, _, _, rfl, .inl rfl, rfl⟩ (.inl rfl) (by simp [countedB]; omega) (by simp) _ ?_
      rw [show [[ub 3], countedB s].flatten = writeV (.mk 3 n s l ns) by simp [writeV]]
      (conv => whnf); repeat ((apply And.intro;· exact Cl1); conv => whnf)
      exact h
     ·have h4' : k ≠ 3 := by simpa using h4
      simp only [allV, Bool.and_eq_true] at hall
      have halls := hall.2
      (conv => whnf); repeat ((apply And.intro;· exact Cl1); conv => whnf)
      refine ⟨fun h5 => ?_, fun h5 => ?_⟩
      ·obtain rfl : k = 4 := by simpa using h5
       (conv => whnf); repeat ((apply And.intro;· exact Cl1); conv => whnf)
       refine ⟨fun _ => ?_, fun hc => (by cases hc)⟩
       (conv => whnf); repeat ((apply And.intro;· exact Cl1); conv => whnf)
       have hpost : Post (.sl 1 (bs (ub 4 :: ub l.length :: writeVs false l ns)) false true) [] := by simpa [writeV] using h
       refine ⟨Nat × List UInt8, fun x => ⟨83, [(59, .int .i64 x.1), (58, .int .i64 l.length), (57, .sl z1 lp t1 true), (3, match x.1 with | 0 => .ref 1 1 0 2 | _ + 1 => .sl 1 (bs (ub 4 :: ub l.length :: x.2)) false true), (1, .ptr 0 0)], (0, .box [.int .i64 4, .int .i64 n, .str s, .sl z1 lp t1 true, .sl z2 (strs ns) t2 true]) :: (match x.1 with | 0 => [(1, .row 5 1 (bs [ub 4, ub l.length]) false)] | _ + 1 => []), []⟩,
        fun x => x.1 ≤ l.length ∧ (x.1 = 0 → x.2 = []) ∧ x.2 ++ writeVs false (l.drop x.1) (ns.drop x.1) = writeVs false l ns, fun x => l.length - x.1, ⟨[], (0, []), ⟨Nat.zero_le _, fun _ => rfl, rfl⟩, ?_⟩, fun x hI => ?_⟩
       ·simp [meets, ghosts, St.le, St.get, look, keys, PV.labs, labsL, lookB, Blk.labs, hlp, wrapub, bs]
       ·obtain ⟨i, a⟩ := x
        obtain ⟨hi, ha0, hacc⟩ := hI
        simp only at hi ha0 hacc
        rcases i with _ | i
        ·obtain rfl := ha0 rfl
         conv => (arg 5; dsimp only)
         (conv => whnf); repeat ((apply And.intro;· exact Cl1); conv => whnf)
         refine ⟨fun h7 => ?_, fun h7 => ?_⟩
         ·have hix : 0 < l.length := by have := of_decide_eq_true h7; omega
          have hdr : l.drop (0) = l[0] :: l.drop (0 + 1) := List.drop_eq_getElem_cons hix
          skip
          obtain ⟨y1, mp, u1, o1, y2, u2, o2, hp, hq, g1, g2, g3⟩ := (VPs_nth hl hix).out
          have hbm := bulkVs_mem hix
          have hwl := writeV_len l[0]
          have hal := allVs_mem hix halls
          have hwt := writeVs_len false l ns
          rw [hdr, writeVs] at hacc
          have hac2 := congrArg List.length hacc
          simp only [List.length_append, cond_true, cond_false, List.headD_cons, List.tail_cons, List.length_nil] at hac2
          (conv => whnf); repeat ((apply And.intro;· exact Cl1); conv => whnf)
          refine ⟨hz1', fun _ => ⟨by omega, by rw [hlp]; omega⟩, ?_⟩
          (conv => whnf); repeat ((apply And.intro;· exact Cl1); conv => whnf)
          rw [Int.toNat_natCast]
          rw [hp]
          (conv => whnf); repeat ((apply And.intro;· exact Cl1); conv => whnf)
          refine ⟨fun hc => (by cases hc), fun _ => ?_⟩
          (conv => whnf); repeat ((apply And.intro;· exact Cl1); conv => whnf)
          refine ih l[0].k l[0].n l[0].s l[0].l l[0].ns (by rw [V.eta]; omega) (by omega) y1 y2 mp u1 u2 _ hq g1 g2 g3 (by rw [V.eta]; exact hal) ?_
          rw [V.eta]
          (conv => whnf); repeat ((apply And.intro;· exact Cl1); conv => whnf)
          refine joined_spec [[ub 4, ub l.length], writeV l[0]] _ _ _ ⟨1, _, _, _, rfl, .inl rfl, 1, _, _, _, rfl, .inl rfl, rfl⟩ (.inl rfl) (by simp; omega) (by simp) _ ?_
          rw [show [[ub 4, ub l.length], writeV l[0]].flatten = [ub 4, ub l.length] ++ writeV l[0] by simp]
          (conv => whnf); repeat ((apply And.intro;· exact Cl1); conv => whnf)
          rw [wrap64 (by omega) (by omega)]
          refine ⟨[], (0 + 1, writeV l[0]), ⟨by omega, fun hc => (by cases hc), ?_⟩, by show l.length - (0 + 1) < l.length - (0); omega, ?_⟩
          ·rw [← hacc]
           simp only [List.tail_drop, List.tail_cons, List.headD_cons, cond_true, cond_false, List.append_assoc, List.nil_append, List.append_nil]
          ·simp [meets, ghosts, St.le, St.get, look, keys, PV.labs, labsL, lookB, Blk.labs]
         ·have hix : 0 = l.length := by have := of_decide_eq_false h7; omega
          (conv => whnf); repeat ((apply And.intro;· exact Cl1); conv => whnf)
          simp only [hix, List.drop_length, writeVs, List.append_nil] at hacc
          rw [← hacc] at hpost
          exact hpost
        ·conv => (arg 5; dsimp only)
         (conv => whnf); repeat ((apply And.intro;· exact Cl1); conv => whnf)
         refine ⟨fun h7 => ?_, fun h7 => ?_⟩
         ·have hix : (i + 1) < l.length := by have := of_decide_eq_true h7; omega
          have hdr : l.drop ((i + 1)) = l[(i + 1)] :: l.drop ((i + 1) + 1) := List.drop_eq_getElem_cons hix
          skip
          obtain ⟨y1, mp, u1, o1, y2, u2, o2, hp, hq, g1, g2, g3⟩ := (VPs_nth hl hix).out
          have hbm := bulkVs_mem hix
          have hwl := writeV_len l[(i + 1)]
          have hal := allVs_mem hix halls
          have hwt := writeVs_len false l ns
          rw [hdr, writeVs] at hacc
          have hac2 := congrArg List.length hacc
          simp only [List.length_append, cond_true, cond_false, List.headD_cons, List.tail_cons, List.length_nil] at hac2
          (conv => whnf); repeat ((apply And.intro;· exact Cl1); conv => whnf)
          refine ⟨hz1', fun _ => ⟨by omega, by rw [hlp]; omega⟩, ?_⟩
          (conv => whnf); repeat ((apply And.intro;· exact Cl1); conv => whnf)
          rw [Int.toNat_natCast]
          rw [hp]
          (conv => whnf); repeat ((apply And.intro;· exact Cl1); conv => whnf)
          refine ⟨fun hc => (by cases hc), fun _ => ?_⟩
          (conv => whnf); repeat ((apply And.intro;· exact Cl1); conv => whnf)
          refine ih l[(i + 1)].k l[(i + 1)].n l[(i + 1)].s l[(i + 1)].l l[(i + 1)].ns (by rw [V.eta]; omega) (by omega) y1 y2 mp u1 u2 _ hq g1 g2 g3 (by rw [V.eta]; exact hal) ?_
          rw [V.eta]
          (conv => whnf); repeat ((apply And.intro;· exact Cl1); conv => whnf)
          refine joined_spec [(ub 4 :: ub l.length :: a), writeV l[(i + 1)]] _ _ _ ⟨1, _, _, _, rfl, .inl rfl, 1, _, _, _, rfl, .inl rfl, rfl⟩ (.inl rfl) (by simp; omega) (by simp) _ ?_
          rw [show [(ub 4 :: ub l.length :: a), writeV l[(i + 1)]].flatten = (ub 4 :: ub l.length :: a) ++ writeV l[(i + 1)] by simp]
          (conv => whnf); repeat ((apply And.intro;· exact Cl1); conv => whnf)
          rw [wrap64 (by omega) (by omega)]
          refine ⟨[], ((i + 1) + 1, a ++ writeV l[(i + 1)]), ⟨by omega, fun hc => (by cases hc), ?_⟩, by show l.length - ((i + 1) + 1) < l.length - ((i + 1)); omega, ?_⟩
          ·rw [← hacc]
           simp only [List.tail_drop, List.tail_cons, List.headD_cons, cond_true, cond_false, List.append_assoc, List.nil_append, List.append_nil]
          ·simp [meets, ghosts, St.le, St.get, look, keys, PV.labs, labsL, lookB, Blk.labs]
         ·have hix : (i + 1) = l.length := by have := of_decide_eq_false h7; omega
          (conv => whnf); repeat ((apply And.intro;· exact Cl1); conv => whnf)
          simp only [hix, List.drop_length, writeVs, List.append_nil] at hacc
          rw [← hacc] at hpost
          exact hpost
      ·have h5' : k ≠ 4 := by simpa using h5
       (conv => whnf); repeat ((apply And.intro;· exact Cl1); conv => whnf)
       refine ⟨fun h6 => ?_, fun h6 => ?_⟩
       ·obtain rfl : k = 5 := by simpa using h6
        have hnl : l.length = ns.length := by
         have := hall.1
         simp [ownB] at this
         exact this.1.1.1.2
        (conv => whnf); repeat ((apply And.intro;· exact Cl1); conv => whnf)
        have hpost : Post (.sl 1 (bs (ub 5 :: ub l.length :: writeVs true l ns)) false true) [] := by simpa [writeV] using h
        refine ⟨Nat × List UInt8, fun x => ⟨83, [(59, .int .i64 x.1), (58, .int .i64 l.length), (57, .sl z1 lp t1 true), (3, match x.1 with | 0 => .ref 1 1 0 2 | _ + 1 => .sl 1 (bs (ub 5 :: ub l.length :: x.2)) false true), (1, .ptr 0 0)], (0, .box [.int .i64 5, .int .i64 n, .str s, .sl z1 lp t1 true, .sl z2 (strs ns) t2 true]) :: (match x.1 with | 0 => [(1, .row 5 1 (bs [ub 5, ub l.length]) false)] | _ + 1 => []), []⟩,
         fun x => x.1 ≤ l.length ∧ (x.1 = 0 → x.2 = []) ∧ x.2 ++ writeVs true (l.drop x.1) (ns.drop x.1) = writeVs true l ns, fun x => l.length - x.1, ⟨[], (0, []), ⟨Nat.zero_le _, fun _ => rfl, rfl⟩, ?_⟩, fun x hI => ?_⟩
        ·simp [meets, ghosts, St.le, St.get, look, keys, PV.labs, labsL, lookB, Blk.labs, hlp, wrapub, bs]
        ·obtain ⟨i, a⟩ := x
         obtain ⟨hi, ha0, hacc⟩ := hI
         simp only at hi ha0 hacc
         rcases i with _ | i
         ·obtain rfl := ha0 rfl
          conv => (arg 5; dsimp only)
          (conv => whnf); repeat ((apply And.intro;· exact Cl1); conv => whnf)
          refine ⟨fun h7 => ?_, fun h7 => ?_⟩
          ·have hix : 0 < l.length := by have := of_decide_eq_true h7; omega
           have hdr : l.drop (0) = l[0] :: l.drop (0 + 1) := List.drop_eq_getElem_cons hix
           have hin : 0 < ns.length := by omega
           have hdn : ns.drop (0) = ns[0] :: ns.drop (0 + 1) := List.drop_eq_getElem_cons hin
           have hnm := nsLen_mem hin
           obtain ⟨y1, mp, u1, o1, y2, u2, o2, hp, hq, g1, g2, g3⟩ := (VPs_nth hl hix).out
           have hbm := bulkVs_mem hix
           have hwl := writeV_len l[0]
           have hal := allVs_mem hix halls
           have hwt := writeVs_len true l ns
           rw [hdr, hdn, writeVs] at hacc
           have hac2 := congrArg List.length hacc
           simp only [List.length_append, cond_true, cond_false, List.headD_cons, List.tail_cons, List.length_nil] at hac2
           (conv => whnf); repeat ((apply And.intro;· exact Cl1); conv => whnf)
           refine ⟨hz1', fun _ => ⟨by omega, by rw [hlp]; omega⟩, ?_⟩
           (conv => whnf); repeat ((apply And.intro;· exact Cl1); conv => whnf)
           rw [Int.toNat_natCast]
           rw [hp]
           (conv => whnf); repeat ((apply And.intro;· exact Cl1); conv => whnf)
           refine ⟨fun _ => ?_, fun hc => (by cases hc)⟩
           (conv => whnf); repeat ((apply And.intro;· exact Cl1); conv => whnf)
           refine ⟨hz2', fun _ => ⟨by omega, by rw [strs_len]; omega⟩, ?_⟩
           (conv => whnf); repeat ((apply And.intro;· exact Cl1); conv => whnf)
           rw [Int.toNat_natCast, nth_strs hin]
           (conv => whnf); repeat ((apply And.intro;· exact Cl1); conv => whnf)
           refine counted_spec ns[0] (by omega) _ ?_
           (conv => whnf); repeat ((apply And.intro;· exact Cl1); conv => whnf)
           refine joined_spec [[ub 5, ub l.length], countedB ns[0]] _ _ _ ⟨1, _, _, _, rfl, .inl rfl, 1, _, _, _, rfl, .inl rfl, rfl⟩ (.inl rfl) (by simp [countedB]; omega) (by simp) _ ?_
           rw [show [[ub 5, ub l.length], countedB ns[0]].flatten = [ub 5, ub l.length] ++ countedB ns[0] by simp]
           (conv => whnf); repeat ((apply And.intro;· exact Cl1); conv => whnf)
           refine ih l[0].k l[0].n l[0].s l[0].l l[0].ns (by rw [V.eta]; omega) (by omega) y1 y2 mp u1 u2 _ hq g1 g2 g3 (by rw [V.eta]; exact hal) ?_
           rw [V.eta]
           (conv => whnf); repeat ((apply And.intro;· exact Cl1); conv => whnf)
           refine joined_spec [([ub 5, ub l.length] ++ countedB ns[0]), writeV l[0]] _ _ _ ⟨1, _, _, _, rfl, .inl rfl, 1, _, _, _, rfl, .inl rfl, rfl⟩ (.inl rfl) (by simp; omega) (by simp) _ ?_
           rw [show [([ub 5, ub l.length] ++ countedB ns[0]), writeV l[0]].flatten = ([ub 5, ub l.length] ++ countedB ns[0]) ++ writeV l[0] by simp]
           (conv => whnf); repeat ((apply And.intro;· exact Cl1); conv => whnf)
           rw [wrap64 (by omega) (by omega)]
           refine ⟨[], (0 + 1, countedB ns[0] ++ writeV l[0]), ⟨by omega, fun hc => (by cases hc), ?_⟩, by show l.length - (0 + 1) < l.length - (0); omega, ?_⟩
           ·rw [← hacc]
            simp only [List.tail_drop, List.tail_cons, List.headD_cons, cond_true, cond_false, List.append_assoc, List.nil_append, List.append_nil]
           ·simp [meets, ghosts, St.le, St.get, look, keys, PV.labs, labsL, lookB, Blk.labs]
          ·have hix : 0 = l.length := by have := of_decide_eq_false h7; omega
           (conv => whnf); repeat ((apply And.intro;· exact Cl1); conv => whnf)
           simp only [hix, List.drop_length, writeVs, List.append_nil] at hacc
           rw [← hacc] at hpost
           exact hpost
         ·conv => (arg 5; dsimp only)
          (conv => whnf); repeat ((apply And.intro;· exact Cl1); conv => whnf)
          refine ⟨fun h7 => ?_, fun h7 => ?_⟩
          ·have hix : (i + 1) < l.length := by have := of_decide_eq_true h7; omega
           have hdr : l.drop ((i + 1)) = l[(i + 1)] :: l.drop ((i + 1) + 1) := List.drop_eq_getElem_cons hix
           have hin : (i + 1) < ns.length := by omega
           have hdn : ns.drop ((i + 1)) = ns[(i + 1)] :: ns.drop ((i + 1) + 1) := List.drop_eq_getElem_cons hin
           have hnm := nsLen_mem hin
           obtain ⟨y1, mp, u1, o1, y2, u2, o2, hp, hq, g1, g2, g3⟩ := (VPs_nth hl hix).out
           have hbm := bulkVs_mem hix
           have hwl := writeV_len l[(i + 1)]
           have hal := allVs_mem hix halls
           have hwt := writeVs_len true l ns
           rw [hdr, hdn, writeVs] at hacc
           have hac2 := congrArg List.length hacc
           simp only [List.length_append, cond_true, cond_false, List.headD_cons, List.tail_cons, List.length_nil] at hac2
           (conv => whnf); repeat ((apply And.intro;· exact Cl1); conv => whnf)
           refine ⟨hz1', fun _ => ⟨by omega, by rw [hlp]; omega⟩, ?_⟩
           (conv => whnf); repeat ((apply And.intro;· exact Cl1); conv => whnf)
           rw [Int.toNat_natCast]
           rw [hp]
           (conv => whnf); repeat ((apply And.intro;· exact Cl1); conv => whnf)
           refine ⟨fun _ => ?_, fun hc => (by cases hc)⟩
           (conv => whnf); repeat ((apply And.intro;· exact Cl1); conv => whnf)
           refine ⟨hz2', fun _ => ⟨by omega, by rw [strs_len]; omega⟩, ?_⟩
           (conv => whnf); repeat ((apply And.intro;· exact Cl1); conv => whnf)
           rw [Int.toNat_natCast, nth_strs hin]
           (conv => whnf); repeat ((apply And.intro;· exact Cl1); conv => whnf)
           refine counted_spec ns[(i + 1)] (by omega) _ ?_
           (conv => whnf); repeat ((apply And.intro;· exact Cl1); conv => whnf)
           refine joined_spec [(ub 5 :: ub l.length :: a), countedB ns[(i + 1)]] _ _ _ ⟨1, _, _, _, rfl, .inl rfl, 1, _, _, _, rfl, .inl rfl, rfl⟩ (.inl rfl) (by simp [countedB]; omega) (by simp) _ ?_
           rw [show [(ub 5 :: ub l.length :: a), countedB ns[(i + 1)]].flatten = (ub 5 :: ub l.length :: a) ++ countedB ns[(i + 1)] by simp]
           (conv => whnf); repeat ((apply And.intro;· exact Cl1); conv => whnf)
           refine ih l[(i + 1)].k l[(i + 1)].n l[(i + 1)].s l[(i + 1)].l l[(i + 1)].ns (by rw [V.eta]; omega) (by omega) y1 y2 mp u1 u2 _ hq g1 g2 g3 (by rw [V.eta]; exact hal) ?_
           rw [V.eta]
           (conv => whnf); repeat ((apply And.intro;· exact Cl1); conv => whnf)
           refine joined_spec [((ub 5 :: ub l.length :: a) ++ countedB ns[(i + 1)]), writeV l[(i + 1)]] _ _ _ ⟨1, _, _, _, rfl, .inl rfl, 1, _, _, _, rfl, .inl rfl, rfl⟩ (.inl rfl) (by simp; omega) (by simp) _ ?_
           rw [show [((ub 5 :: ub l.length :: a) ++ countedB ns[(i + 1)]), writeV l[(i + 1)]].flatten = ((ub 5 :: ub l.length :: a) ++ countedB ns[(i + 1)]) ++ writeV l[(i + 1)] by simp]
           (conv => whnf); repeat ((apply And.intro;· exact Cl1); conv => whnf)
           rw [wrap64 (by omega) (by omega)]
           refine ⟨[], ((i + 1) + 1, a ++ countedB ns[(i + 1)] ++ writeV l[(i + 1)]), ⟨by omega, fun hc => (by cases hc), ?_⟩, by show l.length - ((i + 1) + 1) < l.length - ((i + 1)); omega, ?_⟩
           ·rw [← hacc]
            simp only [List.tail_drop, List.tail_cons, List.headD_cons, cond_true, cond_false, List.append_assoc, List.nil_append, List.append_nil]
           ·simp [meets, ghosts, St.le, St.get, look, keys, PV.labs, labsL, lookB, Blk.labs]
          ·have hix : (i + 1) = l.length := by have := of_decide_eq_false h7; omega
           (conv => whnf); repeat ((apply And.intro;· exact Cl1); conv => whnf)
           simp only [hix, List.drop_length, writeVs, List.append_nil] at hacc
           rw [← hacc] at hpost
           exact hpost
       ·have h6' : k ≠ 5 := by simpa using h6
        (conv => whnf); repeat ((apply And.intro;· exact Cl1); conv => whnf)
        rw [wrapub]
        simpa [writeV, h1', h2', h3', h4', h5', h6', bs] using h
end Go.Vc
