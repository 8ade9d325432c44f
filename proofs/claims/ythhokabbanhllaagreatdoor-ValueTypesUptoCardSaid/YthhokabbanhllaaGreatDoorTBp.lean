/- What is proved here: contracts of functions of the program: of each function what it hands back and what it leaves in memory. Conditions: those that each theorem names. -/
import Derived.Test.YthhokabbanhllaaGreatDoorTBo
import Derived.Test.YthhokabbanhllaaGreatDoorTBj
import Derived.Test.YthhokabbanhllaaGreatDoorTAp
import Derived.Test.YthhokabbanhllaaGreatDoorTAt
set_option linter.unusedVariables false
set_option linter.unusedSimpArgs false
set_option linter.unusedSectionVars false
namespace Go.Vc
open Go Go.Proofs Go.RowKit
set_option maxRecDepth 100000
theorem after_below {w w' : World} {Z : Nat → Prop} {φ : Phi} {Post : PV → List (Nat × Blk) → Prop} {r : PV} {v : Value} (hb : Below w.heap.size w w') (hz : ∀ b, Z b → b < w.heap.size) (h : Post r []) (hr : Rep ⟨w', Z, w.heap.size, fun _ => none⟩ r v) : After w Z φ [] Post v w' :=
 ⟨r, [], fun _ => none, Z, h, hr, ⟨fun id b h => (by cases h), fun i j b m m' _ h => (by cases h), fun id x h => (by cases h)⟩, fun i hi => (by cases hi), fun b hb' => Nat.lt_of_lt_of_le (hz b hb') hb.size, fun b hb' => .inl hb', fun b hb' => hb',
  ⟨hb.os, hb.tape, hb.output, hb.size, fun b hl _ => hb.block b hl, fun b cs T hc => ⟨cs, by rw [hb.block b (Array.getElem?_eq_some_iff.1 hc).1]; exact hc, rfl⟩⟩⟩
theorem quoted_spec (s : List UInt8) (hs : s.length ≤ 1000000) (Post : PV → List (Nat × Blk) → Prop) (h : Post (.str (quoT s)) []) : Spec K 77 [.str s] [] Post := by
 refine spec_of_cspec Tryz.func77 (by kernel_rfl) (c := (Tryz.f77.body).getD .skip) (by kernel_rfl) fun w Z φ vs hbef => ?_
 obtain ⟨h1, h2, h3, h4, h5⟩ := hbef
 match vs, h1 with
 | [x0], _ =>
  obtain ⟨u, rfl, hu⟩ := (h2 0 _ _ rfl rfl).str_inv
  refine (quoted_walk u w (by rw [← bytes_len, hu]; exact hs)).mono fun e w' ⟨he, hb⟩ => ⟨_, he, after_below hb h4 h ?_⟩
  rw [hu]
  exact .str _ _ rfl
def ItoaC : Prop := ∀ n : Int, i64 n → ∀ Post : PV → List (Nat × Blk) → Prop, Post (.str (Lib.itoa n)) [] → Spec K 75 [.int .i64 n] [] Post
theorem fmtBool_spec (b : Bool) (Post : PV → List (Nat × Blk) → Prop) (h : Post (.str (if b = true then [116, 114, 117, 101] else [102, 97, 108, 115, 101])) []) : Spec K 76 [.bool b] [] Post := by
 refine is76.specW K_ok K_mix false (by simp) (by simp [keys]) ?_
 (conv => whnf); repeat ((first | (apply And.intro;· exact Cl4) | apply T1 | apply T2 | apply T3 | apply T4 | apply T6 | apply T5); conv => whnf)
 refine is92.specW K_ok K_mix false (by simp) (by simp [keys]) ?_
 cases b
 ·(conv => whnf); repeat ((first | (apply And.intro;· exact Cl4) | apply T1 | apply T2 | apply T3 | apply T4 | apply T6 | apply T5); conv => whnf)
  exact h
 ·(conv => whnf); repeat ((first | (apply And.intro;· exact Cl4) | apply T1 | apply T2 | apply T3 | apply T4 | apply T6 | apply T5); conv => whnf)
  exact h
theorem join_eq : ∀ l : List (List UInt8), Lib.join l [44] = joinC l
 | [] => rfl
 | [a] => by simp [Lib.join, joinC, List.intercalate]
 | a :: b :: r => by
  have := join_eq (b :: r)
  rw [joinC_cons (by simp), ← this]
  simp [Lib.join, List.intercalate, List.intersperse]
theorem join_spec (l : List (List UInt8)) (z : Nat) (t o : Bool) (hz : z = 1 ∨ l = []) (hl : l.length ≤ 1000000) (hj : (joinC l).length ≤ 1000000) (Post : PV → List (Nat × Blk) → Prop) (h : Post (.str (joinC l)) []) : Spec K 78 [.sl z (strs l) t o, .str [44]] [] Post := by
 refine spec_of_cspec Tryz.func78 (by kernel_rfl) (c := (Tryz.f78.body).getD .skip) (by kernel_rfl) fun w Z φ vs hbef => ?_
 obtain ⟨h1, h2, h3, h4, h5⟩ := hbef
 match vs, h1 with
 | [x0, x1], _ =>
  have e0 := h2 0 _ _ rfl rfl
  obtain ⟨u, rfl, hu⟩ := (h2 1 _ _ rfl rfl).str_inv
  obtain ⟨a, n, c, rfl, hn, hc, ht, hsz, hm, he⟩ : ∃ a n c, x0 = .slice a n c ∧ n = l.length ∧ l.length ≤ c ∧ True ∧ True ∧ (∀ j, j < l.length → ∃ ad : Addr, a = some ad ∧ Z ad.block ∧ ad.spot = none ∧ ∃ y, w.cell? ⟨ad.block, ad.off + j, none⟩ = some (.string y) ∧ y.data.toList = l.getD j []) ∧ True := by
   cases e0 with
   | sl _ _ _ _ _ h0 =>
    cases h0 with
    | sl _ _ _ _ a n c cs hn hc ht hz' hm he =>
     rw [strs_len] at hn hc
     refine ⟨a, n, c, rfl, hn, hc, trivial, trivial, fun j hj => ?_, trivial⟩
     obtain ⟨ad, g1, g2, g3, g4⟩ := hm j (by rw [strs_len]; exact hj)
     have hj1 : (strs l)[j]? = some (.str (l.getD j [])) := by
      unfold strs
      rw [List.getElem?_map, List.getElem?_eq_getElem hj, List.getD_eq_getElem?_getD, List.getElem?_eq_getElem hj]; rfl
     have hz1 : z = 1 := hz.elim id fun e => by subst e; simp at hj
     subst hz1
     have g5 := g4 0 (by decide)
     have g6 := he j 0 _ (.str (l.getD j [])) hj1 rfl
     refine ⟨ad, g1, g2.1, g3, ?_⟩
     rw [Nat.mul_one, Nat.add_zero] at g5
     generalize cs j 0 = y at g5 g6
     cases g6 with
     | str _ y hy => exact ⟨y, g5, hy⟩
  subst hn
  by_cases h0 : l = []
  ·subst h0
   refine (Tryz.strings_Join_none a c u w).mono fun e w' ⟨he, hw⟩ => ⟨_, he, ?_⟩
   subst hw
   exact after_below (Below.refl _ _) h4 h (.str _ _ rfl)
  ·obtain ⟨ad, rfl, hZ, hsp, _⟩ := hm 0 (List.length_pos_iff.2 h0)
   have hm2 : ∀ j, j < l.length → ∃ y, w.cell? ⟨ad.block, ad.off + j, none⟩ = some (.string y) ∧ y.data.toList = l.getD j [] := fun j hj => by
    obtain ⟨ad', e, _, _, hy⟩ := hm j hj
    cases e; exact hy
   obtain ⟨bk, o', sp⟩ := ad
   simp only at hsp hm2 hZ
   subst hsp
   let xs : List ByteArray := l.map fun s => ⟨s.toArray⟩
   have hxs : ∀ (j : Nat) x, xs[j]? = some x → w.cell? ⟨bk, o' + j, none⟩ = some (.string x) := fun j x hx => by
    rw [List.getElem?_map, Option.map_eq_some_iff] at hx
    obtain ⟨s, hs, rfl⟩ := hx
    have hj := (List.getElem?_eq_some_iff.1 hs).1
    obtain ⟨y, g1, g2⟩ := hm2 j hj
    rw [g1]
    have : y = ⟨s.toArray⟩ := by
     rw [List.getD_eq_getElem?_getD, hs] at g2
     have g2 : y.data.toList = s := g2
     rw [← g2]
    rw [this]
   have hmap : xs.map (·.data.toList) = l := by simp [xs, Function.comp_def]
   have hlen : xs.length = l.length := by simp [xs]
   have := Tryz.strings_Join bk o' c xs u w hxs (h4 _ hZ) (by rw [hlen]; omega) (by rw [hlen]; exact hc) (by rw [hmap, hu, join_eq]; omega)
   rw [hlen, hmap, hu, join_eq] at this
   exact this.mono fun e w' ⟨he, hb⟩ => ⟨_, he, after_below hb h4 h (.str _ _ rfl)⟩
end Go.Vc
namespace Go.Vc
open Go Go.Proofs
set_option maxRecDepth 100000
abbrev tp (z : Nat) (b : List UInt8) (t : Bool) (e : Int) : List (Nat × Blk) := [(0, .box [.sl z (bs b) t true, .int .i64 e])]
def failE (e : Int) (is : Bool) (e' : Int) : Int := if e ≠ 0 then e else if is then e' else 0
theorem fail_spec (z : Nat) (b : List UInt8) (t : Bool) (e e' : Int) (is : Bool) (Post : PV → List (Nat × Blk) → Prop) (h : Post (.tup []) (tp z b t (failE e is e'))) : Spec K 64 [.ptr 0 0, .bool is, .int .i64 e'] (tp z b t e) Post := by
 refine is64.spec K_ok K_mix true (by simp) (by simp [keys]) ?_
 by_cases h0 : e = 0
 ·subst h0
  cases is
  ·(conv => whnf); repeat ((first | (apply And.intro;· exact Cl3) | apply T1 | apply T2 | apply T3 | apply T4 | apply T6 | apply T5); conv => whnf)
   exact h
  ·(conv => whnf); repeat ((first | (apply And.intro;· exact Cl3) | apply T1 | apply T2 | apply T3 | apply T4 | apply T6 | apply T5); conv => whnf)
   exact h
 ·have h1 : (e == 0) = false := by simpa using h0
  (conv => whnf); repeat ((first | (apply And.intro;· exact Cl3) | apply T1 | apply T2 | apply T3 | apply T4 | apply T6 | apply T5); conv => whnf)
  rw [h1]
  (conv => whnf); repeat ((first | (apply And.intro;· exact Cl3) | apply T1 | apply T2 | apply T3 | apply T4 | apply T6 | apply T5); conv => whnf)
  simpa [failE, h0] using h
def offE (n : Nat) (b : List UInt8) (e : Int) : Int := failE e (decide (b.length < n)) 3
def offB (n : Nat) (b : List UInt8) (e : Int) : List UInt8 := if offE n b e ≠ 0 then [] else b.take n
def offR (n : Nat) (b : List UInt8) (e : Int) : List UInt8 := if offE n b e ≠ 0 then b else b.drop n
theorem off_spec (z : Nat) (b : List UInt8) (t : Bool) (e : Int) (n : Nat) (hz : z = 1 ∨ b = []) (hb : b.length ≤ 1000000000) (hn : n ≤ 1000) (Post : PV → List (Nat × Blk) → Prop)
  (h : ∀ z' t', (z' = 1 ∨ offB n b e = []) → Post (.sl z' (bs (offB n b e)) false true) (tp z (offR n b e) t' (offE n b e))) : Spec K 66 [.ptr 0 0, .int .i64 n] (tp z b t e) Post := by
 refine is66.specW K_ok K_mix false (by simp) (by simp [keys]) ?_
 (conv => whnf); repeat ((first | (apply And.intro;· exact Cl3) | apply T1 | apply T2 | apply T3 | apply T4 | apply T6 | apply T5); conv => whnf)
 refine fail_spec z b t e 3 _ _ ?_
 rw [bs_len, show decide ((b.length : Int) < (n : Int)) = decide (b.length < n) from decide_eq_decide.2 (by omega)]
 have he : failE e (decide (b.length < n)) 3 = offE n b e := rfl
 rw [he]
 by_cases h0 : offE n b e = 0
 ·have h1 : (offE n b e != 0) = false := by simpa using h0
  have hlen : n ≤ b.length := by
   by_cases hl : b.length < n
   ·unfold offE failE at h0
    split at h0
    ·rename_i h2; exact absurd h0 h2
    ·simp [hl] at h0
   ·omega
  have hz2 : z = 1 ∨ bs b = [] := hz.imp id fun h => by rw [h]; rfl
  have hb1 : True → (0 : Int) ≤ (n : Int) ∧ (n : Int) ≤ ((bs b).length : Int) := fun _ => ⟨by omega, by rw [bs_len]; omega⟩
  (conv => whnf); repeat ((first | (apply And.intro;· exact Cl3) | apply T1 | apply T2 | apply T3 | apply T4 | apply T6 | apply T5); conv => whnf)
  rw [h1]
  (conv => whnf); repeat ((first | (apply And.intro;· exact Cl3) | apply T1 | apply T2 | apply T3 | apply T4 | apply T6 | apply T5); conv => whnf)
  rw [Int.toNat_natCast, List.drop_zero, List.take_of_length_le (l := bs b) (i := (bs b).length) (Nat.le_refl _), bs_take, bs_drop]
  have e1 : offB n b e = b.take n := by rw [offB, if_neg (by rw [h0]; simp)]
  have e2 : offR n b e = b.drop n := by rw [offR, if_neg (by rw [h0]; simp)]
  rw [e1, e2] at h
  exact h z _ (hz.imp id fun h => by rw [h]; simp)
 ·have h1 : (offE n b e != 0) = true := by simpa using h0
  (conv => whnf); repeat ((first | (apply And.intro;· exact Cl3) | apply T1 | apply T2 | apply T3 | apply T4 | apply T6 | apply T5); conv => whnf)
  rw [h1]
  (conv => whnf); repeat ((first | (apply And.intro;· exact Cl3) | apply T1 | apply T2 | apply T3 | apply T4 | apply T6 | apply T5); conv => whnf)
  have e1 : offB n b e = [] := by rw [offB, if_pos h0]
  have e2 : offR n b e = b := by rw [offR, if_pos h0]
  rw [e1, e2] at h
  exact h 0 t (.inr rfl)
def byteN (b : List UInt8) (e : Int) : Nat := if offE 1 b e ≠ 0 then 0 else (b.headD 0).toNat
theorem offE_len {n : Nat} {b : List UInt8} {e : Int} (h : offE n b e = 0) : n ≤ b.length := by
 by_cases hl : b.length < n
 ·unfold offE failE at h
  split at h
  ·rename_i h2; exact absurd h h2
  ·simp [hl] at h
 ·omega
theorem byte_spec (z : Nat) (b : List UInt8) (t : Bool) (e : Int) (hz : z = 1 ∨ b = []) (hb : b.length ≤ 1000000000) (Post : PV → List (Nat × Blk) → Prop)
  (h : ∀ t', Post (.int .i64 (byteN b e)) (tp z (offR 1 b e) t' (offE 1 b e))) : Spec K 65 [.ptr 0 0] (tp z b t e) Post := by
 refine is65.specW K_ok K_mix false (by simp) (by simp [keys]) ?_
 (conv => whnf); repeat ((first | (apply And.intro;· exact Cl3) | apply T1 | apply T2 | apply T3 | apply T4 | apply T6 | apply T5); conv => whnf)
 refine off_spec z b t e 1 hz hb (by omega) _ fun z' t' hz' => ?_
 (conv => whnf); repeat ((first | (apply And.intro;· exact Cl3) | apply T1 | apply T2 | apply T3 | apply T4 | apply T6 | apply T5); conv => whnf)
 rw [bs_len]
 by_cases h0 : offE 1 b e = 0
 ·have hl := offE_len h0
  have e1 : offB 1 b e = [b.headD 0] := by
   rw [offB, if_neg (by rw [h0]; simp)]
   cases b with
   | nil => simp at hl
   | cons c r => rfl
  rw [e1]
  (conv => whnf); repeat ((first | (apply And.intro;· exact Cl3) | apply T1 | apply T2 | apply T3 | apply T4 | apply T6 | apply T5); conv => whnf)
  refine ⟨hz'.imp id fun h => (by rw [e1] at h; cases h), ?_⟩
  (conv => whnf); repeat ((first | (apply And.intro;· exact Cl3) | apply T1 | apply T2 | apply T3 | apply T4 | apply T6 | apply T5); conv => whnf)
  refine ⟨fun _ => ⟨by decide, by rw [bs_len]; simp⟩, ?_⟩
  (conv => whnf); repeat ((first | (apply And.intro;· exact Cl3) | apply T1 | apply T2 | apply T3 | apply T4 | apply T6 | apply T5); conv => whnf)
  rw [wrap64 (by omega) (by have := (b.headD 0).toNat_lt; omega)]
  have := h t'
  rw [byteN, if_neg (by rw [h0]; simp)] at this
  exact this
 ·have e1 : offB 1 b e = [] := by rw [offB, if_pos h0]
  rw [e1]
  (conv => whnf); repeat ((first | (apply And.intro;· exact Cl3) | apply T1 | apply T2 | apply T3 | apply T4 | apply T6 | apply T5); conv => whnf)
  have := h t'
  rw [byteN, if_pos h0] at this
  exact this
def cntE (most : Nat) (b : List UInt8) (e : Int) : Int := failE (offE 1 b e) (decide (most < byteN b e)) 5
def cntN (most : Nat) (b : List UInt8) (e : Int) : Nat := if cntE most b e ≠ 0 then 0 else byteN b e
theorem counts_spec (z : Nat) (b : List UInt8) (t : Bool) (e : Int) (most : Nat) (hm : most ≤ 1000) (hz : z = 1 ∨ b = []) (hb : b.length ≤ 1000000000) (Post : PV → List (Nat × Blk) → Prop)
  (h : ∀ t', Post (.int .i64 (cntN most b e)) (tp z (offR 1 b e) t' (cntE most b e))) : Spec K 68 [.ptr 0 0, .int .i64 most] (tp z b t e) Post := by
 refine is68.specW K_ok K_mix false (by simp) (by simp [keys]) ?_
 (conv => whnf); repeat ((first | (apply And.intro;· exact Cl3) | apply T1 | apply T2 | apply T3 | apply T4 | apply T6 | apply T5); conv => whnf)
 refine byte_spec z b t e hz hb _ fun t' => ?_
 (conv => whnf); repeat ((first | (apply And.intro;· exact Cl3) | apply T1 | apply T2 | apply T3 | apply T4 | apply T6 | apply T5); conv => whnf)
 rw [show decide ((most : Int) < (byteN b e : Int)) = decide (most < byteN b e) from decide_eq_decide.2 (by omega)]
 refine fail_spec z (offR 1 b e) t' (offE 1 b e) 5 _ _ ?_
 have he : failE (offE 1 b e) (decide (most < byteN b e)) 5 = cntE most b e := rfl
 rw [he]
 (conv => whnf); repeat ((first | (apply And.intro;· exact Cl3) | apply T1 | apply T2 | apply T3 | apply T4 | apply T6 | apply T5); conv => whnf)
 have h' := h t'
 by_cases h0 : cntE most b e = 0
 ·have h1 : (cntE most b e != 0) = false := by simpa using h0
  rw [h1]
  (conv => whnf); repeat ((first | (apply And.intro;· exact Cl3) | apply T1 | apply T2 | apply T3 | apply T4 | apply T6 | apply T5); conv => whnf)
  rw [cntN, if_neg (by rw [h0]; simp)] at h'
  exact h'
 ·have h1 : (cntE most b e != 0) = true := by simpa using h0
  rw [h1]
  (conv => whnf); repeat ((first | (apply And.intro;· exact Cl3) | apply T1 | apply T2 | apply T3 | apply T4 | apply T6 | apply T5); conv => whnf)
  rw [cntN, if_pos h0] at h'
  exact h'
end Go.Vc
namespace Go.Vc
open Go Go.Proofs
set_option maxRecDepth 100000
def n8 (l : List UInt8) : Int := l.foldl (fun n c => bitsI .or .i64 (IntKind.i64.wrap (n * 2 ^ 8)) (c.toNat : Int)) 0
theorem wrap_def (n : Int) : IntKind.i64.wrap n = if 9223372036854775808 ≤ n % 18446744073709551616 then n % 18446744073709551616 - 18446744073709551616 else n % 18446744073709551616 := by
 show (if (true && decide (n % 18446744073709551616 ≥ 9223372036854775808)) = true then n % 18446744073709551616 - 18446744073709551616 else n % 18446744073709551616) = _
 by_cases h : 9223372036854775808 ≤ n % 18446744073709551616
 ·rw [if_pos (by rw [decide_eq_true h]; rfl), if_pos h]
 ·rw [if_neg (by rw [decide_eq_false (show ¬ (n % 18446744073709551616 ≥ 9223372036854775808) from h)]; decide), if_neg h]
theorem wrap_congr {a b : Int} (h : a % 18446744073709551616 = b % 18446744073709551616) : IntKind.i64.wrap a = IntKind.i64.wrap b := by
 rw [wrap_def, wrap_def, h]
theorem wrap_mod (a : Int) : IntKind.i64.wrap a % 18446744073709551616 = a % 18446744073709551616 := by
 rw [wrap_def]
 split <;> omega
theorem wrap_i64 (a : Int) : i64 (IntKind.i64.wrap a) := by
 unfold i64
 rw [wrap_def]
 split <;> constructor <;> omega
theorem ofInt_mod (a : Int) (N : Nat) (h : a % 18446744073709551616 = (N : Int) % 18446744073709551616) : BitVec.ofInt 64 a = BitVec.ofNat 64 N := by
 apply BitVec.eq_of_toNat_eq
 rw [BitVec.toNat_ofInt, BitVec.toNat_ofNat]
 have h' : a % ((2 ^ 64 : Nat) : Int) = (N : Int) % 18446744073709551616 := h
 rw [h']
 omega
theorem orW (N c : Nat) (hc : c < 256) : bitsI .or .i64 (IntKind.i64.wrap (IntKind.i64.wrap (N : Int) * 2 ^ 8)) (c : Int) = IntKind.i64.wrap ((N * 256 + c : Nat) : Int) := by
 have h1 : IntKind.i64.wrap (IntKind.i64.wrap (N : Int) * 2 ^ 8) % 18446744073709551616 = (IntKind.i64.wrap (N : Int) * 256) % 18446744073709551616 := wrap_mod (IntKind.i64.wrap (N : Int) * 2 ^ 8)
 have h2 := wrap_mod (N : Int)
 generalize hA : IntKind.i64.wrap (IntKind.i64.wrap (N : Int) * 2 ^ 8) = A at *
 generalize IntKind.i64.wrap (N : Int) = B at *
 unfold bitsI
 show IntKind.i64.wrap (((BitVec.ofInt 64 A ||| BitVec.ofInt 64 (c : Int)).toNat : Nat) : Int) = _
 rw [ofInt_mod A (N % 72057594037927936 * 256) (by omega), BitVec.ofInt_natCast, BitVec.toNat_or, BitVec.toNat_ofNat, BitVec.toNat_ofNat, Nat.mod_eq_of_lt (a := N % 72057594037927936 * 256) (by omega), Nat.mod_eq_of_lt (a := c) (by omega)]
 have := Nat.shiftLeft_add_eq_or_of_lt (i := 8) hc (N % 72057594037927936)
 rw [Nat.shiftLeft_eq] at this
 rw [show (256 : Nat) = 2 ^ 8 from rfl, ← this]
 apply wrap_congr
 omega
theorem n8_go : ∀ (l : List UInt8) (N : Nat), l.foldl (fun n c => bitsI .or .i64 (IntKind.i64.wrap (n * 2 ^ 8)) (c.toNat : Int)) (IntKind.i64.wrap (N : Int)) = IntKind.i64.wrap ((horner N l : Nat) : Int)
 | [], N => rfl
 | c :: r, N => by
  rw [List.foldl_cons, orW N c.toNat c.toNat_lt, n8_go r]
  rfl
theorem n8_eq (l : List UInt8) : n8 l = IntKind.i64.wrap ((horner 0 l : Nat) : Int) := n8_go l 0
theorem n8_i64 (l : List UInt8) : i64 (n8 l) := by rw [n8_eq]; exact wrap_i64 _
theorem n8_snoc (l : List UInt8) (i : Nat) (h : i < l.length) : n8 (l.take (i + 1)) = bitsI .or .i64 (IntKind.i64.wrap (n8 (l.take i) * 2 ^ 8)) (l[i].toNat : Int) := by
 unfold n8
 rw [List.take_add_one, List.getElem?_eq_getElem h, List.foldl_append]
 rfl
theorem ub_toNat (n : Int) : ((ub n).toNat : Int) = n % 256 := by
 unfold ub
 rw [UInt8.toNat_ofNat']
 omega
theorem n8_be8 {n : Int} (hn : i64 n) : n8 (be8 n) = n := by
 rw [n8_eq]
 have hh : ∀ a b c d e f g h : UInt8, horner 0 [a, b, c, d, e, f, g, h] = ((((((a.toNat * 256 + b.toNat) * 256 + c.toNat) * 256 + d.toNat) * 256 + e.toNat) * 256 + f.toNat) * 256 + g.toNat) * 256 + h.toNat := by
  intros; simp [horner]
 have hb : be8 n = [ub (n / 72057594037927936), ub (n / 281474976710656), ub (n / 1099511627776), ub (n / 4294967296), ub (n / 16777216), ub (n / 65536), ub (n / 256), ub (n / 1)] := rfl
 rw [hb, hh]
 have e0 := ub_toNat (n / 72057594037927936)
 have e1 := ub_toNat (n / 281474976710656)
 have e2 := ub_toNat (n / 1099511627776)
 have e3 := ub_toNat (n / 4294967296)
 have e4 := ub_toNat (n / 16777216)
 have e5 := ub_toNat (n / 65536)
 have e6 := ub_toNat (n / 256)
 have e7 := ub_toNat (n / 1)
 unfold i64 at hn
 generalize (ub (n / 72057594037927936)).toNat = x0 at *
 generalize (ub (n / 281474976710656)).toNat = x1 at *
 generalize (ub (n / 1099511627776)).toNat = x2 at *
 generalize (ub (n / 4294967296)).toNat = x3 at *
 generalize (ub (n / 16777216)).toNat = x4 at *
 generalize (ub (n / 65536)).toNat = x5 at *
 generalize (ub (n / 256)).toNat = x6 at *
 generalize (ub (n / 1)).toNat = x7 at *
 refine Eq.trans (wrap_congr (b := n) ?_) (wrap64 hn.1 hn.2)
 have r7 : n = 256 * (n / 256) + x7 := by omega
 have r6 : n / 256 = 256 * (n / 65536) + x6 := by omega
 have r5 : n / 65536 = 256 * (n / 16777216) + x5 := by omega
 have r4 : n / 16777216 = 256 * (n / 4294967296) + x4 := by omega
 have r3 : n / 4294967296 = 256 * (n / 1099511627776) + x3 := by omega
 have r2 : n / 1099511627776 = 256 * (n / 281474976710656) + x2 := by omega
 have r1 : n / 281474976710656 = 256 * (n / 72057594037927936) + x1 := by omega
 have r0 : n / 72057594037927936 = 256 * (n / 18446744073709551616) + x0 := by omega
 clear e0 e1 e2 e3 e4 e5 e6 e7 hn hh hb
 generalize n / 256 = y1 at *
 generalize n / 65536 = y2 at *
 generalize n / 16777216 = y3 at *
 generalize n / 4294967296 = y4 at *
 generalize n / 1099511627776 = y5 at *
 generalize n / 281474976710656 = y6 at *
 generalize n / 72057594037927936 = y7 at *
 generalize n / 18446744073709551616 = y8 at *
 omega
def cntP (most : Nat) : List UInt8 → Except Int (Nat × List UInt8)
 | [] => .error 3
 | c :: r => if most < c.toNat then .error 5 else .ok (c.toNat, r)
def takeP (n : Nat) (b : List UInt8) : Except Int (List UInt8 × List UInt8) := if b.length < n then .error 3 else .ok (b.take n, b.drop n)
def textP (most : Nat) (b : List UInt8) : Except Int (List UInt8 × List UInt8) :=
 match cntP most b with
 | .error e => .error e
 | .ok (n, r) => takeP n r
abbrev VPar := List UInt8 → Except Int (V × List UInt8)
def listP (f : VPar) : Nat → List UInt8 → Except Int (List V × List UInt8)
 | 0, b => .ok ([], b)
 | n + 1, b => match f b with
  | .error e => .error e
  | .ok (v, r) => match listP f n r with
   | .error e => .error e
   | .ok (l, r) => .ok (v :: l, r)
def recP (f : VPar) : Nat → List UInt8 → Except Int ((List (List UInt8) × List V) × List UInt8)
 | 0, b => .ok (([], []), b)
 | n + 1, b => match textP 16 b with
  | .error e => .error e
  | .ok (s, r) => match f r with
   | .error e => .error e
   | .ok (v, r) => match recP f n r with
    | .error e => .error e
    | .ok ((ns, l), r) => .ok ((s :: ns, v :: l), r)
def bodyP (f : VPar) (k : Nat) (r : List UInt8) : Except Int (V × List UInt8) :=
 if k = 0 then .ok (.mk 0 0 [] [] [], r)
 else if k = 1 then match takeP 8 r with
  | .error e => .error e
  | .ok (l, r) => .ok (.mk 1 (n8 l) [] [] [], r)
 else if k = 2 then match takeP 1 r with
  | .error e => .error e
  | .ok (l, r) => if 1 < (l.headD 0).toNat then .error 4 else .ok (.mk 2 (l.headD 0).toNat [] [] [], r)
 else if k = 3 then match textP 64 r with
  | .error e => .error e
  | .ok (s, r) => .ok (.mk 3 0 s [] [], r)
 else if k = 4 then match cntP 32 r with
  | .error e => .error e
  | .ok (n, r) => match listP f n r with
   | .error e => .error e
   | .ok (l, r) => .ok (.mk 4 0 [] l [], r)
 else if k = 5 then match cntP 8 r with
  | .error e => .error e
  | .ok (n, r) => match recP f n r with
   | .error e => .error e
   | .ok ((ns, l), r) => .ok (.mk 5 0 [] l ns, r)
 else match takeP 1 r with
  | .error e => .error e
  | .ok (l, r) => .ok (.mk 6 (l.headD 0).toNat [] [] [], r)
def parseV : Nat → VPar
 | _, [] => .error 3
 | 0, _ :: _ => .error 5
 | d + 1, c :: r => if 6 < c.toNat then .error 4 else bodyP (parseV d) c.toNat r
end Go.Vc
namespace Go.Vc
open Go Go.Proofs
set_option maxRecDepth 100000
def lift {α : Type} (e : Int) (p : Except Int α) : Except Int α := if e ≠ 0 then .error e else p
theorem lift0 {α : Type} (p : Except Int α) : lift 0 p = p := rfl
theorem liftE {α : Type} {e : Int} (h : e ≠ 0) (p : Except Int α) : lift e p = .error e := if_pos h
def is345 (e : Int) : Prop := e = 3 ∨ e = 4 ∨ e = 5
theorem is345_ne {e : Int} (h : is345 e) : e ≠ 0 := by rcases h with rfl | rfl | rfl <;> decide
theorem cnt_err {m : Nat} {b : List UInt8} {e : Int} (h : cntP m b = .error e) : is345 e := by
 cases b with
 | nil => cases h; exact .inl rfl
 | cons c r => simp only [cntP] at h; split at h <;> cases h; exact .inr (.inr rfl)
theorem takeP_err {n : Nat} {b : List UInt8} {e : Int} (h : takeP n b = .error e) : e = 3 := by
 unfold takeP at h; split at h <;> cases h; rfl
theorem text_err {m : Nat} {b : List UInt8} {e : Int} (h : textP m b = .error e) : is345 e := by
 unfold textP at h
 split at h
 ·rename_i e' he; cases h; exact cnt_err he
 ·exact .inl (takeP_err h)
theorem cnt_ok {m : Nat} {b : List UInt8} {n : Nat} {r : List UInt8} (h : cntP m b = .ok (n, r)) : b = UInt8.ofNat n :: r ∧ n ≤ m ∧ n < 256 := by
 cases b with
 | nil => cases h
 | cons c l =>
  simp only [cntP] at h
  split at h
  ·cases h
  ·cases h
   refine ⟨?_, by omega, c.toNat_lt⟩
   rw [UInt8.ofNat_toNat]
theorem takeP_ok {n : Nat} {b s r : List UInt8} (h : takeP n b = .ok (s, r)) : b = s ++ r ∧ s.length = n := by
 unfold takeP at h
 split at h
 ·cases h
 ·cases h
  refine ⟨(List.take_append_drop n b).symm, ?_⟩
  rw [List.length_take]; omega
theorem text_ok {m : Nat} {b s r : List UInt8} (h : textP m b = .ok (s, r)) : b = UInt8.ofNat s.length :: (s ++ r) ∧ s.length ≤ m ∧ s.length < 256 := by
 unfold textP at h
 split at h
 ·cases h
 ·rename_i n r' hc
  obtain ⟨rfl, h1, h2⟩ := cnt_ok hc
  obtain ⟨rfl, rfl⟩ := takeP_ok h
  exact ⟨rfl, h1, h2⟩
theorem list_bulk {f : VPar} (hf : ∀ b v r, f b = .ok (v, r) → bulkV v + r.length ≤ b.length) : ∀ (n : Nat) (b : List UInt8) (l : List V) (r : List UInt8), listP f n b = .ok (l, r) → bulkVs l + r.length ≤ b.length ∧ l.length = n
 | 0, b, l, r, h => by cases h; simp [bulkVs]
 | n + 1, b, l, r, h => by
  simp only [listP] at h
  split at h
  ·cases h
  ·rename_i v r1 hv
   split at h
   ·cases h
   ·rename_i l1 r2 hl
    cases h
    have h1 := hf _ _ _ hv
    have h2 := list_bulk hf n _ _ _ hl
    simp only [bulkVs, List.length_cons]
    omega
theorem rec_bulk {f : VPar} (hf : ∀ b v r, f b = .ok (v, r) → bulkV v + r.length ≤ b.length) : ∀ (n : Nat) (b : List UInt8) (ns : List (List UInt8)) (l : List V) (r : List UInt8), recP f n b = .ok ((ns, l), r) →
  nsBulk ns + bulkVs l + r.length ≤ b.length ∧ l.length = n ∧ ns.length = n
 | 0, b, ns, l, r, h => by cases h; simp [bulkVs, nsBulk]
 | n + 1, b, ns, l, r, h => by
  simp only [recP] at h
  split at h
  ·cases h
  ·rename_i s r0 hs
   obtain ⟨rfl, _⟩ := text_ok hs
   split at h
   ·cases h
   ·rename_i v r1 hv
    split at h
    ·cases h
    ·rename_i ns1 l1 r2 hl
     cases h
     have h1 := hf _ _ _ hv
     have h2 := rec_bulk hf n _ _ _ _ hl
     simp only [bulkVs, nsBulk, List.length_cons, List.length_append]
     omega
theorem body_bulk {f : VPar} (hf : ∀ b v r, f b = .ok (v, r) → bulkV v + r.length ≤ b.length) {k : Nat} {b : List UInt8} {v : V} {r : List UInt8} (h : bodyP f k b = .ok (v, r)) : bulkV v + r.length ≤ b.length + 1 := by
 unfold bodyP at h
 split at h
 ·cases h; simp [bulkV, bulkVs, nsBulk]; omega
 split at h
 ·split at h
  ·cases h
  ·rename_i l r1 hl
   cases h
   obtain ⟨rfl, _⟩ := takeP_ok hl
   simp [bulkV, bulkVs, nsBulk]; omega
 split at h
 ·split at h
  ·cases h
  ·rename_i l r1 hl
   obtain ⟨rfl, _⟩ := takeP_ok hl
   split at h
   ·cases h
   ·cases h; simp [bulkV, bulkVs, nsBulk]; omega
 split at h
 ·split at h
  ·cases h
  ·rename_i l r1 hl
   cases h
   obtain ⟨rfl, _⟩ := text_ok hl
   simp [bulkV, bulkVs, nsBulk]; omega
 split at h
 ·split at h
  ·cases h
  ·rename_i n r1 hn
   obtain ⟨rfl, _⟩ := cnt_ok hn
   split at h
   ·cases h
   ·rename_i l r2 hl
    cases h
    have := list_bulk hf _ _ _ _ hl
    simp [bulkV, nsBulk]; omega
 split at h
 ·split at h
  ·cases h
  ·rename_i n r1 hn
   obtain ⟨rfl, _⟩ := cnt_ok hn
   split at h
   ·cases h
   ·rename_i ns l r2 hl
    cases h
    have := rec_bulk hf _ _ _ _ _ hl
    simp [bulkV]; omega
 split at h
 ·cases h
 ·rename_i l r1 hl
  cases h
  obtain ⟨rfl, _⟩ := takeP_ok hl
  simp [bulkV, bulkVs, nsBulk]; omega
theorem parse_bulk : ∀ (d : Nat) (b : List UInt8) (v : V) (r : List UInt8), parseV d b = .ok (v, r) → bulkV v + r.length ≤ b.length
 | 0, [], v, r, h => by cases h
 | 0, _ :: _, v, r, h => by cases h
 | d + 1, [], v, r, h => by cases h
 | d + 1, c :: b, v, r, h => by
  simp only [parseV] at h
  split at h
  ·cases h
  ·exact body_bulk (parse_bulk d) h
theorem failE_ne {e : Int} (h : e ≠ 0) (is : Bool) (e' : Int) : failE e is e' = e := if_pos h
theorem fail_e (z : Nat) (b : List UInt8) (t : Bool) (e e' : Int) (is : Bool) (he : e ≠ 0) (Post : PV → List (Nat × Blk) → Prop) (h : Post (.tup []) (tp z b t e)) : Spec K 64 [.ptr 0 0, .bool is, .int .i64 e'] (tp z b t e) Post :=
 fail_spec z b t e e' is Post (by rw [failE_ne he]; exact h)
theorem fail_t (z : Nat) (b : List UInt8) (t : Bool) (e' : Int) (is : Bool) (hi : is = true) (Post : PV → List (Nat × Blk) → Prop) (h : Post (.tup []) (tp z b t e')) : Spec K 64 [.ptr 0 0, .bool is, .int .i64 e'] (tp z b t 0) Post :=
 fail_spec z b t 0 e' is Post (by subst hi; exact h)
theorem fail_f (z : Nat) (b : List UInt8) (t : Bool) (e' : Int) (is : Bool) (hi : is = false) (Post : PV → List (Nat × Blk) → Prop) (h : Post (.tup []) (tp z b t 0)) : Spec K 64 [.ptr 0 0, .bool is, .int .i64 e'] (tp z b t 0) Post :=
 fail_spec z b t 0 e' is Post (by subst hi; exact h)
theorem off_c (z : Nat) (b : List UInt8) (t : Bool) (e : Int) (n : Nat) (hz : z = 1 ∨ b = []) (hb : b.length ≤ 1000000000) (hn : n ≤ 1000) (Post : PV → List (Nat × Blk) → Prop)
  (herr : ∀ e', lift e (takeP n b) = .error e' → ∀ z' t' b', b'.length ≤ b.length → (z = 1 ∨ b' = []) → Post (.sl z' [] false true) (tp z b' t' e'))
  (hok : ∀ s r, lift e (takeP n b) = .ok (s, r) → e = 0 → ∀ z' t', (z' = 1 ∨ s = []) → (z = 1 ∨ r = []) → Post (.sl z' (bs s) false true) (tp z r t' 0)) : Spec K 66 [.ptr 0 0, .int .i64 n] (tp z b t e) Post := by
 refine off_spec z b t e n hz hb hn Post fun z' t' hz' => ?_
 by_cases he : e = 0
 ·subst he
  by_cases hl : b.length < n
  ·have h1 : offE n b 0 = 3 := by simp [offE, failE, hl]
   rw [offB, offR, h1]
   exact herr 3 (by rw [lift0, takeP, if_pos hl]) z' t' b (Nat.le_refl _) hz
  ·have h1 : offE n b 0 = 0 := by simp [offE, failE, hl]
   rw [offB, h1] at hz'
   rw [offB, offR, h1]
   exact hok (b.take n) (b.drop n) (by rw [lift0, takeP, if_neg hl]) rfl z' t' hz' (hz.imp id fun h => by rw [h]; simp)
 ·have h1 : offE n b e = e := failE_ne he _ _
  rw [offB, offR, h1, if_pos he, if_pos he]
  exact herr e (liftE he _) z' t' b (Nat.le_refl _) hz
theorem byte_c (z : Nat) (b : List UInt8) (t : Bool) (e : Int) (hz : z = 1 ∨ b = []) (hb : b.length ≤ 1000000000) (Post : PV → List (Nat × Blk) → Prop)
  (herr : ∀ e', lift e (takeP 1 b) = .error e' → ∀ t' b', b'.length ≤ b.length → (z = 1 ∨ b' = []) → Post (.int .i64 0) (tp z b' t' e'))
  (hok : ∀ c r, b = c :: r → e = 0 → ∀ t', z = 1 → Post (.int .i64 c.toNat) (tp z r t' 0)) : Spec K 65 [.ptr 0 0] (tp z b t e) Post := by
 refine byte_spec z b t e hz hb Post fun t' => ?_
 by_cases he : e = 0
 ·subst he
  cases b with
  | nil => exact herr 3 rfl t' [] (Nat.le_refl _) hz
  | cons c r =>
   have h1 : offE 1 (c :: r) 0 = 0 := by simp [offE, failE]
   rw [byteN, offR, h1]
   exact hok c r rfl rfl t' (hz.resolve_right (by simp))
 ·have h1 : offE 1 b e = e := failE_ne he _ _
  rw [byteN, offR, h1, if_pos he, if_pos he]
  exact herr e (liftE he _) t' b (Nat.le_refl _) hz
theorem counts_c (z : Nat) (b : List UInt8) (t : Bool) (e : Int) (most : Nat) (hm : most ≤ 1000) (hz : z = 1 ∨ b = []) (hb : b.length ≤ 1000000000) (Post : PV → List (Nat × Blk) → Prop)
  (herr : ∀ e', lift e (cntP most b) = .error e' → ∀ t' b', b'.length ≤ b.length → (z = 1 ∨ b' = []) → Post (.int .i64 (0 : Nat)) (tp z b' t' e'))
  (hok : ∀ (n : Nat) r, lift e (cntP most b) = .ok (n, r) → e = 0 → ∀ t', z = 1 → Post (.int .i64 n) (tp z r t' 0)) : Spec K 68 [.ptr 0 0, .int .i64 most] (tp z b t e) Post := by
 refine counts_spec z b t e most hm hz hb Post fun t' => ?_
 by_cases he : e = 0
 ·subst he
  cases b with
  | nil => exact herr 3 rfl t' [] (Nat.le_refl _) hz
  | cons c r =>
   have h1 : offE 1 (c :: r) 0 = 0 := by simp [offE, failE]
   have h2 : byteN (c :: r) 0 = c.toNat := by rw [byteN, h1]; rfl
   by_cases hc : most < c.toNat
   ·have h3 : cntE most (c :: r) 0 = 5 := by rw [cntE, h1, h2]; simp [failE, hc]
    rw [cntN, h3, offR, h1]
    exact herr 5 (by rw [lift0, cntP, if_pos hc]) t' r (by simp) (.inl (hz.resolve_right (by simp)))
   ·have h3 : cntE most (c :: r) 0 = 0 := by rw [cntE, h1, h2]; simp [failE, hc]
    rw [cntN, h3, offR, h1, h2]
    exact hok c.toNat r (by rw [lift0, cntP, if_neg hc]) rfl t' (hz.resolve_right (by simp))
 ·have h1 : offE 1 b e = e := failE_ne he _ _
  have h3 : cntE most b e = e := by rw [cntE, h1]; exact failE_ne he _ _
  rw [cntN, offR, h3, h1, if_pos he, if_pos he]
  exact herr e (liftE he _) t' b (Nat.le_refl _) hz
theorem text_c (z : Nat) (b : List UInt8) (t : Bool) (e : Int) (most : Nat) (hm : most ≤ 1000) (hz : z = 1 ∨ b = []) (hb : b.length ≤ 1000000000) (Post : PV → List (Nat × Blk) → Prop)
  (herr : ∀ e', lift e (textP most b) = .error e' → ∀ t' b', b'.length ≤ b.length → (z = 1 ∨ b' = []) → Post (.str []) (tp z b' t' e'))
  (hok : ∀ s r, lift e (textP most b) = .ok (s, r) → e = 0 → ∀ t', z = 1 → Post (.str s) (tp z r t' 0)) : Spec K 67 [.ptr 0 0, .int .i64 most] (tp z b t e) Post := by
 refine is67.specW K_ok K_mix false (by simp) (by simp [keys]) ?_
 (conv => whnf); repeat ((first | (apply And.intro;· exact Cl3) | apply T1 | apply T2 | apply T3 | apply T4 | apply T6 | apply T5); conv => whnf)
 refine counts_c z b t e most hm hz hb _ (fun e' he' t' b' hb' hz' => ?_) (fun n r hnr he t' hz' => ?_)
 ·have hne : e' ≠ 0 := by
   intro h0
   subst h0
   by_cases he : e = 0
   ·subst he
    exact is345_ne (cnt_err he') rfl
   ·rw [liftE he] at he'
    cases he'
    exact he rfl
  (conv => whnf); repeat ((first | (apply And.intro;· exact Cl3) | apply T1 | apply T2 | apply T3 | apply T4 | apply T6 | apply T5); conv => whnf)
  refine off_c z b' t' e' 0 hz' (by omega) (by omega) _ (fun e2 h2 z2 t2 b2 hb2 hz2 => ?_) (fun s r _ h0 => absurd h0 hne)
  rw [liftE hne] at h2
  cases h2
  (conv => whnf); repeat ((first | (apply And.intro;· exact Cl3) | apply T1 | apply T2 | apply T3 | apply T4 | apply T6 | apply T5); conv => whnf)
  refine herr e' ?_ t2 b2 (by omega) hz2
  by_cases he : e = 0
  ·subst he
   rw [lift0] at he' ⊢
   unfold textP
   rw [he']
  ·rw [liftE he] at he' ⊢
   cases he'
   rfl
 ·subst he
  rw [lift0] at hnr
  obtain ⟨hbr, hn1, hn2⟩ := cnt_ok hnr
  (conv => whnf); repeat ((first | (apply And.intro;· exact Cl3) | apply T1 | apply T2 | apply T3 | apply T4 | apply T6 | apply T5); conv => whnf)
  refine off_c z r t' 0 n (.inl hz') (by rw [hbr] at hb; simp at hb; omega) (by omega) _ (fun e2 h2 z2 t2 b2 hb2 hz2 => ?_) (fun s r2 h2 _ z2 t2 hz2 hz3 => ?_)
  ·(conv => whnf); repeat ((first | (apply And.intro;· exact Cl3) | apply T1 | apply T2 | apply T3 | apply T4 | apply T6 | apply T5); conv => whnf)
   refine herr e2 ?_ t2 b2 (by rw [hbr]; simp; omega) hz2
   rw [lift0] at h2 ⊢
   unfold textP
   rw [hnr]
   exact h2
  ·(conv => whnf); repeat ((first | (apply And.intro;· exact Cl3) | apply T1 | apply T2 | apply T3 | apply T4 | apply T6 | apply T5); conv => whnf)
   refine ⟨bs_int _, ?_⟩
   (conv => whnf); repeat ((first | (apply And.intro;· exact Cl3) | apply T1 | apply T2 | apply T3 | apply T4 | apply T6 | apply T5); conv => whnf)
   rw [str_bs]
   refine hok s r2 ?_ rfl t2 hz'
   rw [lift0] at h2 ⊢
   unfold textP
   rw [hnr]
   exact h2
end Go.Vc
namespace Go.Vc
open Go Go.Proofs
set_option maxRecDepth 100000
def Out {α : Type} (p : Except Int (α × List UInt8)) (a : α) (b : List UInt8) (e : Int) : Prop := p = .ok (a, b) ∧ e = 0 ∨ p = .error e ∧ is345 e
theorem lift_err {α : Type} {e e' : Int} {p : Except Int α} (he : e = 0 ∨ is345 e) (hp : ∀ e, p = .error e → is345 e) (h : lift e p = .error e') : is345 e' := by
 rcases he with rfl | he
 ·exact hp _ h
 ·rw [liftE (is345_ne he)] at h; cases h; exact he
theorem off_m (z : Nat) (b : List UInt8) (t : Bool) (e : Int) (n : Nat) (he : e = 0 ∨ is345 e) (hz : z = 1 ∨ b = []) (hb : b.length ≤ 1000000000) (hn : n ≤ 1000) (Post : PV → List (Nat × Blk) → Prop)
  (h : ∀ s b' e', Out (lift e (takeP n b)) s b' e' → (s = [] ∨ s.length = n) → ∀ z' t', b'.length ≤ b.length → (z = 1 ∨ b' = []) → (z' = 1 ∨ s = []) → Post (.sl z' (bs s) false true) (tp z b' t' e')) : Spec K 66 [.ptr 0 0, .int .i64 n] (tp z b t e) Post := by
 refine off_c z b t e n hz hb hn Post (fun e' he' z' t' b' hb' hz' => ?_) (fun s r hs _ z' t' hz' hz2 => ?_)
 ·exact h [] b' e' (.inr ⟨he', lift_err he (fun e h => .inl (takeP_err h)) he'⟩) (.inl rfl) z' t' hb' hz' (.inr rfl)
 ·have : lift e (takeP n b) = takeP n b := by
   by_cases h0 : e = 0
   ·subst h0; rfl
   ·rw [liftE h0] at hs; cases hs
  obtain ⟨hb2, hl⟩ := takeP_ok (this ▸ hs)
  exact h s r 0 (.inl ⟨hs, rfl⟩) (.inr hl) z' t' (by rw [hb2]; simp) hz2 hz'
theorem text_m (z : Nat) (b : List UInt8) (t : Bool) (e : Int) (most : Nat) (hm : most ≤ 1000) (he : e = 0 ∨ is345 e) (hz : z = 1 ∨ b = []) (hb : b.length ≤ 1000000000) (Post : PV → List (Nat × Blk) → Prop)
  (h : ∀ s b' e', Out (lift e (textP most b)) s b' e' → ∀ t', b'.length ≤ b.length → (z = 1 ∨ b' = []) → Post (.str s) (tp z b' t' e')) : Spec K 67 [.ptr 0 0, .int .i64 most] (tp z b t e) Post := by
 refine text_c z b t e most hm hz hb Post (fun e' he' t' b' hb' hz' => ?_) (fun s r hs h0 t' hz' => ?_)
 ·exact h [] b' e' (.inr ⟨he', lift_err he (fun e h => text_err h) he'⟩) t' hb' hz'
 ·subst h0
  obtain ⟨hb2, _⟩ := text_ok (lift0 (textP most b) ▸ hs)
  exact h s r 0 (.inl ⟨hs, rfl⟩) t' (by rw [hb2]; simp; omega) (.inl hz')
theorem counts_m (z : Nat) (b : List UInt8) (t : Bool) (e : Int) (most : Nat) (hm : most ≤ 1000) (he : e = 0 ∨ is345 e) (hz : z = 1 ∨ b = []) (hb : b.length ≤ 1000000000) (Post : PV → List (Nat × Blk) → Prop)
  (h : ∀ (n : Nat) b' e', Out (lift e (cntP most b)) n b' e' → n ≤ most → ∀ t', (e' ≠ 0 → n = 0) → b'.length ≤ b.length → (z = 1 ∨ b' = []) → Post (.int .i64 n) (tp z b' t' e')) : Spec K 68 [.ptr 0 0, .int .i64 most] (tp z b t e) Post := by
 refine counts_c z b t e most hm hz hb Post (fun e' he' t' b' hb' hz' => ?_) (fun s r hs h0 t' hz' => ?_)
 ·exact h 0 b' e' (.inr ⟨he', lift_err he (fun e h => cnt_err h) he'⟩) (Nat.zero_le _) t' (fun _ => rfl) hb' hz'
 ·subst h0
  obtain ⟨hb2, h2, _⟩ := cnt_ok (lift0 (cntP most b) ▸ hs)
  exact h s r 0 (.inl ⟨hs, rfl⟩) h2 t' (fun h => absurd rfl h) (by rw [hb2]; simp) (.inl hz')
structure VO (v : V) (z1 : Nat) (lp : List PV) (z2 : Nat) : Prop where
 l : VPs v.l lp
 z1 : z1 = 5 ∨ v.l = []
 z2 : z2 = 1 ∨ v.ns = []
 n : i64 v.n
theorem VO0 : VO V0 0 [] 0 := ⟨rfl, .inr rfl, .inr rfl, ⟨by decide, by decide⟩⟩
theorem VPs_snoc : ∀ {l : List V} {lp : List PV} {v : V} {p : PV}, VPs l lp → VP v p → VPs (l ++ [v]) (lp ++ [p])
 | [], lp, v, p, h, hv => by
  simp only [VPs] at h
  subst h
  exact ⟨p, [], rfl, hv, rfl⟩
 | w :: r, lp, v, p, h, hv => by
  simp only [VPs] at h
  obtain ⟨q, lq, rfl, h1, h2⟩ := h
  exact ⟨q, lq ++ [p], rfl, h1, VPs_snoc h2 hv⟩
theorem VO.vp {v : V} {z1 : Nat} {lp : List PV} {z2 : Nat} (h : VO v z1 lp z2) (t1 t2 : Bool) : VP v (.agg (vc v z1 lp t1 z2 t2)) := by
 cases v
 exact ⟨z1, lp, t1, true, z2, t2, true, rfl, h.l, h.z1, h.z2, h.n⟩
def vcN (v : V) (z1 : Nat) (lp : List PV) (z2 : Nat) : List PV := [.int .i64 v.k, .int .i64 v.n, .str v.s, .sl z1 lp false false, .sl z2 (strs v.ns) false false]
theorem VO.vpN {v : V} {z1 : Nat} {lp : List PV} {z2 : Nat} (h : VO v z1 lp z2) : VP v (.agg (vcN v z1 lp z2)) := by
 cases v
 exact ⟨z1, lp, false, false, z2, false, false, rfl, h.l, h.z1, h.z2, h.n⟩
def ValC (d : Nat) : Prop := ∀ (b : List UInt8) (z : Nat) (t : Bool) (w : Int), w = 8 - (d : Int) → (z = 1 ∨ b = []) → b.length ≤ 1000000000 → ∀ Post : PV → List (Nat × Blk) → Prop,
 (∀ v b' e' t' z1 lp z2, VO v z1 lp z2 → b'.length ≤ b.length → (z = 1 ∨ b' = []) → Out (parseV d b) v b' e' → Post (.agg (vcN v z1 lp z2)) (tp z b' t' e')) → Spec K 42 [.ptr 0 0, .int .i64 w] (tp z b t 0) Post
theorem within_m (d : Nat) (hd : d ≤ 7) (IH : ValC d) (b : List UInt8) (e : Int) (z : Nat) (t : Bool) (w : Int) (hw : w = 8 - ((d + 1 : Nat) : Int)) (he : e = 0 ∨ is345 e) (hz : z = 1 ∨ b = []) (hb : b.length ≤ 1000000000) (Post : PV → List (Nat × Blk) → Prop)
  (h : ∀ v b' e' t' z1 lp z2, VO v z1 lp z2 → b'.length ≤ b.length → (z = 1 ∨ b' = []) → Out (lift e (parseV d b)) v b' e' → Post (.agg (vcN v z1 lp z2)) (tp z b' t' e')) :
  Spec K 69 [.ptr 0 0, .int .i64 w] (tp z b t e) Post := by
 refine is69.specN K_ok K_mix false (by simp) (by simp [keys]) ?_
 rcases he with rfl | he
 ·(conv => whnf); repeat ((first | (apply And.intro;· exact Cl3) | apply T1 | apply T2 | apply T3 | apply T4 | apply T6 | apply T5); conv => whnf)
  rw [show IntKind.i64.wrap (w + 1) = w + 1 from wrap64 (by omega) (by omega)]
  refine IH b z t (w + 1) (by omega) hz hb _ fun v b' e' t' z1 lp z2 hv hb' hz' ho => ?_
  (conv => whnf); repeat ((first | (apply And.intro;· exact Cl3) | apply T1 | apply T2 | apply T3 | apply T4 | apply T6 | apply T5); conv => whnf)
  exact h v b' e' t' z1 lp z2 hv hb' hz' ho
 ·have h1 : (e != 0) = true := by simpa using is345_ne he
  (conv => whnf); repeat ((first | (apply And.intro;· exact Cl3) | apply T1 | apply T2 | apply T3 | apply T4 | apply T6 | apply T5); conv => whnf)
  rw [h1]
  (conv => whnf); repeat ((first | (apply And.intro;· exact Cl3) | apply T1 | apply T2 | apply T3 | apply T4 | apply T6 | apply T5); conv => whnf)
  exact h V0 b e t 0 [] 0 VO0 (Nat.le_refl _) hz (.inr ⟨liftE (is345_ne he) _, he⟩)
def preL {α : Type} (l : List α) (p : Except Int (List α × List UInt8)) : Except Int (List α × List UInt8) :=
 match p with
 | .error e => .error e
 | .ok (l', r) => .ok (l ++ l', r)
theorem preL_nil {α : Type} (p : Except Int (List α × List UInt8)) : preL [] p = p := by cases p <;> rfl
theorem list_step {f : VPar} {l : List V} {e : Int} {n : Nat} {b : List UInt8} {v : V} {b' : List UInt8} {e' : Int} (h : Out (lift e (f b)) v b' e') : preL l (lift e (listP f (n + 1) b)) = preL (l ++ [v]) (lift e' (listP f n b')) := by
 by_cases he : e = 0
 ·subst he
  rw [lift0] at h ⊢
  rcases h with ⟨h, rfl⟩ | ⟨h, h2⟩
  ·rw [lift0, listP, h]
   simp only
   cases hl : listP f n b' with
   | error e => rfl
   | ok p => simp [preL]
  ·rw [liftE (is345_ne h2), listP, h]
   rfl
 ·rw [liftE he] at h ⊢
  rcases h with ⟨h, _⟩ | ⟨h, h2⟩
  ·cases h
  ·cases h
   rw [liftE he]
   rfl
theorem list_end {f : VPar} {l : List V} {e : Int} {b : List UInt8} (he : e = 0 ∨ is345 e) {p : Except Int (List V × List UInt8)} (h : p = preL l (lift e (listP f 0 b))) : Out p l b e := by
 rcases he with rfl | he
 ·refine .inl ⟨?_, rfl⟩
  rw [h, lift0, listP, preL, List.append_nil]
 ·refine .inr ⟨?_, he⟩
  rw [h, liftE (is345_ne he), preL]
def preR (ns : List (List UInt8)) (l : List V) (p : Except Int ((List (List UInt8) × List V) × List UInt8)) : Except Int ((List (List UInt8) × List V) × List UInt8) :=
 match p with
 | .error e => .error e
 | .ok ((ns', l'), r) => .ok ((ns ++ ns', l ++ l'), r)
theorem preR_nil (p : Except Int ((List (List UInt8) × List V) × List UInt8)) : preR [] [] p = p := by cases p <;> rfl
theorem rec_stepV {f : VPar} {ns : List (List UInt8)} {l : List V} {e : Int} {n : Nat} {b : List UInt8} {s : List UInt8} {b1 : List UInt8} {e1 : Int} {v : V} {b' : List UInt8} {e' : Int} (h1 : Out (lift e (textP 16 b)) s b1 e1) (h : Out (lift e1 (f b1)) v b' e') :
  preR ns l (lift e (recP f (n + 1) b)) = preR (ns ++ [s]) (l ++ [v]) (lift e' (recP f n b')) := by
 by_cases he : e = 0
 ·subst he
  rw [lift0] at h1 ⊢
  rcases h1 with ⟨h1, rfl⟩ | ⟨h1, h2⟩
  ·rw [lift0] at h
   rcases h with ⟨h, rfl⟩ | ⟨h, h2⟩
   ·rw [lift0, recP, h1]
    simp only
    rw [h]
    simp only
    cases hl : recP f n b' with
    | error e => rfl
    | ok p => simp [preR]
   ·rw [liftE (is345_ne h2), recP, h1]
    simp only
    rw [h]
    rfl
  ·rw [liftE (is345_ne h2)] at h
   rcases h with ⟨h, _⟩ | ⟨h, h3⟩
   ·cases h
   ·cases h
    rw [liftE (is345_ne h2), recP, h1]
    rfl
 ·rw [liftE he] at h1 ⊢
  rcases h1 with ⟨h1, _⟩ | ⟨h1, h2⟩
  ·cases h1
  ·cases h1
   rw [liftE he] at h
   rcases h with ⟨h, _⟩ | ⟨h, h3⟩
   ·cases h
   ·cases h
    rw [liftE he]
    rfl
theorem rec_end {f : VPar} {ns : List (List UInt8)} {l : List V} {e : Int} {b : List UInt8} (he : e = 0 ∨ is345 e) {p : Except Int ((List (List UInt8) × List V) × List UInt8)} (h : p = preR ns l (lift e (recP f 0 b))) : Out p (ns, l) b e := by
 rcases he with rfl | he
 ·refine .inl ⟨?_, rfl⟩
  rw [h, lift0, recP, preR, List.append_nil, List.append_nil]
 ·refine .inr ⟨?_, he⟩
  rw [h, liftE (is345_ne he), preR]
theorem Out.e {α : Type} {p : Except Int (α × List UInt8)} {a : α} {b : List UInt8} {e : Int} (h : Out p a b e) : e = 0 ∨ is345 e := h.imp (·.2) (·.2)
theorem Out.map {α β : Type} {p : Except Int (α × List UInt8)} {a : α} {b : List UInt8} {e : Int} {q : Except Int (β × List UInt8)} {c : β} (h : Out p a b e) (h1 : p = .ok (a, b) → q = .ok (c, b)) (h2 : ∀ e, p = .error e → q = .error e) : Out q c b e :=
 h.imp (fun h => ⟨h1 h.1, h.2⟩) (fun h => ⟨h2 _ h.1, h.2⟩)
end Go.Vc
namespace Go.Vc
open Go Go.Proofs
set_option maxRecDepth 100000
theorem kind7 {c : UInt8} (h : ¬ 6 < c.toNat) : c.toNat = 0 ∨ c.toNat = 1 ∨ c.toNat = 2 ∨ c.toNat = 3 ∨ c.toNat = 4 ∨ c.toNat = 5 ∨ c.toNat = 6 := by omega
set_option maxHeartbeats 16000000 in
theorem value_tape : ∀ d, d ≤ 8 → ValC d := by
 intro d
 induction d with
 | zero =>
  intro _ b z t w hw hz hb Post h
  obtain rfl : w = 8 := by omega
  refine is42.specN K_ok K_mix false (by simp) (by simp [keys]) ?_
  cases b with
  | nil =>
   (conv => whnf); repeat ((first | (apply And.intro;· exact Cl3) | apply T1 | apply T2 | apply T3 | apply T4 | apply T6 | apply T5); conv => whnf)
   refine fail_t z [] t 3 _ rfl _ ?_
   (conv => whnf); repeat ((first | (apply And.intro;· exact Cl3) | apply T1 | apply T2 | apply T3 | apply T4 | apply T6 | apply T5); conv => whnf)
   refine fail_e z [] t 3 5 _ (by decide) _ ?_
   (conv => whnf); repeat ((first | (apply And.intro;· exact Cl3) | apply T1 | apply T2 | apply T3 | apply T4 | apply T6 | apply T5); conv => whnf)
   refine byte_c z [] t 3 hz hb _ (fun e' he' t' b' hb' hz' => ?_) (fun c r hcr => by cases hcr)
   cases he'
   (conv => whnf); repeat ((first | (apply And.intro;· exact Cl3) | apply T1 | apply T2 | apply T3 | apply T4 | apply T6 | apply T5); conv => whnf)
   refine fail_e z b' t' 3 4 _ (by decide) _ ?_
   (conv => whnf); repeat ((first | (apply And.intro;· exact Cl3) | apply T1 | apply T2 | apply T3 | apply T4 | apply T6 | apply T5); conv => whnf)
   exact h V0 b' 3 t' 0 [] 0 VO0 hb' hz' (.inr ⟨rfl, .inl rfl⟩)
  | cons c r =>
   (conv => whnf); repeat ((first | (apply And.intro;· exact Cl3) | apply T1 | apply T2 | apply T3 | apply T4 | apply T6 | apply T5); conv => whnf)
   refine fail_f z (c :: r) t 3 _ (by simp [bs]; omega) _ ?_
   (conv => whnf); repeat ((first | (apply And.intro;· exact Cl3) | apply T1 | apply T2 | apply T3 | apply T4 | apply T6 | apply T5); conv => whnf)
   refine fail_t z (c :: r) t 5 _ (by decide) _ ?_
   (conv => whnf); repeat ((first | (apply And.intro;· exact Cl3) | apply T1 | apply T2 | apply T3 | apply T4 | apply T6 | apply T5); conv => whnf)
   refine byte_c z (c :: r) t 5 hz hb _ (fun e' he' t' b' hb' hz' => ?_) (fun c r _ h0 => absurd h0 (by decide))
   cases he'
   (conv => whnf); repeat ((first | (apply And.intro;· exact Cl3) | apply T1 | apply T2 | apply T3 | apply T4 | apply T6 | apply T5); conv => whnf)
   refine fail_e z b' t' 5 4 _ (by decide) _ ?_
   (conv => whnf); repeat ((first | (apply And.intro;· exact Cl3) | apply T1 | apply T2 | apply T3 | apply T4 | apply T6 | apply T5); conv => whnf)
   exact h V0 b' 5 t' 0 [] 0 VO0 hb' hz' (.inr ⟨rfl, .inr (.inr rfl)⟩)
 | succ d IH =>
  intro hd b z t w hw hz hb Post h
  have IH := IH (by omega)
  refine is42.specCN [93] K_ok K_mix false (by simp) (by simp [keys]) ?_
  cases b with
  | nil =>
   (conv => whnf); repeat ((first | (apply And.intro;· exact Cl3) | apply T1 | apply T2 | apply T3 | apply T4 | apply T6 | apply T5); conv => whnf)
   refine fail_t z [] t 3 _ rfl _ ?_
   (conv => whnf); repeat ((first | (apply And.intro;· exact Cl3) | apply T1 | apply T2 | apply T3 | apply T4 | apply T6 | apply T5); conv => whnf)
   refine fail_e z [] t 3 5 _ (by decide) _ ?_
   (conv => whnf); repeat ((first | (apply And.intro;· exact Cl3) | apply T1 | apply T2 | apply T3 | apply T4 | apply T6 | apply T5); conv => whnf)
   refine byte_c z [] t 3 hz hb _ (fun e' he' t' b' hb' hz' => ?_) (fun c r hcr => by cases hcr)
   cases he'
   (conv => whnf); repeat ((first | (apply And.intro;· exact Cl3) | apply T1 | apply T2 | apply T3 | apply T4 | apply T6 | apply T5); conv => whnf)
   refine fail_e z b' t' 3 4 _ (by decide) _ ?_
   (conv => whnf); repeat ((first | (apply And.intro;· exact Cl3) | apply T1 | apply T2 | apply T3 | apply T4 | apply T6 | apply T5); conv => whnf)
   exact h V0 b' 3 t' 0 [] 0 VO0 hb' hz' (.inr ⟨rfl, .inl rfl⟩)
  | cons c r =>
   have hpc : parseV (d + 1) (c :: r) = if 6 < c.toNat then .error 4 else bodyP (parseV d) c.toNat r := rfl
   have hb1 : r.length ≤ 1000000000 := by simp at hb; omega
   (conv => whnf); repeat ((first | (apply And.intro;· exact Cl3) | apply T1 | apply T2 | apply T3 | apply T4 | apply T6 | apply T5); conv => whnf)
   refine fail_f z (c :: r) t 3 _ (by simp [bs]; omega) _ ?_
   (conv => whnf); repeat ((first | (apply And.intro;· exact Cl3) | apply T1 | apply T2 | apply T3 | apply T4 | apply T6 | apply T5); conv => whnf)
   refine fail_f z (c :: r) t 5 _ (by simp; omega) _ ?_
   (conv => whnf); repeat ((first | (apply And.intro;· exact Cl3) | apply T1 | apply T2 | apply T3 | apply T4 | apply T6 | apply T5); conv => whnf)
   refine byte_c z (c :: r) t 0 hz hb _ (fun e' he' => by cases he') (fun c' r' hcr _ t' hz' => ?_)
   obtain ⟨rfl, rfl⟩ : c' = c ∧ r' = r := by simp at hcr; exact ⟨hcr.1.symm, hcr.2.symm⟩
   by_cases hc : 6 < c'.toNat
   ·rw [if_pos hc] at hpc
    (conv => whnf); repeat ((first | (apply And.intro;· exact Cl3) | apply T1 | apply T2 | apply T3 | apply T4 | apply T6 | apply T5); conv => whnf)
    refine fail_t z r' t' 4 _ (by simp; omega) _ ?_
    (conv => whnf); repeat ((first | (apply And.intro;· exact Cl3) | apply T1 | apply T2 | apply T3 | apply T4 | apply T6 | apply T5); conv => whnf)
    exact h V0 r' 4 t' 0 [] 0 VO0 (by simp) (.inl hz') (.inr ⟨hpc, .inr (.inl rfl)⟩)
   ·rw [if_neg hc] at hpc
    have hcd : decide ((6 : Int) < (c'.toNat : Int)) = false := by simp; omega
    rcases kind7 hc with hk | hk | hk | hk | hk | hk | hk
    all_goals (rw [hk] at hpc ⊢)
    ·(conv => whnf); repeat ((first | (apply And.intro;· exact Cl3) | apply T1 | apply T2 | apply T3 | apply T4 | apply T6 | apply T5); conv => whnf)
     refine fail_f z r' t' 4 _ rfl _ ?_
     (conv => whnf); repeat ((first | (apply And.intro;· exact Cl3) | apply T1 | apply T2 | apply T3 | apply T4 | apply T6 | apply T5); conv => whnf)
     exact h V0 r' 0 t' 0 [] 0 VO0 (by simp) (.inl hz') (.inl ⟨hpc, rfl⟩)
    ·(conv => whnf); repeat ((first | (apply And.intro;· exact Cl3) | apply T1 | apply T2 | apply T3 | apply T4 | apply T6 | apply T5); conv => whnf)
     refine fail_f z r' t' 4 _ rfl _ ?_
     (conv => whnf); repeat ((first | (apply And.intro;· exact Cl3) | apply T1 | apply T2 | apply T3 | apply T4 | apply T6 | apply T5); conv => whnf)
     refine off_m z r' t' 0 8 (.inl rfl) (.inl hz') hb1 (by omega) _ (fun s b2 e2 ho hs z2 t2 hb2 hz2 hz3 => ?_)
     (conv => whnf); repeat ((first | (apply And.intro;· exact Cl3) | apply T1 | apply T2 | apply T3 | apply T4 | apply T6 | apply T5); conv => whnf)
     have hs8 : s.length ≤ 8 := by rcases hs with h | h <;> simp [h]
     refine ⟨Nat, fun i => ⟨110, [(40, .int .i64 i), (39, .int .i64 s.length), (38, .sl z2 (bs s) false true), (4, .ptr 1 0)], [(0, .box [.sl z (bs b2) t2 true, .int .i64 e2]), (1, .box [.int .i64 1, .int .i64 (n8 (s.take i)), .str [], .sl 0 [] true false, .sl 0 [] true false])], [0]⟩, fun i => i ≤ s.length, fun i => s.length - i,
      ⟨[], 0, Nat.zero_le _, ?_⟩, fun i hi => ?_⟩
     ·simp [meets, ghosts, St.le, St.get, look, keys, PV.labs, labsL, lookB, Blk.labs, bs_len, n8]
     ·have hi : i ≤ s.length := hi
      conv => (arg 5; dsimp only)
      (conv => whnf); repeat ((first | (apply And.intro;· exact Cl3) | apply T1 | apply T2 | apply T3 | apply T4 | apply T6 | apply T5); conv => whnf)
      refine ⟨fun h1 => ?_, fun h1 => ?_⟩
      ·have hix : i < s.length := by have := of_decide_eq_true h1; omega
       have hz4 : z2 = 1 ∨ bs s = [] := hz3.imp id fun h => by rw [h]; rfl
       (conv => whnf); repeat ((first | (apply And.intro;· exact Cl3) | apply T1 | apply T2 | apply T3 | apply T4 | apply T6 | apply T5); conv => whnf)
       refine ⟨fun _ => ⟨by omega, by rw [bs_len]; omega⟩, ?_⟩
       (conv => whnf); repeat ((first | (apply And.intro;· exact Cl3) | apply T1 | apply T2 | apply T3 | apply T4 | apply T6 | apply T5); conv => whnf)
       rw [Int.toNat_natCast, nth_bs hix]
       (conv => whnf); repeat ((first | (apply And.intro;· exact Cl3) | apply T1 | apply T2 | apply T3 | apply T4 | apply T6 | apply T5); conv => whnf)
       rw [wrap64 (n := (i : Int) + 1) (by omega) (by omega)]
       refine ⟨[], i + 1, hix, by show s.length - (i + 1) < s.length - i; omega, ?_⟩
       simp [meets, ghosts, St.le, St.get, look, keys, PV.labs, labsL, lookB, Blk.labs, n8_snoc s i hix]
       rw [show IntKind.i64.wrap (s[i].toNat : Int) = (s[i].toNat : Int) from wrap64 (by omega) (by have := s[i].toNat_lt; omega)]
       rfl
      ·have hix : i = s.length := by have := of_decide_eq_false h1; omega
       subst hix
       (conv => whnf); repeat ((first | (apply And.intro;· exact Cl3) | apply T1 | apply T2 | apply T3 | apply T4 | apply T6 | apply T5); conv => whnf)
       rw [List.take_length]
       refine h (.mk 1 (n8 s) [] [] []) b2 e2 t2 0 [] 0 ⟨rfl, .inr rfl, .inr rfl, n8_i64 s⟩ (by simp; omega) hz2 (ho.map (fun hp => ?_) (fun e hp => ?_))
       all_goals (
        rw [hpc, bodyP, if_neg (by decide), if_pos rfl]
        rw [lift0] at hp
        rw [hp])
    ·(conv => whnf); repeat ((first | (apply And.intro;· exact Cl3) | apply T1 | apply T2 | apply T3 | apply T4 | apply T6 | apply T5); conv => whnf)
     refine fail_f z r' t' 4 _ rfl _ ?_
     (conv => whnf); repeat ((first | (apply And.intro;· exact Cl3) | apply T1 | apply T2 | apply T3 | apply T4 | apply T6 | apply T5); conv => whnf)
     refine byte_c z r' t' 0 (.inl hz') hb1 _ (fun e2 he2 t2 b2 hb2 hz2 => ?_) (fun x r2 hx _ t2 _ => ?_)
     ·(conv => whnf); repeat ((first | (apply And.intro;· exact Cl3) | apply T1 | apply T2 | apply T3 | apply T4 | apply T6 | apply T5); conv => whnf)
      have hn := takeP_err he2
      subst hn
      refine fail_e z b2 t2 3 4 _ (by decide) _ ?_
      (conv => whnf); repeat ((first | (apply And.intro;· exact Cl3) | apply T1 | apply T2 | apply T3 | apply T4 | apply T6 | apply T5); conv => whnf)
      refine h (.mk 2 0 [] [] []) b2 3 t2 0 [] 0 ⟨rfl, .inr rfl, .inr rfl, ⟨by show (-9223372036854775808 : Int) ≤ 0; omega, by show (0 : Int) ≤ _; omega⟩⟩ (by simp; omega) hz2 (.inr ⟨?_, .inl rfl⟩)
      rw [hpc, bodyP, if_neg (by decide), if_neg (by decide), if_pos rfl]
      rw [lift0] at he2
      rw [he2]
     ·subst hx
      (conv => whnf); repeat ((first | (apply And.intro;· exact Cl3) | apply T1 | apply T2 | apply T3 | apply T4 | apply T6 | apply T5); conv => whnf)
      have hx8 := x.toNat_lt
      have ht : takeP 1 (x :: r2) = .ok ([x], r2) := by rw [takeP, if_neg (by simp)]; rfl
      have hbo : bodyP (parseV d) 2 (x :: r2) = if 1 < x.toNat then .error 4 else .ok (.mk 2 x.toNat [] [] [], r2) := by
       rw [bodyP, if_neg (by decide), if_neg (by decide), if_pos rfl, ht]; rfl
      rw [hbo] at hpc
      by_cases h1 : 1 < x.toNat
      ·rw [if_pos h1] at hpc
       refine fail_t z r2 t2 4 _ (by simp; omega) _ ?_
       (conv => whnf); repeat ((first | (apply And.intro;· exact Cl3) | apply T1 | apply T2 | apply T3 | apply T4 | apply T6 | apply T5); conv => whnf)
       exact h (.mk 2 x.toNat [] [] []) r2 4 t2 0 [] 0 ⟨rfl, .inr rfl, .inr rfl, ⟨by show (-9223372036854775808 : Int) ≤ x.toNat; omega, by show (x.toNat : Int) ≤ _; omega⟩⟩ (by simp; omega) (.inl hz') (.inr ⟨hpc, .inr (.inl rfl)⟩)
      ·rw [if_neg h1] at hpc
       refine fail_f z r2 t2 4 _ (by simp; omega) _ ?_
       (conv => whnf); repeat ((first | (apply And.intro;· exact Cl3) | apply T1 | apply T2 | apply T3 | apply T4 | apply T6 | apply T5); conv => whnf)
       exact h (.mk 2 x.toNat [] [] []) r2 0 t2 0 [] 0 ⟨rfl, .inr rfl, .inr rfl, ⟨by show (-9223372036854775808 : Int) ≤ x.toNat; omega, by show (x.toNat : Int) ≤ _; omega⟩⟩ (by simp; omega) (.inl hz') (.inl ⟨hpc, rfl⟩)
    ·(conv => whnf); repeat ((first | (apply And.intro;· exact Cl3) | apply T1 | apply T2 | apply T3 | apply T4 | apply T6 | apply T5); conv => whnf)
     refine fail_f z r' t' 4 _ rfl _ ?_
     (conv => whnf); repeat ((first | (apply And.intro;· exact Cl3) | apply T1 | apply T2 | apply T3 | apply T4 | apply T6 | apply T5); conv => whnf)
     refine text_m z r' t' 0 64 (by omega) (.inl rfl) (.inl hz') hb1 _ (fun s b2 e2 ho t2 hb2 hz2 => ?_)
     (conv => whnf); repeat ((first | (apply And.intro;· exact Cl3) | apply T1 | apply T2 | apply T3 | apply T4 | apply T6 | apply T5); conv => whnf)
     refine h (.mk 3 0 s [] []) b2 e2 t2 0 [] 0 ⟨rfl, .inr rfl, .inr rfl, ⟨by show (-9223372036854775808 : Int) ≤ 0; omega, by show (0 : Int) ≤ _; omega⟩⟩ (by simp; omega) hz2 (ho.map (fun hp => ?_) (fun e hp => ?_))
     all_goals (
      rw [hpc, bodyP, if_neg (by decide), if_neg (by decide), if_neg (by decide), if_pos rfl]
      rw [lift0] at hp
      rw [hp])
    ·(conv => whnf); repeat ((first | (apply And.intro;· exact Cl3) | apply T1 | apply T2 | apply T3 | apply T4 | apply T6 | apply T5); conv => whnf)
     refine fail_f z r' t' 4 _ rfl _ ?_
     (conv => whnf); repeat ((first | (apply And.intro;· exact Cl3) | apply T1 | apply T2 | apply T3 | apply T4 | apply T6 | apply T5); conv => whnf)
     refine counts_m z r' t' 0 32 (by omega) (.inl rfl) (.inl hz') hb1 _ (fun n b2 e2 ho hn t2 hne hb2 hz2 => ?_)
     (conv => whnf); repeat ((first | (apply And.intro;· exact Cl3) | apply T1 | apply T2 | apply T3 | apply T4 | apply T6 | apply T5); conv => whnf)
     refine ⟨Nat × List V × List PV × List UInt8 × Bool × Int, fun x => ⟨110, [(76, .int .i64 x.1), (75, .int .i64 n), (4, .ptr 1 0), (1, .int .i64 w), (0, .ptr 0 0)],
       [(0, .box [.sl z (bs x.2.2.2.1) x.2.2.2.2.1 true, .int .i64 x.2.2.2.2.2]), (1, .box [.int .i64 4, .int .i64 0, .str [], .ref 5 2 0 x.1, .sl 0 [] true false]), (2, .row 25 5 x.2.2.1 false)], [0]⟩,
      fun x => x.1 ≤ n ∧ VPs x.2.1 x.2.2.1 ∧ x.2.1.length = x.1 ∧ lift e2 (listP (parseV d) n b2) = preL x.2.1 (lift x.2.2.2.2.2 (listP (parseV d) (n - x.1) x.2.2.2.1)) ∧ (z = 1 ∨ x.2.2.2.1 = []) ∧ x.2.2.2.1.length ≤ b2.length ∧ (x.2.2.2.2.2 = 0 ∨ is345 x.2.2.2.2.2), fun x => n - x.1,
      ⟨[.cell 1 3 25], (0, [], [], b2, t2, e2), ⟨Nat.zero_le _, rfl, rfl, by rw [preL_nil]; rfl, hz2, Nat.le_refl _, ho.e⟩, ?_⟩, fun x hI => ?_⟩
     ·simp [meets, ghosts, ghost, St.le, St.get, St.put, look, keys, PV.labs, labsL, lookB, Blk.labs, fresh, nth, updB]
      rfl
     ·obtain ⟨i, l, lp, b3, t3, e3⟩ := x
      obtain ⟨hi, hvp, hll, hpre, hz4, hb4, he4⟩ := hI
      simp only at hi hvp hll hpre hz4 hb4 he4
      conv => (arg 5; dsimp only)
      (conv => whnf); repeat ((first | (apply And.intro;· exact Cl3) | apply T1 | apply T2 | apply T3 | apply T4 | apply T6 | apply T5); conv => whnf)
      refine ⟨fun h1 => ?_, fun h1 => ?_⟩
      ·have hix : i < n := by have := of_decide_eq_true h1; omega
       ((conv => whnf); repeat' (first | ((first | (apply And.intro;· exact Cl3) | apply T1 | apply T2 | apply T3 | apply T4 | apply T6 | apply T5); conv => whnf) | (refine within_m d (by omega) IH b3 e3 z t3 w hw he4 hz4 (by omega) _ (fun v b5 e5 t5 z1 lp5 zz2 hv hb5 hz5 ho5 => ?_); conv => whnf) | (refine ⟨by show (i + 1) * 81 ≤ 70368744177664; omega, ?_⟩; conv => whnf) | ((refine Both.mk ?_ ?_ <;> fail_if_success (intro _)) <;> conv => whnf)))
       all_goals (
        refine ⟨[], (i + 1, l ++ [v], lp ++ [.agg (vcN v z1 lp5 zz2)], b5, t5, e5), ⟨hix, VPs_snoc hvp hv.vpN, by simp [hll], ?_, hz5, by show b5.length ≤ _; omega, ho5.e⟩, by show n - (i + 1) < n - i; omega, ?_⟩
        ·rw [hpre, show n - i = (n - (i + 1)) + 1 by omega]
         exact list_step ho5
        ·rw [wrap64 (n := (i : Int) + 1) (by omega) (by omega)]
         have hlt : List.take i lp = lp := List.take_of_length_le (by rw [VPs_len hvp]; omega)
         simp [meets, ghosts, St.le, St.get, look, keys, PV.labs, labsL, lookB, Blk.labs, hlt, vcN])
      ·have hix : i = n := by have := of_decide_eq_false h1; omega
       subst hix
       have hlt : List.take i (List.drop 0 lp) = lp := by rw [List.drop_zero, List.take_of_length_le (by rw [VPs_len hvp]; omega)]
       (conv => whnf); repeat ((first | (apply And.intro;· exact Cl3) | apply T1 | apply T2 | apply T3 | apply T4 | apply T6 | apply T5); conv => whnf)
       all_goals rw [hlt]
       all_goals rw [Nat.sub_self] at hpre
       all_goals (
        have he2 := list_end he4 hpre
        refine h (.mk 4 0 [] l []) b3 e3 t3 5 lp 0 ⟨hvp, .inl rfl, .inr rfl, ⟨by show (-9223372036854775808 : Int) ≤ 0; omega, by show (0 : Int) ≤ _; omega⟩⟩ (by simp; omega) hz4 ?_
        have hq : bodyP (parseV d) 4 r' = match cntP 32 r' with
         | .error e => .error e
         | .ok (n, r) => match listP (parseV d) n r with
          | .error e => .error e
          | .ok (l, r) => .ok (.mk 4 0 [] l [], r) := rfl
        rw [hpc, hq]
        rw [lift0] at ho
        rcases ho with ⟨ho, rfl⟩ | ⟨ho, ho2⟩
        ·rw [ho]
         simp only
         rw [lift0] at he2
         exact he2.map (fun h => by rw [h]) (fun e h => by rw [h])
        ·rw [ho]
         rw [liftE (is345_ne ho2)] at he2
         exact he2.map (fun h => by cases h) (fun e h => by cases h; rfl))
    ·(conv => whnf); repeat ((first | (apply And.intro;· exact Cl3) | apply T1 | apply T2 | apply T3 | apply T4 | apply T6 | apply T5); conv => whnf)
     refine fail_f z r' t' 4 _ rfl _ ?_
     (conv => whnf); repeat ((first | (apply And.intro;· exact Cl3) | apply T1 | apply T2 | apply T3 | apply T4 | apply T6 | apply T5); conv => whnf)
     refine counts_m z r' t' 0 8 (by omega) (.inl rfl) (.inl hz') hb1 _ (fun n b2 e2 ho hn t2 hne hb2 hz2 => ?_)
     (conv => whnf); repeat ((first | (apply And.intro;· exact Cl3) | apply T1 | apply T2 | apply T3 | apply T4 | apply T6 | apply T5); conv => whnf)
     refine ⟨Nat × List (List UInt8) × List V × List PV × List UInt8 × Bool × Int, fun x => ⟨110, [(91, .int .i64 x.1), (90, .int .i64 n), (4, .ptr 1 0), (1, .int .i64 w), (0, .ptr 0 0)],
       [(0, .box [.sl z (bs x.2.2.2.2.1) x.2.2.2.2.2.1 true, .int .i64 x.2.2.2.2.2.2]), (1, .box [.int .i64 5, .int .i64 0, .str [], .ref 5 3 0 x.1, .ref 1 2 0 x.1]), (2, .row 9 1 (strs x.2.1) false), (3, .row 25 5 x.2.2.2.1 false)], [0]⟩,
      fun x => x.1 ≤ n ∧ VPs x.2.2.1 x.2.2.2.1 ∧ x.2.2.1.length = x.1 ∧ x.2.1.length = x.1 ∧ lift e2 (recP (parseV d) n b2) = preR x.2.1 x.2.2.1 (lift x.2.2.2.2.2.2 (recP (parseV d) (n - x.1) x.2.2.2.2.1)) ∧ (z = 1 ∨ x.2.2.2.2.1 = []) ∧ x.2.2.2.2.1.length ≤ b2.length ∧ (x.2.2.2.2.2.2 = 0 ∨ is345 x.2.2.2.2.2.2), fun x => n - x.1,
      ⟨[.cell 1 4 9, .cell 1 3 25], (0, [], [], [], b2, t2, e2), ⟨Nat.zero_le _, rfl, rfl, rfl, by rw [preR_nil]; rfl, hz2, Nat.le_refl _, ho.e⟩, ?_⟩, fun x hI => ?_⟩
     ·simp [meets, ghosts, ghost, St.le, St.get, St.put, look, keys, PV.labs, labsL, lookB, Blk.labs, fresh, nth, updB, strs]
      repeat' apply And.intro
      all_goals rfl
     ·obtain ⟨i, ns, l, lp, b3, t3, e3⟩ := x
      obtain ⟨hi, hvp, hll, hnl, hpre, hz4, hb4, he4⟩ := hI
      simp only at hi hvp hll hnl hpre hz4 hb4 he4
      conv => (arg 5; dsimp only)
      (conv => whnf); repeat ((first | (apply And.intro;· exact Cl3) | apply T1 | apply T2 | apply T3 | apply T4 | apply T6 | apply T5); conv => whnf)
      refine ⟨fun h1 => ?_, fun h1 => ?_⟩
      ·have hix : i < n := by have := of_decide_eq_true h1; omega
       have hns : (strs ns).length = i := by rw [strs_len]; exact hnl
       (conv => whnf); repeat ((first | (apply And.intro;· exact Cl3) | apply T1 | apply T2 | apply T3 | apply T4 | apply T6 | apply T5); conv => whnf)
       refine ⟨List UInt8 × List UInt8 × Bool × Int, fun y => ⟨110, [(91, .int .i64 i), (90, .int .i64 n), (4, .ptr 1 0), (1, .int .i64 w), (0, .ptr 0 0)],
        [(0, .box [.sl z (bs y.2.1) y.2.2.1 true, .int .i64 y.2.2.2]), (1, .box [.int .i64 5, .int .i64 0, .str [], .ref 5 3 0 i, .ref 1 2 0 (i + 1)]), (2, .row 9 1 (strs (ns ++ [y.1])) false), (3, .row 25 5 lp false)], [0]⟩,
        fun y => Out (lift e3 (textP 16 b3)) y.1 y.2.1 y.2.2.2 ∧ y.2.1.length ≤ b3.length ∧ (z = 1 ∨ y.2.1 = []), ?_, fun y hy => ?_⟩
       ·(conv => whnf); repeat' (first | ((first | (apply And.intro;· exact Cl3) | apply T1 | apply T2 | apply T3 | apply T4 | apply T6 | apply T5); conv => whnf) | (refine text_m z b3 t3 e3 16 (by omega) he4 hz4 (by omega) _ (fun s b4 e4 ho4 t4 hbb4 hz5 => ?_); conv => whnf) | (refine ⟨by show (i + 1) * 17 ≤ 70368744177664; omega, ?_⟩; conv => whnf) | ((refine Both.mk ?_ ?_ <;> fail_if_success (intro _)) <;> conv => whnf))
        all_goals (
         refine ⟨[], (s, b4, t4, e4), ⟨ho4, hbb4, hz5⟩, ?_⟩
         have hlt2 : List.take i (List.map PV.str ns) = List.map PV.str ns := List.take_of_length_le (by simp; omega)
         simp [meets, ghosts, St.le, St.get, look, keys, PV.labs, labsL, lookB, Blk.labs, hlt2, vcN, strs])
       obtain ⟨s, b4, t4, e4⟩ := y
       obtain ⟨ho4, hbb4, hz5⟩ := hy
       simp only at ho4 hbb4 hz5
       have hnsl : (strs (ns ++ [s])).length = i + 1 := by rw [strs_len]; simp; omega
       conv => (arg 4; dsimp only)
       ((conv => whnf); repeat' (first | ((first | (apply And.intro;· exact Cl3) | apply T1 | apply T2 | apply T3 | apply T4 | apply T6 | apply T5); conv => whnf) | (refine within_m d (by omega) IH b4 e4 z t4 w hw ho4.e hz5 (by omega) _ (fun v b5 e5 t5 z1 lp5 zz2 hv hb5 hz5 ho5 => ?_); conv => whnf) | (refine ⟨by show (i + 1) * 81 ≤ 70368744177664; omega, ?_⟩; conv => whnf) | ((refine Both.mk ?_ ?_ <;> fail_if_success (intro _)) <;> conv => whnf)))
       all_goals (
        refine ⟨[], (i + 1, ns ++ [s], l ++ [v], lp ++ [.agg (vcN v z1 lp5 zz2)], b5, t5, e5), ⟨hix, VPs_snoc hvp hv.vpN, by simp [hll], by simp [hnl], ?_, by assumption, by show b5.length ≤ _; omega, ho5.e⟩, by show n - (i + 1) < n - i; omega, ?_⟩
        ·rw [hpre, show n - i = (n - (i + 1)) + 1 by omega]
         exact rec_stepV ho4 ho5
        ·rw [wrap64 (n := (i : Int) + 1) (by omega) (by omega)]
         have hlt : List.take i lp = lp := List.take_of_length_le (by rw [VPs_len hvp]; omega)
         simp [meets, ghosts, St.le, St.get, look, keys, PV.labs, labsL, lookB, Blk.labs, hlt, vcN, strs])
      ·have hix : i = n := by have := of_decide_eq_false h1; omega
       subst hix
       have hns : (strs ns).length = i := by rw [strs_len]; exact hnl
       have hlt : List.take i (List.drop 0 lp) = lp := by rw [List.drop_zero, List.take_of_length_le (by rw [VPs_len hvp]; omega)]
       have hlt2 : List.take i (List.drop 0 (strs ns)) = strs ns := by rw [List.drop_zero, List.take_of_length_le (by omega)]
       (conv => whnf); repeat ((first | (apply And.intro;· exact Cl3) | apply T1 | apply T2 | apply T3 | apply T4 | apply T6 | apply T5); conv => whnf)
       all_goals rw [hlt, hlt2]
       all_goals rw [Nat.sub_self] at hpre
       all_goals (
        have he2 := rec_end he4 hpre
        refine h (.mk 5 0 [] l ns) b3 e3 t3 5 lp 1 ⟨hvp, .inl rfl, .inl rfl, ⟨by show (-9223372036854775808 : Int) ≤ 0; omega, by show (0 : Int) ≤ _; omega⟩⟩ (by simp; omega) hz4 ?_
        have hq : bodyP (parseV d) 5 r' = match cntP 8 r' with
         | .error e => .error e
         | .ok (n, r) => match recP (parseV d) n r with
          | .error e => .error e
          | .ok ((ns, l), r) => .ok (.mk 5 0 [] l ns, r) := rfl
        rw [hpc, hq]
        rw [lift0] at ho
        rcases ho with ⟨ho, rfl⟩ | ⟨ho, ho2⟩
        ·rw [ho]
         simp only
         rw [lift0] at he2
         exact he2.map (fun h => by rw [h]) (fun e h => by rw [h])
        ·rw [ho]
         rw [liftE (is345_ne ho2)] at he2
         exact he2.map (fun h => by cases h) (fun e h => by cases h; rfl))
    ·(conv => whnf); repeat ((first | (apply And.intro;· exact Cl3) | apply T1 | apply T2 | apply T3 | apply T4 | apply T6 | apply T5); conv => whnf)
     refine fail_f z r' t' 4 _ rfl _ ?_
     (conv => whnf); repeat ((first | (apply And.intro;· exact Cl3) | apply T1 | apply T2 | apply T3 | apply T4 | apply T6 | apply T5); conv => whnf)
     refine byte_c z r' t' 0 (.inl hz') hb1 _ (fun e2 he2 t2 b2 hb2 hz2 => ?_) (fun x r2 hx _ t2 _ => ?_)
     ·(conv => whnf); repeat ((first | (apply And.intro;· exact Cl3) | apply T1 | apply T2 | apply T3 | apply T4 | apply T6 | apply T5); conv => whnf)
      have hn := takeP_err he2
      subst hn
      refine h (.mk 6 0 [] [] []) b2 3 t2 0 [] 0 ⟨rfl, .inr rfl, .inr rfl, ⟨by show (-9223372036854775808 : Int) ≤ 0; omega, by show (0 : Int) ≤ _; omega⟩⟩ (by simp; omega) hz2 (.inr ⟨?_, .inl rfl⟩)
      rw [hpc, bodyP, if_neg (by decide), if_neg (by decide), if_neg (by decide), if_neg (by decide), if_neg (by decide), if_neg (by decide)]
      rw [lift0] at he2
      rw [he2]
     ·subst hx
      (conv => whnf); repeat ((first | (apply And.intro;· exact Cl3) | apply T1 | apply T2 | apply T3 | apply T4 | apply T6 | apply T5); conv => whnf)
      have hx8 := x.toNat_lt
      have ht : takeP 1 (x :: r2) = .ok ([x], r2) := by rw [takeP, if_neg (by simp)]; rfl
      have hbo : bodyP (parseV d) 6 (x :: r2) = .ok (.mk 6 x.toNat [] [] [], r2) := by
       rw [bodyP, if_neg (by decide), if_neg (by decide), if_neg (by decide), if_neg (by decide), if_neg (by decide), if_neg (by decide), ht]; rfl
      rw [hbo] at hpc
      exact h (.mk 6 x.toNat [] [] []) r2 0 t2 0 [] 0 ⟨rfl, .inr rfl, .inr rfl, ⟨by show (-9223372036854775808 : Int) ≤ x.toNat; omega, by show (x.toNat : Int) ≤ _; omega⟩⟩ (by simp; omega) (.inl hz') (.inl ⟨hpc, rfl⟩)
end Go.Vc
namespace Go.Vc
open Go Go.Proofs
set_option maxRecDepth 100000
theorem sclone_spec (a : List UInt8) (z : Nat) (t : Bool) (ha : a.length ≤ 1000000000) (Post : PV → List (Nat × Blk) → Prop) (h : ∀ z, (z = 1 ∨ a = []) → Post (.sl z (bs a) false true) []) : Spec K 43 [.sl z (bs a) t true] [] Post := by
 refine is43.specW K_ok K_mix false (by simp) (by simp [keys]) ?_
 (conv => whnf); repeat ((apply And.intro;· exact Cl1); conv => whnf)
 intro bb hb
 (conv => whnf); repeat ((apply And.intro;· exact Cl1); conv => whnf)
 refine ⟨fun hc => ?_, fun hc => ?_⟩
 ·have := isnil hb hc
  subst this
  (conv => whnf); repeat ((apply And.intro;· exact Cl1); conv => whnf)
  exact h _ (.inr rfl)
 ·(conv => whnf); repeat ((apply And.intro;· exact Cl1); conv => whnf)
  refine ⟨by rw [bs_len]; show (0 + a.length) * 2 ≤ _; omega, ?_⟩
  (conv => whnf); repeat ((apply And.intro;· exact Cl1); conv => whnf)
  rw [show List.take (0 + (bs a).length) (List.drop 0 (List.take 0 [] ++ bs a)) = bs a by simp]
  exact h 1 (.inl rfl)
def takeV (b : List UInt8) : Except Int (V × List UInt8) :=
 match parseV 8 b with
 | .error e => .error e
 | .ok (v, r) => if mayV v then .ok (v, r) else .error 2
def OutZ {α : Type} (zero : α) (p : Except Int (α × List UInt8)) (a : α) (b : List UInt8) (e : Int) : Prop := p = .ok (a, b) ∧ e = 0 ∨ p = .error e ∧ e ≠ 0 ∧ a = zero ∧ b = []
theorem VO.va {v : V} {z1 : Nat} {lp : List PV} {z2 : Nat} (h : VO v z1 lp z2) (hb : bulkV v ≤ 100000000000) : VA v z1 lp z2 := ⟨h.l, h.z1, h.z2, h.n, hb⟩
set_option maxHeartbeats 4000000 in
theorem takeV_p (b : List UInt8) (z : Nat) (t : Bool) (hz : z = 1 ∨ b = []) (hb : b.length ≤ 1000000000) (Post : PV → List (Nat × Blk) → Prop)
  (h : ∀ v r e z1 lp z2 z, VO v z1 lp z2 → (z = 1 ∨ r = []) → OutZ V0 (takeV b) v r e → Post (.tup [.agg (vcN v z1 lp z2), .sl z (bs r) false true, .int .i64 e]) []) : Spec K 21 [.sl z (bs b) t true] [] Post := by
 refine is21.specM K_ok K_mix false (by simp) (by simp [keys]) ?_
 (conv => whnf); repeat ((first | (apply And.intro;· exact Cl3) | apply T1 | apply T2 | apply T3 | apply T4 | apply T6 | apply T5); conv => whnf)
 refine value_tape 8 (by omega) b z t 0 rfl hz hb _ (fun v b' e' t' z1 lp z2 hv hb' hz' ho => ?_)
 (conv => whnf); repeat ((first | (apply And.intro;· exact Cl3) | apply T1 | apply T2 | apply T3 | apply T4 | apply T6 | apply T5); conv => whnf)
 rcases ho with ⟨ho, rfl⟩ | ⟨ho, he⟩
 ·(conv => whnf); repeat ((first | (apply And.intro;· exact Cl3) | apply T1 | apply T2 | apply T3 | apply T4 | apply T6 | apply T5); conv => whnf)
  have hbk := parse_bulk _ _ _ _ ho
  refine check_spec v z1 z2 lp _ _ _ (hv.va (by omega)) ?_
  cases hm : mayV v
  ·(conv => whnf); repeat ((first | (apply And.intro;· exact Cl3) | apply T1 | apply T2 | apply T3 | apply T4 | apply T6 | apply T5); conv => whnf)
   (conv => whnf); repeat' (first | ((first | (apply And.intro;· exact Cl3) | apply T1 | apply T2 | apply T3 | apply T4 | apply T6 | apply T5); conv => whnf) | (fail; conv => whnf) | ((refine Both.mk ?_ ?_ <;> fail_if_success (intro _)) <;> conv => whnf))
   all_goals exact h V0 [] 2 0 [] 0 _ VO0 (.inr rfl) (.inr ⟨by rw [takeV, ho]; simp [hm], by decide, rfl, rfl⟩)
  ·(conv => whnf); repeat ((first | (apply And.intro;· exact Cl3) | apply T1 | apply T2 | apply T3 | apply T4 | apply T6 | apply T5); conv => whnf)
   (conv => whnf); repeat' (first | ((first | (apply And.intro;· exact Cl3) | apply T1 | apply T2 | apply T3 | apply T4 | apply T6 | apply T5); conv => whnf) | (refine sclone_spec b' z t' (by omega) _ (fun z3 hz3 => ?_); conv => whnf) | ((refine Both.mk ?_ ?_ <;> fail_if_success (intro _)) <;> conv => whnf))
   all_goals exact h v b' 0 z1 lp z2 z3 hv hz3 (.inl ⟨by rw [takeV, ho]; simp [hm], rfl⟩)
 ·have h1 : (e' == 0) = false := by simpa using is345_ne he
  have h2 : (e' != 0) = true := by simpa using is345_ne he
  rw [h1]
  (conv => whnf); repeat ((first | (apply And.intro;· exact Cl3) | apply T1 | apply T2 | apply T3 | apply T4 | apply T6 | apply T5); conv => whnf)
  rw [h2]
  (conv => whnf); repeat ((first | (apply And.intro;· exact Cl3) | apply T1 | apply T2 | apply T3 | apply T4 | apply T6 | apply T5); conv => whnf)
  (conv => whnf); repeat' (first | ((first | (apply And.intro;· exact Cl3) | apply T1 | apply T2 | apply T3 | apply T4 | apply T6 | apply T5); conv => whnf) | (fail; conv => whnf) | ((refine Both.mk ?_ ?_ <;> fail_if_success (intro _)) <;> conv => whnf))
  all_goals exact h V0 [] e' 0 [] 0 _ VO0 (.inr rfl) (.inr ⟨by rw [takeV, ho], is345_ne he, rfl, rfl⟩)
end Go.Vc
