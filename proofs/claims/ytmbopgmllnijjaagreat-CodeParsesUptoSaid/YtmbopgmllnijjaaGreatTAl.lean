/- What is proved here: contracts of functions of the program: of each function what it hands back and what it leaves in memory. Conditions: those that each theorem names. -/
import Derived.Test.YtmbopgmllnijjaaGreatTAh
import Derived.Test.YtmbopgmllnijjaaGreatTAi
import Derived.Test.YtmbopgmllnijjaaGreatTAj
import Derived.Test.YtmbopgmllnijjaaGreatTAk
set_option linter.unusedVariables false
set_option linter.unusedSimpArgs false
set_option linter.unusedSectionVars false
namespace Go.Vc
open Go Go.Proofs
set_option maxRecDepth 100000
def len (v : Nat) : Nat := if v = 0 then 0 else v.log2 + 1
theorem fdivN (v k : Nat) : Int.fdiv (v : Int) (2 ^ k) = ((v / 2 ^ k : Nat) : Int) := by
 rw [Int.fdiv_eq_ediv_of_nonneg _ (Int.pow_nonneg (by omega))]
 simp
theorem fd (v k : Nat) (x : Int) (kd : IntKind) (h : min x.toNat kd.bits = k) : Int.fdiv (v : Int) (2 ^ min x.toNat kd.bits) = ((v / 2 ^ k : Nat) : Int) := by rw [h]; exact fdivN v k
theorem wrapB (v : Nat) : IntKind.u8.wrap (v : Int) = ((UInt8.ofNat v).toNat : Int) := by
 have h2 : (UInt8.ofNat v).toNat = v % 256 := rfl
 rw [h2]
 simp only [IntKind.wrap, IntKind.bits, IntKind.signed, Bool.false_and, Bool.false_eq_true, if_false]
 omega
end Go.Vc
namespace Go.Vc
open Go Go.Proofs
set_option maxRecDepth 100000
theorem isnil {a : List UInt8} {bb : Bool} (hb : bs a ≠ [] → bb = false) (h : bb = true) : a = [] := by
 cases a with
 | nil => rfl
 | cons c r => rw [hb (by simp [bs])] at h; cases h
def horner (v : Nat) (xs : List UInt8) : Nat := xs.foldl (fun v x => v * 256 + x.toNat) v
theorem bs_take (a : List UInt8) (n : Nat) : (bs a).take n = bs (a.take n) := by simp [bs, List.map_take]
theorem bs_drop (a : List UInt8) (n : Nat) : (bs a).drop n = bs (a.drop n) := by simp [bs, List.map_drop]
end Go.Vc
namespace Go.Vc
open Go Go.Proofs
set_option maxRecDepth 100000
theorem wrap64hi {n : Int} (h0 : 9223372036854775808 ≤ n) (h1 : n < 18446744073709551616) : IntKind.i64.wrap n = n - 18446744073709551616 := by
 simp only [IntKind.wrap, IntKind.bits, IntKind.signed]
 have : n % 2 ^ 64 = n := Int.emod_eq_of_lt (by omega) (by omega)
 simp only [this, Bool.true_and, decide_eq_true_eq]
 rw [if_pos (by omega)]; rfl
end Go.Vc
namespace Go.Vc
open Go Go.Proofs
set_option maxRecDepth 100000
theorem str_bs (a : List UInt8) : (bs a).map PV.u8 = a := by
 unfold bs
 rw [List.map_map]
 conv => rhs; rw [← List.map_id a]
 refine List.map_congr_left fun c _ => ?_
 show UInt8.ofNat ((c.toNat : Int)).toNat = c
 rw [Int.toNat_natCast, UInt8.ofNat_toNat]
theorem bs_int (a : List UInt8) : ∀ u ∈ bs a, ∃ n, u = .int .u8 n := fun u hu => by
 obtain ⟨c, _, rfl⟩ := List.mem_map.1 hu
 exact ⟨_, rfl⟩
end Go.Vc
namespace Go.Vc
open Go Go.Proofs
set_option maxRecDepth 100000
end Go.Vc
namespace Go.Vc
open Go Go.Proofs
set_option maxRecDepth 100000
def i64 (n : Int) : Prop := -9223372036854775808 ≤ n ∧ n ≤ 9223372036854775807
inductive V where
 | mk (k n : Int) (s : List UInt8) (l : List V) (ns : List (List UInt8))
def V.k : V → Int | .mk k _ _ _ _ => k
def V.n : V → Int | .mk _ n _ _ _ => n
def V.s : V → List UInt8 | .mk _ _ s _ _ => s
def V.l : V → List V | .mk _ _ _ l _ => l
def V.ns : V → List (List UInt8) | .mk _ _ _ _ ns => ns
def strs (ns : List (List UInt8)) : List PV := ns.map PV.str
mutual
def VP : V → PV → Prop
 | .mk k n s l ns, p => ∃ z1 lp t1 o1 z2 t2 o2, p = .agg [.int .i64 k, .int .i64 n, .str s, .sl z1 lp t1 o1, .sl z2 (strs ns) t2 o2] ∧ VPs l lp ∧ (z1 = 5 ∨ l = []) ∧ (z2 = 1 ∨ ns = []) ∧ i64 n
def VPs : List V → List PV → Prop
 | [], lp => lp = []
 | v :: r, lp => ∃ p q, lp = p :: q ∧ VP v p ∧ VPs r q
end
theorem VP.out : ∀ {v : V} {p : PV}, VP v p → ∃ z1 lp t1 o1 z2 t2 o2, p = .agg [.int .i64 v.k, .int .i64 v.n, .str v.s, .sl z1 lp t1 o1, .sl z2 (strs v.ns) t2 o2] ∧ VPs v.l lp ∧ (z1 = 5 ∨ v.l = []) ∧ (z2 = 1 ∨ v.ns = []) ∧ i64 v.n
 | .mk _ _ _ _ _, _, h => h
theorem V.eta : ∀ v : V, V.mk v.k v.n v.s v.l v.ns = v
 | .mk _ _ _ _ _ => rfl
theorem VPs_len : ∀ {l : List V} {lp : List PV}, VPs l lp → lp.length = l.length
 | [], lp, h => by simp only [VPs] at h; subst h; rfl
 | v :: r, lp, h => by
  simp only [VPs] at h
  obtain ⟨p, q, rfl, _, h2⟩ := h
  simp [VPs_len h2]
theorem VPs_nth : ∀ {l : List V} {lp : List PV}, VPs l lp → ∀ {i : Nat} (hi : i < l.length), VP l[i] (nth lp i)
 | v :: r, lp, h, 0, hi => by
  simp only [VPs] at h
  obtain ⟨p, q, rfl, h1, _⟩ := h
  exact h1
 | v :: r, lp, h, i + 1, hi => by
  simp only [VPs] at h
  obtain ⟨p, q, rfl, _, h2⟩ := h
  exact VPs_nth h2 (i := i) (by simpa using hi)
theorem strs_len (ns : List (List UInt8)) : (strs ns).length = ns.length := by simp [strs]
theorem nth_strs {ns : List (List UInt8)} {i : Nat} (h : i < ns.length) : nth (strs ns) i = .str ns[i] := by
 unfold nth strs
 rw [List.getD_eq_getElem?_getD, List.getElem?_map, List.getElem?_eq_getElem h]; rfl
theorem bare_spec (a b c : Bool) (k n : Int) (s : List UInt8) (z1 z2 : Nat) (lp np : List PV) (t1 t2 : Bool) (Post : PV → List (Nat × Blk) → Prop)
  (h : Post (.bool ((a || s.isEmpty) && (b || lp.isEmpty) && (c || np.isEmpty))) []) :
  Spec K 116 [.agg [.bool a, .bool b, .bool c], .agg [.int .i64 k, .int .i64 n, .str s, .sl z1 lp t1 true, .sl z2 np t2 true]] [] Post := by
 refine is116.specW K_ok K_mix false (by simp) (by simp [keys]) ?_
 (conv => whnf); repeat ((apply And.intro;· exact Cl1); conv => whnf)
 refine (congrArg (fun r => Post (.bool r) []) ?_).mpr h
 have e1 : (s == ({ data := #[] } : ByteArray).data.toList) = s.isEmpty := by cases s <;> rfl
 have e2 : ∀ l : List PV, ((l.length : Int) == 0) = l.isEmpty := fun l => by cases l <;> simp; omega
 rw [e1, e2, e2]
 cases a <;> cases b <;> cases c <;> simp
def inName (first : Bool) (c : UInt8) : Bool := (decide (97 ≤ c.toNat) && decide (c.toNat ≤ 122)) || (!first && (c.toNat == 95 || (decide (48 ≤ c.toNat) && decide (c.toNat ≤ 57))))
def inNames : Bool → List UInt8 → Bool
 | _, [] => true
 | f, c :: r => inName f c && inNames false r
def isName (s : List UInt8) : Bool := !s.isEmpty && decide (s.length ≤ 16) && inNames true s
theorem inName_eq (i : Nat) (x : Nat) (c : UInt8) (hx : x = c.toNat) : (bif !bif decide (97 ≤ (x : Int)) then decide ((x : Int) ≤ 122) else false then
     bif (i : Int) == 0 then true
     else
      bif (x : Int) != 95 then bif decide ((x : Int) < 48) then true else decide (57 < (x : Int)) else false
    else false) = !inName (i == 0) c := by
 subst hx
 have e0 : ((i : Int) == 0) = (i == 0) := by cases i <;> simp; omega
 have e1 : decide (97 ≤ (c.toNat : Int)) = decide (97 ≤ c.toNat) := decide_eq_decide.2 (by omega)
 have e2 : decide ((c.toNat : Int) ≤ 122) = decide (c.toNat ≤ 122) := decide_eq_decide.2 (by omega)
 have e3 : ((c.toNat : Int) != 95) = !(c.toNat == 95) := by
  have : ((c.toNat : Int) == 95) = (c.toNat == 95) := by rw [Bool.eq_iff_iff]; simp; omega
  rw [bne, this]
 have e4 : decide ((c.toNat : Int) < 48) = !decide (48 ≤ c.toNat) := by
  rw [Bool.eq_iff_iff]; simp; omega
 have e5 : decide (57 < (c.toNat : Int)) = !decide (c.toNat ≤ 57) := by
  rw [Bool.eq_iff_iff]; simp; omega
 rw [e0, e1, e2, e3, e4, e5]
 unfold inName
 cases decide (97 ≤ c.toNat) <;> cases decide (c.toNat ≤ 122) <;> cases (i == 0) <;> cases (c.toNat == 95) <;> cases decide (48 ≤ c.toNat) <;> cases decide (c.toNat ≤ 57) <;> rfl
theorem named_spec (s : List UInt8) (Post : PV → List (Nat × Blk) → Prop) (h : Post (.bool (isName s)) []) : Spec K 133 [.str s] [] Post := by
 refine is133.specW K_ok K_mix false (by simp) (by simp [keys]) ?_
 (conv => whnf); repeat ((apply And.intro;· exact Cl1); conv => whnf)
 have e1 : (s == ({ data := #[] } : ByteArray).data.toList) = s.isEmpty := by cases s <;> rfl
 rw [e1]
 refine ⟨fun hc => ?_, fun hc => ?_⟩
 ·(conv => whnf); repeat ((apply And.intro;· exact Cl1); conv => whnf)
  have : isName s = false := by
   unfold isName
   cases he : s.isEmpty with
   | true => rfl
   | false =>
    rw [he] at hc
    have : 16 < (s.length : Int) := of_decide_eq_true hc
    have : ¬ s.length ≤ 16 := by omega
    simp [this]
  rwa [this] at h
 ·have hne : s.isEmpty = false := by cases he : s.isEmpty with | true => rw [he] at hc; cases hc | false => rfl
  have hlen : s.length ≤ 16 := by
   rw [hne] at hc
   have : ¬ 16 < (s.length : Int) := of_decide_eq_false hc
   omega
  have hnm : isName s = inNames true s := by simp [isName, hne, hlen]
  rw [hnm] at h
  (conv => whnf); repeat ((apply And.intro;· exact Cl1); conv => whnf)
  refine ⟨by omega, rfl, ?_⟩
  (conv => whnf); repeat ((apply And.intro;· exact Cl1); conv => whnf)
  rw [show s.map (fun c => PV.int .u8 c.toNat) = bs s from rfl]
  refine ⟨Nat, fun i => ⟨46, [(16, .int .i64 i), (15, .int .i64 s.length), (14, .sl 1 (bs s) false false), (2, .bool false)], [], []⟩, fun i => i ≤ s.length ∧ inNames true s = inNames (i == 0) (s.drop i), fun i => s.length - i,
   ⟨[], 0, ⟨Nat.zero_le _, rfl⟩, ?_⟩, fun i ⟨hi, hin⟩ => ?_⟩
  ·simp [meets, ghosts, St.le, St.get, look, keys, PV.labs, labsL, bs_len]
  ·(conv => whnf); repeat ((apply And.intro;· exact Cl1); conv => whnf)
   refine ⟨fun h1 => ?_, fun h1 => ?_⟩
   ·have hix : i < s.length := by have := of_decide_eq_true h1; omega
    (conv => whnf); repeat ((apply And.intro;· exact Cl1); conv => whnf)
    refine ⟨fun _ => ⟨by omega, by rw [bs_len]; omega⟩, ?_⟩
    (conv => whnf); repeat ((apply And.intro;· exact Cl1); conv => whnf)
    rw [Int.toNat_natCast, nth_bs hix]
    (conv => whnf); repeat ((apply And.intro;· exact Cl1); conv => whnf)
    rw [inName_eq i _ s[i] rfl]
    have hdr : s.drop i = s[i] :: s.drop (i + 1) := List.drop_eq_getElem_cons hix
    refine ⟨fun h2 => ?_, fun h2 => ?_⟩
    ·(conv => whnf); repeat ((apply And.intro;· exact Cl1); conv => whnf)
     rw [hin, hdr] at h
     have : inName (i == 0) s[i] = false := by simpa using h2
     rw [inNames, this] at h
     exact h
    ·(conv => whnf); repeat ((apply And.intro;· exact Cl1); conv => whnf)
     have : inName (i == 0) s[i] = true := by simpa using h2
     rw [wrap64 (by omega) (by omega)]
     refine ⟨[], i + 1, ⟨hix, ?_⟩, by show s.length - (i + 1) < s.length - i; omega, ?_⟩
     ·rw [hin, hdr, inNames, this]; simp
     ·simp [meets, ghosts, St.le, St.get, look, keys, PV.labs, labsL]
   ·have hix : i = s.length := by have := of_decide_eq_false h1; omega
    (conv => whnf); repeat ((apply And.intro;· exact Cl1); conv => whnf)
    rw [hin, hix, List.drop_length] at h
    exact h
end Go.Vc
namespace Go.Vc
open Go Go.Proofs
set_option maxRecDepth 100000
def rise : List UInt8 → List (List UInt8) → Bool
 | _, [] => true
 | last, s :: r => !(Op.bytesLess s last || s == last) && isName s && rise s r
theorem rising_spec (ns : List (List UInt8)) (z : Nat) (t : Bool) (hz : z = 1 ∨ ns = []) (hl : ns.length ≤ 1000000000000) (Post : PV → List (Nat × Blk) → Prop) (h : Post (.bool (rise [] ns)) []) : Spec K 117 [.sl z (strs ns) t true] [] Post := by
 refine is117.specW K_ok K_mix false (by simp) (by simp [keys]) ?_
 have hz2 : z = 1 ∨ strs ns = [] := hz.imp (fun h => h) fun h => by rw [h]; rfl
 (conv => whnf); repeat ((apply And.intro;· exact Cl1); conv => whnf)
 refine ⟨Nat × List UInt8, fun x => ⟨22, [(8, .int .i64 x.1), (7, .int .i64 ns.length), (6, .sl z (strs ns) t true), (3, .str x.2), (2, .bool false)], [], []⟩, fun x => x.1 ≤ ns.length ∧ rise [] ns = rise x.2 (ns.drop x.1), fun x => ns.length - x.1,
  ⟨[], (0, []), ⟨Nat.zero_le _, rfl⟩, ?_⟩, fun ⟨i, last⟩ ⟨hi, hin⟩ => ?_⟩
 ·simp [meets, ghosts, St.le, St.get, look, keys, PV.labs, labsL, strs_len]
 ·(conv => whnf); repeat ((apply And.intro;· exact Cl1); conv => whnf)
  refine ⟨fun h1 => ?_, fun h1 => ?_⟩
  ·have hix : i < ns.length := by have := of_decide_eq_true h1; omega
   have hdr : ns.drop i = ns[i] :: ns.drop (i + 1) := List.drop_eq_getElem_cons hix
   (conv => whnf); repeat ((apply And.intro;· exact Cl1); conv => whnf)
   refine ⟨hz2, fun _ => ⟨by omega, by rw [strs_len]; omega⟩, ?_⟩
   (conv => whnf); repeat ((apply And.intro;· exact Cl1); conv => whnf)
   rw [Int.toNat_natCast, nth_strs hix]
   (conv => whnf); repeat ((apply And.intro;· exact Cl1); conv => whnf)
   refine ⟨fun _ hL => ?_, fun hL => ?_⟩
   ·rw [hL]
    (conv => whnf); repeat ((apply And.intro;· exact Cl1); conv => whnf)
    refine named_spec ns[i] _ ?_
    (conv => whnf); repeat ((apply And.intro;· exact Cl1); conv => whnf)
    refine ⟨fun h2 => ?_, fun h2 => ?_⟩
    ·have hnm : isName ns[i] = false := by simpa using h2
     (conv => whnf); repeat ((apply And.intro;· exact Cl1); conv => whnf)
     simp only [hdr] at hin
     rw [hin] at h
     simpa [rise, hnm] using h
    ·have hnm : isName ns[i] = true := by simpa using h2
     (conv => whnf); repeat ((apply And.intro;· exact Cl1); conv => whnf)
     rw [wrap64 (by omega) (by omega)]
     refine ⟨[], (i + 1, ns[i]), ⟨hix, ?_⟩, by show ns.length - (i + 1) < ns.length - i; omega, ?_⟩
     ·simp only [hdr] at hin
      rw [hin, rise, hnm, hL]; rfl
     ·simp [meets, ghosts, St.le, St.get, look, keys, PV.labs, labsL]
   ·have hL' := hL rfl
    rw [hL']
    (conv => whnf); repeat ((apply And.intro;· exact Cl1); conv => whnf)
    refine ⟨fun h2 => ?_, fun h2 => by cases h2⟩
    (conv => whnf); repeat ((apply And.intro;· exact Cl1); conv => whnf)
    simp only [hdr] at hin
    have hL2 : (Op.bytesLess ns[i] last || ns[i] == last) = true := hL'
    rw [hin, rise, hL2] at h
    exact h
  ·have hix : i = ns.length := by have := of_decide_eq_false h1; omega
   (conv => whnf); repeat ((apply And.intro;· exact Cl1); conv => whnf)
   simp only [hix, List.drop_length] at hin
   rw [hin] at h
   exact h
end Go.Vc
namespace Go.Vc
open Go Go.Proofs
set_option maxRecDepth 100000
def ownB (k n : Int) (s : List UInt8) (ll : Nat) (ns : List (List UInt8)) : Bool :=
 if k = 0 then n == 0 && (s.isEmpty && ll == 0 && ns.isEmpty)
 else if k = 1 then s.isEmpty && ll == 0 && ns.isEmpty
 else if k = 2 then (n == 0 || n == 1) && (s.isEmpty && ll == 0 && ns.isEmpty)
 else if k = 6 then (decide (1 ≤ n) && decide (n ≤ 64)) && (s.isEmpty && ll == 0 && ns.isEmpty)
 else if k = 3 then n == 0 && decide (s.length ≤ 64) && (ll == 0 && ns.isEmpty)
 else if k = 4 then n == 0 && decide (ll ≤ 32) && (s.isEmpty && ns.isEmpty)
 else if k = 5 then n == 0 && ll == ns.length && decide (ll ≤ 8) && s.isEmpty && rise [] ns
 else false
theorem clearB (x : BitVec 64) : x &&& ~~~ (1#64) = (x >>> 1) <<< 1 := by
 apply BitVec.eq_of_getLsbD_eq
 intro i hi
 rw [BitVec.getLsbD_and, BitVec.getLsbD_not, BitVec.getLsbD_shiftLeft, BitVec.getLsbD_ushiftRight, BitVec.getLsbD_one]
 rcases i with _ | i
 ·simp
 ·have h1 : 1 + (i + 1 - 1) = i + 1 := by omega
  rw [h1]
  simp [hi]
theorem clear1 (n : Int) (hn : -9223372036854775808 ≤ n ∧ n ≤ 9223372036854775807) : (bitsI .andNot .i64 n 1 == 0) = (n == 0 || n == 1) := by
 have hx : (BitVec.ofInt 64 n).toNat = (n % 18446744073709551616).toNat := by simp [BitVec.toNat_ofInt]
 have e : bitsI .andNot .i64 n 1 = IntKind.i64.wrap (((BitVec.ofInt 64 n).toNat / 2 * 2 : Nat) : Int) := by
  unfold bitsI
  show IntKind.i64.wrap ((BitVec.ofInt 64 n &&& ~~~ (1#64)).toNat : Int) = _
  rw [clearB, BitVec.toNat_shiftLeft, BitVec.toNat_ushiftRight, Nat.shiftLeft_eq, Nat.shiftRight_eq_div_pow]
  have := (BitVec.ofInt 64 n).isLt
  congr 2
  omega
 rw [e, hx, Bool.eq_iff_iff]
 generalize hm : (n % 18446744073709551616).toNat / 2 * 2 = m
 have hm2 : m < 18446744073709551616 := by omega
 have hw : (IntKind.i64.wrap (m : Int) = 0) ↔ m = 0 := by
  by_cases hs : m < 9223372036854775808
  ·rw [wrap64 (by omega) (by omega)]; omega
  ·rw [wrap64hi (by omega) (by omega)]; omega
 simp only [beq_iff_eq, Bool.or_eq_true, hw]
 omega
set_option maxHeartbeats 8000000 in
theorem own_spec (k n : Int) (s : List UInt8) (z1 z2 : Nat) (lp : List PV) (ns : List (List UInt8)) (t1 t2 : Bool) (hz : z2 = 1 ∨ ns = []) (hn : ns.length ≤ 1000000000000) (hn2 : -9223372036854775808 ≤ n ∧ n ≤ 9223372036854775807) (Post : PV → List (Nat × Blk) → Prop)
  (h : Post (.bool (ownB k n s lp.length ns)) []) : Spec K 93 [.agg [.int .i64 k, .int .i64 n, .str s, .sl z1 lp t1 true, .sl z2 (strs ns) t2 true]] [] Post := by
 refine is93.specW K_ok K_mix false (by simp) (by simp [keys]) ?_
 have es : ∀ l : List PV, l.isEmpty = (l.length == 0) := fun l => by cases l <;> rfl
 have en : (strs ns).isEmpty = ns.isEmpty := by cases ns <;> rfl
 (conv => whnf); repeat ((apply And.intro;· exact Cl1); conv => whnf)
 refine ⟨fun h0 => ?_, fun h0 => ?_⟩
 ·have h0' : k = 0 := by simpa using h0
  subst h0'
  (conv => whnf); repeat ((apply And.intro;· exact Cl1); conv => whnf)
  refine ⟨fun _ h1 => ?_, fun h1 => ?_⟩
  ·rw [h1]
   (conv => whnf); repeat ((apply And.intro;· exact Cl1); conv => whnf)
   refine bare_spec false false false 0 n s z1 z2 lp (strs ns) t1 t2 _ ?_
   (conv => whnf); repeat ((apply And.intro;· exact Cl1); conv => whnf)
   refine (congrArg (fun r => Post (.bool r) []) ?_).mpr h
   rw [es, en]
   simp [ownB, h1]
  ·have h1' := h1 rfl
   rw [h1']
   (conv => whnf); repeat ((apply And.intro;· exact Cl1); conv => whnf)
   refine (congrArg (fun r => Post (.bool r) []) ?_).mpr h
   simp [ownB, h1']
 ·have h0' : k ≠ 0 := by simpa using h0
  (conv => whnf); repeat ((apply And.intro;· exact Cl1); conv => whnf)
  refine ⟨fun h2 => ?_, fun h2 => ?_⟩
  ·have h2' : k = 1 := by simpa using h2
   subst h2'
   (conv => whnf); repeat ((apply And.intro;· exact Cl1); conv => whnf)
   refine bare_spec false false false 1 n s z1 z2 lp (strs ns) t1 t2 _ ?_
   (conv => whnf); repeat ((apply And.intro;· exact Cl1); conv => whnf)
   refine (congrArg (fun r => Post (.bool r) []) ?_).mpr h
   rw [es, en]
   simp [ownB]
  ·have h2' : k ≠ 1 := by simpa using h2
   (conv => whnf); repeat ((apply And.intro;· exact Cl1); conv => whnf)
   refine ⟨fun h3 => ?_, fun h3 => ?_⟩
   ·have h3' : k = 2 := by simpa using h3
    subst h3'
    (conv => whnf); repeat ((apply And.intro;· exact Cl1); conv => whnf)
    rw [clear1 n hn2]
    refine ⟨fun _ h1 => ?_, fun h1 => ?_⟩
    ·rw [h1]
     (conv => whnf); repeat ((apply And.intro;· exact Cl1); conv => whnf)
     refine bare_spec false false false 2 n s z1 z2 lp (strs ns) t1 t2 _ ?_
     (conv => whnf); repeat ((apply And.intro;· exact Cl1); conv => whnf)
     refine (congrArg (fun r => Post (.bool r) []) ?_).mpr h
     rw [es, en]
     simp [ownB, h1]
    ·have h1' := h1 rfl
     rw [h1']
     (conv => whnf); repeat ((apply And.intro;· exact Cl1); conv => whnf)
     refine (congrArg (fun r => Post (.bool r) []) ?_).mpr h
     simp [ownB, h1']
   ·have h3' : k ≠ 2 := by simpa using h3
    (conv => whnf); repeat ((apply And.intro;· exact Cl1); conv => whnf)
    refine ⟨fun h4 => ?_, fun h4 => ?_⟩
    ·have h4' : k = 6 := by simpa using h4
     subst h4'
     (conv => whnf); repeat ((apply And.intro;· exact Cl1); conv => whnf)
     refine ⟨fun _ h1 => ?_, fun h1 => ?_⟩
     ·rw [h1]
      (conv => whnf); repeat ((apply And.intro;· exact Cl1); conv => whnf)
      refine bare_spec false false false 6 n s z1 z2 lp (strs ns) t1 t2 _ ?_
      (conv => whnf); repeat ((apply And.intro;· exact Cl1); conv => whnf)
      refine (congrArg (fun r => Post (.bool r) []) ?_).mpr h
      rw [es, en]
      simp at h1
      simp [ownB, h1]
      try (intros; omega)
     ·have h1' := h1 rfl
      rw [h1']
      (conv => whnf); repeat ((apply And.intro;· exact Cl1); conv => whnf)
      refine (congrArg (fun r => Post (.bool r) []) ?_).mpr h
      simp at h1'
      simp [ownB]
      intros
      omega
    ·have h4' : k ≠ 6 := by simpa using h4
     (conv => whnf); repeat ((apply And.intro;· exact Cl1); conv => whnf)
     refine ⟨fun h5 => ?_, fun h5 => ?_⟩
     ·have h5' : k = 3 := by simpa using h5
      subst h5'
      (conv => whnf); repeat ((apply And.intro;· exact Cl1); conv => whnf)
      refine ⟨fun _ h1 => ?_, fun h1 => ?_⟩
      ·rw [h1]
       (conv => whnf); repeat ((apply And.intro;· exact Cl1); conv => whnf)
       refine bare_spec true false false 3 n s z1 z2 lp (strs ns) t1 t2 _ ?_
       (conv => whnf); repeat ((apply And.intro;· exact Cl1); conv => whnf)
       refine (congrArg (fun r => Post (.bool r) []) ?_).mpr h
       rw [es, en]
       simp at h1
       simp [ownB, h1]
       try (intros; omega)
      ·have h1' := h1 rfl
       rw [h1']
       (conv => whnf); repeat ((apply And.intro;· exact Cl1); conv => whnf)
       refine (congrArg (fun r => Post (.bool r) []) ?_).mpr h
       simp at h1'
       simp [ownB]
       intros
       omega
     ·have h5' : k ≠ 3 := by simpa using h5
      (conv => whnf); repeat ((apply And.intro;· exact Cl1); conv => whnf)
      refine ⟨fun h6 => ?_, fun h6 => ?_⟩
      ·have h6' : k = 4 := by simpa using h6
       subst h6'
       (conv => whnf); repeat ((apply And.intro;· exact Cl1); conv => whnf)
       refine ⟨fun _ h1 => ?_, fun h1 => ?_⟩
       ·rw [h1]
        (conv => whnf); repeat ((apply And.intro;· exact Cl1); conv => whnf)
        refine bare_spec false true false 4 n s z1 z2 lp (strs ns) t1 t2 _ ?_
        (conv => whnf); repeat ((apply And.intro;· exact Cl1); conv => whnf)
        refine (congrArg (fun r => Post (.bool r) []) ?_).mpr h
        rw [es, en]
        simp at h1
        simp [ownB, h1]
        try (intros; omega)
       ·have h1' := h1 rfl
        rw [h1']
        (conv => whnf); repeat ((apply And.intro;· exact Cl1); conv => whnf)
        refine (congrArg (fun r => Post (.bool r) []) ?_).mpr h
        simp at h1'
        simp [ownB]
        intros
        omega
      ·have h6' : k ≠ 4 := by simpa using h6
       (conv => whnf); repeat ((apply And.intro;· exact Cl1); conv => whnf)
       refine ⟨fun h7 => ?_, fun h7 => ?_⟩
       ·have h7' : k = 5 := by simpa using h7
        subst h7'
        (conv => whnf); repeat ((apply And.intro;· exact Cl1); conv => whnf)
        refine ⟨fun _ h1 => ?_, fun h1 => ?_⟩
        ·rw [h1]
         (conv => whnf); repeat ((apply And.intro;· exact Cl1); conv => whnf)
         refine bare_spec false true true 5 n s z1 z2 lp (strs ns) t1 t2 _ ?_
         (conv => whnf); repeat ((apply And.intro;· exact Cl1); conv => whnf)
         rw [es, en] at *
         simp at h1
         refine ⟨fun _ h8 => ?_, fun h8 => ?_⟩
         ·rw [h8]
          (conv => whnf); repeat ((apply And.intro;· exact Cl1); conv => whnf)
          refine rising_spec ns z2 t2 hz hn _ ?_
          (conv => whnf); repeat ((apply And.intro;· exact Cl1); conv => whnf)
          refine (congrArg (fun r => Post (.bool r) []) ?_).mpr h
          have h8' : s = [] := by simpa using h8
          have h9 : lp.length = ns.length := by have := h1.1.2; rw [strs_len] at this; exact_mod_cast this
          have h10 : ns.length ≤ 8 := by omega
          simp [ownB, h1, h8', h9, h10]
         ·have h8' := h8 rfl
          rw [h8']
          (conv => whnf); repeat ((apply And.intro;· exact Cl1); conv => whnf)
          refine (congrArg (fun r => Post (.bool r) []) ?_).mpr h
          have h9 : ¬ s = [] := by simpa using h8'
          simp [ownB, h9]
        ·have h1' := h1 rfl
         rw [h1']
         (conv => whnf); repeat ((apply And.intro;· exact Cl1); conv => whnf)
         refine ⟨fun _ h8 => (by cases h8), fun h8 => ?_⟩
         (conv => whnf); repeat ((apply And.intro;· exact Cl1); conv => whnf)
         refine (congrArg (fun r => Post (.bool r) []) ?_).mpr h
         rw [strs_len] at h1'
         have h9 : ¬ (n = 0 ∧ lp.length = ns.length ∧ lp.length ≤ 8) := fun hh => by simp [hh.1, hh.2.1] at h1'; omega
         simp [ownB]
         intro a b c
         exact absurd ⟨a, b, c⟩ h9
       ·have h7' : k ≠ 5 := by simpa using h7
        (conv => whnf); repeat ((apply And.intro;· exact Cl1); conv => whnf)
        refine (congrArg (fun r => Post (.bool r) []) ?_).mpr h
        simp [ownB, h0', h2', h3', h4', h5', h6', h7']
end Go.Vc
namespace Go.Vc
open Go Go.Proofs
set_option maxRecDepth 100000
def nsLen : List (List UInt8) → Nat
 | [] => 0
 | s :: r => s.length + nsLen r
mutual
def sizeV : V → Nat
 | .mk _ _ s l ns => 1 + s.length + nsLen ns + sizeVs l
def sizeVs : List V → Nat
 | [] => 0
 | v :: r => sizeV v + sizeVs r
end
mutual
def depthV : V → Nat
 | .mk _ _ _ l _ => 1 + depthVs l
def depthVs : List V → Nat
 | [] => 0
 | v :: r => max (depthV v) (depthVs r)
end
mutual
def allV : V → Bool
 | .mk k n s l ns => ownB k n s l.length ns && allVs l
def allVs : List V → Bool
 | [] => true
 | v :: r => allV v && allVs r
end
def okV (v : V) (w : Nat) (left : Int) : Bool := decide (w + depthV v ≤ 8) && decide ((sizeV v : Int) ≤ left) && allV v
def okVs (l : List V) (w : Nat) (left : Int) : Bool := decide (w + depthVs l ≤ 8) && decide ((sizeVs l : Int) ≤ left) && allVs l
theorem okV_iff {v : V} {w : Nat} {left : Int} : okV v w left = true ↔ (w + depthV v ≤ 8 ∧ (sizeV v : Int) ≤ left) ∧ allV v = true := by simp [okV]
theorem okVs_iff {v : List V} {w : Nat} {left : Int} : okVs v w left = true ↔ (w + depthVs v ≤ 8 ∧ (sizeVs v : Int) ≤ left) ∧ allVs v = true := by simp [okVs]
theorem okVs_cons (v : V) (r : List V) (w : Nat) (left : Int) : okVs (v :: r) w left = (okV v w left && okVs r w (left - sizeV v)) := by
 rw [Bool.eq_iff_iff]
 simp only [okVs_iff, okV_iff, depthVs, sizeVs, allVs, Bool.and_eq_true, Int.natCast_add]
 constructor
 ·rintro ⟨⟨h1, h2⟩, h3, h4⟩
  exact ⟨⟨⟨by omega, by omega⟩, h3⟩, ⟨by omega, by omega⟩, h4⟩
 ·rintro ⟨⟨⟨h1, h2⟩, h3⟩, ⟨h4, h5⟩, h6⟩
  exact ⟨⟨by omega, by omega⟩, h3, h6⟩
theorem okV_mk (k n : Int) (s : List UInt8) (l : List V) (ns : List (List UInt8)) (w : Nat) (left : Int) :
  okV (.mk k n s l ns) w left = (decide (w < 8) && decide (0 ≤ left - (1 + s.length) - nsLen ns) && ownB k n s l.length ns && okVs l (w + 1) (left - (1 + s.length) - nsLen ns)) := by
 rw [Bool.eq_iff_iff]
 simp only [okVs_iff, okV_iff, depthV, sizeV, allV, Bool.and_eq_true, decide_eq_true_eq, Int.natCast_add]
 constructor
 ·rintro ⟨⟨h1, h2⟩, h3, h4⟩
  exact ⟨⟨⟨by omega, by omega⟩, h3⟩, ⟨by omega, by omega⟩, h4⟩
 ·rintro ⟨⟨⟨h1, h2⟩, h3⟩, ⟨h4, h5⟩, h6⟩
  exact ⟨⟨by omega, by omega⟩, h3, h6⟩
theorem sizeV_pos : ∀ v : V, 0 < sizeV v
 | .mk _ _ _ _ _ => by simp only [sizeV]; omega
theorem len_sizeVs : ∀ l : List V, l.length ≤ sizeVs l
 | [] => by simp [sizeVs]
 | v :: r => by
  have := len_sizeVs r
  have := sizeV_pos v
  simp only [sizeVs, List.length_cons]; omega
theorem nsLen_drop : ∀ (l : List (List UInt8)) (i : Nat), nsLen (l.drop i) ≤ nsLen l
 | [], i => by simp [nsLen]
 | v :: r, 0 => by simp
 | v :: r, i + 1 => by
  have := nsLen_drop r i
  simp only [List.drop_succ_cons, nsLen]; omega
def nsBulk : List (List UInt8) → Nat
 | [] => 0
 | s :: r => 1 + s.length + nsBulk r
mutual
def bulkV : V → Nat
 | .mk _ _ s l ns => 1 + s.length + nsBulk ns + bulkVs l
def bulkVs : List V → Nat
 | [] => 0
 | v :: r => bulkV v + bulkVs r
end
theorem bulkV_pos : ∀ v : V, 0 < bulkV v
 | .mk _ _ _ _ _ => by simp only [bulkV]; omega
theorem nsBulk_le : ∀ ns : List (List UInt8), nsLen ns ≤ nsBulk ns ∧ ns.length ≤ nsBulk ns
 | [] => by simp [nsLen, nsBulk]
 | s :: r => by have := nsBulk_le r; simp only [nsLen, nsBulk, List.length_cons]; omega
mutual
theorem size_bulk : ∀ v : V, sizeV v ≤ bulkV v
 | .mk _ _ s l ns => by
  have := sizes_bulk l
  have := nsBulk_le ns
  simp only [sizeV, bulkV]; omega
theorem sizes_bulk : ∀ l : List V, sizeVs l ≤ bulkVs l
 | [] => by simp [sizeVs, bulkVs]
 | v :: r => by
  have := size_bulk v
  have := sizes_bulk r
  simp only [sizeVs, bulkVs]; omega
end
theorem bulkVs_mem : ∀ {l : List V} {i : Nat} (hi : i < l.length), bulkV l[i] ≤ bulkVs l
 | v :: r, 0, hi => by simp [bulkVs]
 | v :: r, i + 1, hi => by
  have := bulkVs_mem (l := r) (i := i) (by simpa using hi)
  simp only [bulkVs, List.getElem_cons_succ]; omega
theorem nsLen_mem : ∀ {l : List (List UInt8)} {i : Nat} (hi : i < l.length), l[i].length ≤ nsLen l
 | v :: r, 0, hi => by simp [nsLen]
 | v :: r, i + 1, hi => by
  have := nsLen_mem (l := r) (i := i) (by simpa using hi)
  simp only [nsLen, List.getElem_cons_succ]; omega
def fitsR (v : V) (w : Nat) (left : Int) : PV := .tup [.int .i64 (if okV v w left then left - sizeV v else 0), .bool (okV v w left)]
set_option maxHeartbeats 8000000 in
theorem fits_spec (N : Nat) : ∀ (k n : Int) (s : List UInt8) (l : List V) (ns : List (List UInt8)), bulkV (.mk k n s l ns) ≤ N → N ≤ 100000000000 → ∀ (z1 z2 : Nat) (lp : List PV) (t1 t2 : Bool) (w : Nat) (left : Int) (Post : PV → List (Nat × Blk) → Prop),
  VPs l lp → (z1 = 5 ∨ l = []) → (z2 = 1 ∨ ns = []) → i64 n → w ≤ 100 → -1000000000000 ≤ left → left ≤ 1000000000000 → Post (fitsR (.mk k n s l ns) w left) [] →
  Spec K 68 [.agg [.int .i64 k, .int .i64 n, .str s, .sl z1 lp t1 true, .sl z2 (strs ns) t2 true], .int .i64 w, .int .i64 left] [] Post := by
 induction N with
 | zero => intro k n s l ns h; exact absurd (bulkV_pos (.mk k n s l ns)) (by omega)
 | succ N ih =>
  intro k n s l ns hs hN z1 z2 lp t1 t2 w left Post hl hz1 hz2 hn hw hl1 hl2 h
  have hz2' : z2 = 1 ∨ strs ns = [] := hz2.imp (fun h => h) fun h => by rw [h]; rfl
  have hlp := VPs_len hl
  have hz1' : z1 = 5 ∨ lp = [] := hz1.imp (fun h => h) fun h => by rw [h] at hlp; exact List.length_eq_zero_iff.1 hlp
  have hs' := hs
  simp only [bulkV] at hs'
  have hnb := nsBulk_le ns
  have hlb := len_sizeVs l
  have hsb := sizes_bulk l
  refine is68.specW K_ok K_mix false (by simp) (by simp [keys]) ?_
  (conv => whnf); repeat ((apply And.intro;· exact Cl1); conv => whnf)
  refine ⟨Nat × Int, fun x => ⟨63, [(21, .int .i64 x.1), (20, .int .i64 ns.length), (19, .sl z2 (strs ns) t2 true), (2, .int .i64 x.2), (7, .bool false), (6, .int .i64 0), (3, .ptr 0 0), (1, .int .i64 w)], [(0, .box [.int .i64 k, .int .i64 n, .str s, .sl z1 lp t1 true, .sl z2 (strs ns) t2 true])], []⟩, fun x => x.1 ≤ ns.length ∧ x.2 - nsLen (ns.drop x.1) = left - (1 + s.length) - nsLen ns, fun x => ns.length - x.1,
   ⟨[], (0, left - (1 + s.length)), ⟨Nat.zero_le _, rfl⟩, ?_⟩, fun x hI => ?_⟩
  ·rw [wrap64 (n := 1 + (s.length : Int)) (by omega) (by omega), wrap64 (by omega) (by omega)]
   simp [meets, ghosts, St.le, St.get, look, keys, PV.labs, labsL, lookB, Blk.labs, strs_len]
  ·obtain ⟨i, L⟩ := x
   obtain ⟨hi, hL⟩ := hI
   simp only at hi hL
   have hdb := nsLen_drop ns i
   (conv => whnf); repeat ((apply And.intro;· exact Cl1); conv => whnf)
   refine ⟨fun h1 => ?_, fun h1 => ?_⟩
   ·have hix : i < ns.length := by have := of_decide_eq_true h1; omega
    have hdr : ns.drop i = ns[i] :: ns.drop (i + 1) := List.drop_eq_getElem_cons hix
    have hm := nsLen_mem hix
    (conv => whnf); repeat ((apply And.intro;· exact Cl1); conv => whnf)
    refine ⟨hz2', fun _ => ⟨by omega, by rw [strs_len]; omega⟩, ?_⟩
    (conv => whnf); repeat ((apply And.intro;· exact Cl1); conv => whnf)
    rw [Int.toNat_natCast, nth_strs hix]
    (conv => whnf); repeat ((apply And.intro;· exact Cl1); conv => whnf)
    rw [wrap64 (by omega) (by omega), wrap64 (by omega) (by omega)]
    refine ⟨[], (i + 1, L - ns[i].length), ⟨hix, ?_⟩, by show ns.length - (i + 1) < ns.length - i; omega, ?_⟩
    ·rw [hdr] at hL
     simp only [nsLen] at hL ⊢
     omega
    ·simp [meets, ghosts, St.le, St.get, look, keys, PV.labs, labsL, lookB, Blk.labs]
   ·have hix : i = ns.length := by have := of_decide_eq_false h1; omega
    have hL' : L = left - (1 + s.length) - nsLen ns := by simpa [hix, nsLen] using hL
    have hok := okV_mk k n s l ns w left
    rw [← hL'] at hok
    (conv => whnf); repeat ((apply And.intro;· exact Cl1); conv => whnf)
    refine ⟨fun _ h2 => ?_, fun h2 => ?_⟩
    ·rw [h2]
     (conv => whnf); repeat ((apply And.intro;· exact Cl1); conv => whnf)
     refine own_spec k n s z1 z2 lp ns t1 t2 hz2 (by omega) hn _ ?_
     (conv => whnf); repeat ((apply And.intro;· exact Cl1); conv => whnf)
     rw [hlp]
     refine ⟨fun h3 => ?_, fun h3 => ?_⟩
     ·have h3' : ownB k n s l.length ns = false := by simpa using h3
      (conv => whnf); repeat ((apply And.intro;· exact Cl1); conv => whnf)
      have : okV (.mk k n s l ns) w left = false := by rw [hok, h3']; simp
      simpa [fitsR, this] using h
     ·have h3' : ownB k n s l.length ns = true := by simpa using h3
      have hw8 : w < 8 ∧ 0 ≤ L := by
       have h2' : (bif decide (8 ≤ (w : Int)) then true else decide (L < 0)) = false := h2
       by_cases h9 : (8 : Int) ≤ w
       ·simp [h9] at h2'
       ·simp [h9] at h2'
        omega
      have hok2 : okV (.mk k n s l ns) w left = okVs l (w + 1) L := by rw [hok, h3']; simp [hw8]
      (conv => whnf); repeat ((apply And.intro;· exact Cl1); conv => whnf)
      refine ⟨Nat × Int, fun x => ⟨63, [(44, .int .i64 x.1), (43, .int .i64 l.length), (2, .int .i64 x.2), (7, .bool false), (6, .int .i64 0), (3, .ptr 0 0), (1, .int .i64 w)], [(0, .box [.int .i64 k, .int .i64 n, .str s, .sl z1 lp t1 true, .sl z2 (strs ns) t2 true])], []⟩,
       fun x => x.1 ≤ l.length ∧ 0 ≤ x.2 ∧ x.2 ≤ 1000000000000 ∧ okV (.mk k n s l ns) w left = okVs (l.drop x.1) (w + 1) x.2 ∧ x.2 - sizeVs (l.drop x.1) = left - sizeV (.mk k n s l ns), fun x => l.length - x.1,
       ⟨[], (0, L), ⟨Nat.zero_le _, hw8.2, (by show L ≤ _; omega), hok2, (by simp only [List.drop_zero, sizeV]; omega)⟩, ?_⟩, fun x hI => ?_⟩
      ·simp [meets, ghosts, St.le, St.get, look, keys, PV.labs, labsL, lookB, Blk.labs, hlp]
      ·clear hL' hok hok2 hL hi h2 h1 h3
       have hw7 := hw8.1
       clear hw8 hdb
       clear hix
       clear L i
       obtain ⟨i, L⟩ := x
       obtain ⟨hi, hL0, hL1, hok, hsz⟩ := hI
       simp only at hi hL0 hL1 hok hsz
       (conv => whnf); repeat ((apply And.intro;· exact Cl1); conv => whnf)
       refine ⟨fun h1 => ?_, fun h1 => ?_⟩
       ·have hix : i < l.length := by have := of_decide_eq_true h1; omega
        have hdr : l.drop i = l[i] :: l.drop (i + 1) := List.drop_eq_getElem_cons hix
        obtain ⟨y1, mp, u1, o1, y2, u2, o2, hp, hq, g1, g2, g3⟩ := (VPs_nth hl hix).out
        have hbm := bulkVs_mem hix
        rw [← V.eta l[i]] at hbm
        (conv => whnf); repeat ((apply And.intro;· exact Cl1); conv => whnf)
        refine ⟨hz1', fun _ => ⟨by omega, by rw [hlp]; omega⟩, ?_⟩
        (conv => whnf); repeat ((apply And.intro;· exact Cl1); conv => whnf)
        rw [Int.toNat_natCast, hp]
        (conv => whnf); repeat ((apply And.intro;· exact Cl1); conv => whnf)
        rw [wrap64 (by omega) (by omega)]
        refine ih _ _ _ _ _ (by omega) (by omega) y1 y2 mp u1 u2 (w + 1) L _ hq g1 g2 g3 (by omega) (by omega) (by omega) ?_
        rw [V.eta] at hbm ⊢
        rw [hdr, okVs_cons] at hok
        simp only [hdr, sizeVs] at hsz
        (conv => whnf); repeat ((apply And.intro;· exact Cl1); conv => whnf)
        refine ⟨fun h2 => ?_, fun h2 => ?_⟩
        ·have h2' : okV l[i] (w + 1) L = false := by simpa using h2
         (conv => whnf); repeat ((apply And.intro;· exact Cl1); conv => whnf)
         have : okV (.mk k n s l ns) w left = false := by rw [hok, h2']; rfl
         simpa [fitsR, this] using h
        ·have h2' : okV l[i] (w + 1) L = true := by simpa using h2
         have h3 := (okV_iff.1 h2').1.2
         (conv => whnf); repeat ((apply And.intro;· exact Cl1); conv => whnf)
         rw [wrap64 (by omega) (by omega)]
         refine ⟨[], (i + 1, L - sizeV l[i]), ⟨hix, by show 0 ≤ L - (sizeV l[i] : Int); omega, by show L - (sizeV l[i] : Int) ≤ _; omega, by rw [hok, h2']; rfl, by show L - (sizeV l[i] : Int) - (sizeVs (l.drop (i + 1)) : Int) = _; omega⟩, by show l.length - (i + 1) < l.length - i; omega, ?_⟩
         simp [meets, ghosts, St.le, St.get, look, keys, PV.labs, labsL, lookB, Blk.labs, h2']
       ·have hix : i = l.length := by have := of_decide_eq_false h1; omega
        (conv => whnf); repeat ((apply And.intro;· exact Cl1); conv => whnf)
        simp only [hix, List.drop_length, okVs, depthVs, sizeVs, allVs] at hok hsz
        have : okV (.mk k n s l ns) w left = true := by rw [hok]; simp; omega
        have e : L = left - sizeV (.mk k n s l ns) := by rw [← hsz]; simp
        simpa [fitsR, this, e] using h
    ·have h2' := h2 rfl
     rw [h2']
     (conv => whnf); repeat ((apply And.intro;· exact Cl1); conv => whnf)
     refine ⟨fun h3 => ?_, fun h3 => by cases h3⟩
     (conv => whnf); repeat ((apply And.intro;· exact Cl1); conv => whnf)
     have : okV (.mk k n s l ns) w left = false := by
      have h2' : (bif decide (8 ≤ (w : Int)) then true else decide (L < 0)) = true := h2'
      rw [hok]
      by_cases h9 : (8 : Int) ≤ w
      ·have : ¬ w < 8 := by omega
       simp [this]
      ·have : ¬ 0 ≤ L := by simp [h9] at h2'; omega
       simp [this]
     simpa [fitsR, this] using h
end Go.Vc
