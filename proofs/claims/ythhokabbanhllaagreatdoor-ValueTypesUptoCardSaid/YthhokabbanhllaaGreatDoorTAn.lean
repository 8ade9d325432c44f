/- What is proved here: contracts of functions of the program: of each function what it hands back and what it leaves in memory. Conditions: those that each theorem names. -/
import Derived.Test.YthhokabbanhllaaGreatDoorTAm
set_option linter.unusedVariables false
set_option linter.unusedSimpArgs false
set_option linter.unusedSectionVars false
namespace Go.Vc
open Go Go.Proofs
set_option maxRecDepth 100000
def i64 (n : Int) : Prop := -9223372036854775808 ≤ n ∧ n ≤ 9223372036854775807
inductive V where
 | mk (k n : Int) (s : List UInt8) (l : List V) (ns : List (List UInt8))
def V.k : V → Int | .mk k _ _ _ _ => k
def V.n : V → Int | .mk _ n _ _ _ => n
def V.s : V → List UInt8 | .mk _ _ s _ _ => s
def V.l : V → List V | .mk _ _ _ l _ => l
def V.ns : V → List (List UInt8) | .mk _ _ _ _ ns => ns
def strs (ns : List (List UInt8)) : List PV := ns.map PV.str
mutual
def VP : V → PV → Prop
 | .mk k n s l ns, p => ∃ z1 lp t1 o1 z2 t2 o2, p = .agg [.int .i64 k, .int .i64 n, .str s, .sl z1 lp t1 o1, .sl z2 (strs ns) t2 o2] ∧ VPs l lp ∧ (z1 = 5 ∨ l = []) ∧ (z2 = 1 ∨ ns = []) ∧ i64 n
def VPs : List V → List PV → Prop
 | [], lp => lp = []
 | v :: r, lp => ∃ p q, lp = p :: q ∧ VP v p ∧ VPs r q
end
theorem VP.out : ∀ {v : V} {p : PV}, VP v p → ∃ z1 lp t1 o1 z2 t2 o2, p = .agg [.int .i64 v.k, .int .i64 v.n, .str v.s, .sl z1 lp t1 o1, .sl z2 (strs v.ns) t2 o2] ∧ VPs v.l lp ∧ (z1 = 5 ∨ v.l = []) ∧ (z2 = 1 ∨ v.ns = []) ∧ i64 v.n
 | .mk _ _ _ _ _, _, h => h
theorem V.eta : ∀ v : V, V.mk v.k v.n v.s v.l v.ns = v
 | .mk _ _ _ _ _ => rfl
theorem VPs_len : ∀ {l : List V} {lp : List PV}, VPs l lp → lp.length = l.length
 | [], lp, h => by simp only [VPs] at h; subst h; rfl
 | v :: r, lp, h => by
  simp only [VPs] at h
  obtain ⟨p, q, rfl, _, h2⟩ := h
  simp [VPs_len h2]
theorem VPs_nth : ∀ {l : List V} {lp : List PV}, VPs l lp → ∀ {i : Nat} (hi : i < l.length), VP l[i] (nth lp i)
 | v :: r, lp, h, 0, hi => by
  simp only [VPs] at h
  obtain ⟨p, q, rfl, h1, _⟩ := h
  exact h1
 | v :: r, lp, h, i + 1, hi => by
  simp only [VPs] at h
  obtain ⟨p, q, rfl, _, h2⟩ := h
  exact VPs_nth h2 (i := i) (by simpa using hi)
theorem strs_len (ns : List (List UInt8)) : (strs ns).length = ns.length := by simp [strs]
theorem nth_strs {ns : List (List UInt8)} {i : Nat} (h : i < ns.length) : nth (strs ns) i = .str ns[i] := by
 unfold nth strs
 rw [List.getD_eq_getElem?_getD, List.getElem?_map, List.getElem?_eq_getElem h]; rfl
theorem bare_spec (a b c : Bool) (k n : Int) (s : List UInt8) (z1 z2 : Nat) (lp np : List PV) (t1 t2 : Bool) (Post : PV → List (Nat × Blk) → Prop)
  (h : Post (.bool ((a || s.isEmpty) && (b || lp.isEmpty) && (c || np.isEmpty))) []) :
  Spec K 80 [.agg [.bool a, .bool b, .bool c], .agg [.int .i64 k, .int .i64 n, .str s, .sl z1 lp t1 true, .sl z2 np t2 true]] [] Post := by
 refine is80.specW K_ok K_mix false (by simp) (by simp [keys]) ?_
 (conv => whnf); repeat ((apply And.intro;· exact Cl1); conv => whnf)
 refine (congrArg (fun r => Post (.bool r) []) ?_).mpr h
 have e1 : (s == ({ data := #[] } : ByteArray).data.toList) = s.isEmpty := by cases s <;> rfl
 have e2 : ∀ l : List PV, ((l.length : Int) == 0) = l.isEmpty := fun l => by cases l <;> simp; omega
 rw [e1, e2, e2]
 cases a <;> cases b <;> cases c <;> simp
def inName (first : Bool) (c : UInt8) : Bool := (decide (97 ≤ c.toNat) && decide (c.toNat ≤ 122)) || (!first && (c.toNat == 95 || (decide (48 ≤ c.toNat) && decide (c.toNat ≤ 57))))
def inNames : Bool → List UInt8 → Bool
 | _, [] => true
 | f, c :: r => inName f c && inNames false r
def isName (s : List UInt8) : Bool := !s.isEmpty && decide (s.length ≤ 16) && inNames true s
theorem inName_eq (i : Nat) (x : Nat) (c : UInt8) (hx : x = c.toNat) : (bif !bif decide (97 ≤ (x : Int)) then decide ((x : Int) ≤ 122) else false then
     bif (i : Int) == 0 then true
     else
      bif (x : Int) != 95 then bif decide ((x : Int) < 48) then true else decide (57 < (x : Int)) else false
    else false) = !inName (i == 0) c := by
 subst hx
 have e0 : ((i : Int) == 0) = (i == 0) := by cases i <;> simp; omega
 have e1 : decide (97 ≤ (c.toNat : Int)) = decide (97 ≤ c.toNat) := decide_eq_decide.2 (by omega)
 have e2 : decide ((c.toNat : Int) ≤ 122) = decide (c.toNat ≤ 122) := decide_eq_decide.2 (by omega)
 have e3 : ((c.toNat : Int) != 95) = !(c.toNat == 95) := by
  have : ((c.toNat : Int) == 95) = (c.toNat == 95) := by rw [Bool.eq_iff_iff]; simp; omega
  rw [bne, this]
 have e4 : decide ((c.toNat : Int) < 48) = !decide (48 ≤ c.toNat) := by
  rw [Bool.eq_iff_iff]; simp; omega
 have e5 : decide (57 < (c.toNat : Int)) = !decide (c.toNat ≤ 57) := by
  rw [Bool.eq_iff_iff]; simp; omega
 rw [e0, e1, e2, e3, e4, e5]
 unfold inName
 cases decide (97 ≤ c.toNat) <;> cases decide (c.toNat ≤ 122) <;> cases (i == 0) <;> cases (c.toNat == 95) <;> cases decide (48 ≤ c.toNat) <;> cases decide (c.toNat ≤ 57) <;> rfl
theorem named_spec (s : List UInt8) (Post : PV → List (Nat × Blk) → Prop) (h : Post (.bool (isName s)) []) : Spec K 97 [.str s] [] Post := by
 refine is97.specW K_ok K_mix false (by simp) (by simp [keys]) ?_
 (conv => whnf); repeat ((apply And.intro;· exact Cl1); conv => whnf)
 have e1 : (s == ({ data := #[] } : ByteArray).data.toList) = s.isEmpty := by cases s <;> rfl
 rw [e1]
 refine ⟨fun hc => ?_, fun hc => ?_⟩
 ·(conv => whnf); repeat ((apply And.intro;· exact Cl1); conv => whnf)
  have : isName s = false := by
   unfold isName
   cases he : s.isEmpty with
   | true => rfl
   | false =>
    rw [he] at hc
    have : 16 < (s.length : Int) := of_decide_eq_true hc
    have : ¬ s.length ≤ 16 := by omega
    simp [this]
  rwa [this] at h
 ·have hne : s.isEmpty = false := by cases he : s.isEmpty with | true => rw [he] at hc; cases hc | false => rfl
  have hlen : s.length ≤ 16 := by
   rw [hne] at hc
   have : ¬ 16 < (s.length : Int) := of_decide_eq_false hc
   omega
  have hnm : isName s = inNames true s := by simp [isName, hne, hlen]
  rw [hnm] at h
  (conv => whnf); repeat ((apply And.intro;· exact Cl1); conv => whnf)
  refine ⟨by omega, rfl, ?_⟩
  (conv => whnf); repeat ((apply And.intro;· exact Cl1); conv => whnf)
  rw [show s.map (fun c => PV.int .u8 c.toNat) = bs s from rfl]
  refine ⟨Nat, fun i => ⟨46, [(16, .int .i64 i), (15, .int .i64 s.length), (14, .sl 1 (bs s) false false), (2, .bool false)], [], []⟩, fun i => i ≤ s.length ∧ inNames true s = inNames (i == 0) (s.drop i), fun i => s.length - i,
   ⟨[], 0, ⟨Nat.zero_le _, rfl⟩, ?_⟩, fun i ⟨hi, hin⟩ => ?_⟩
  ·simp [meets, ghosts, St.le, St.get, look, keys, PV.labs, labsL, bs_len]
  ·(conv => whnf); repeat ((apply And.intro;· exact Cl1); conv => whnf)
   refine ⟨fun h1 => ?_, fun h1 => ?_⟩
   ·have hix : i < s.length := by have := of_decide_eq_true h1; omega
    (conv => whnf); repeat ((apply And.intro;· exact Cl1); conv => whnf)
    refine ⟨fun _ => ⟨by omega, by rw [bs_len]; omega⟩, ?_⟩
    (conv => whnf); repeat ((apply And.intro;· exact Cl1); conv => whnf)
    rw [Int.toNat_natCast, nth_bs hix]
    (conv => whnf); repeat ((apply And.intro;· exact Cl1); conv => whnf)
    rw [inName_eq i _ s[i] rfl]
    have hdr : s.drop i = s[i] :: s.drop (i + 1) := List.drop_eq_getElem_cons hix
    refine ⟨fun h2 => ?_, fun h2 => ?_⟩
    ·(conv => whnf); repeat ((apply And.intro;· exact Cl1); conv => whnf)
     rw [hin, hdr] at h
     have : inName (i == 0) s[i] = false := by simpa using h2
     rw [inNames, this] at h
     exact h
    ·(conv => whnf); repeat ((apply And.intro;· exact Cl1); conv => whnf)
     have : inName (i == 0) s[i] = true := by simpa using h2
     rw [wrap64 (by omega) (by omega)]
     refine ⟨[], i + 1, ⟨hix, ?_⟩, by show s.length - (i + 1) < s.length - i; omega, ?_⟩
     ·rw [hin, hdr, inNames, this]; simp
     ·simp [meets, ghosts, St.le, St.get, look, keys, PV.labs, labsL]
   ·have hix : i = s.length := by have := of_decide_eq_false h1; omega
    (conv => whnf); repeat ((apply And.intro;· exact Cl1); conv => whnf)
    rw [hin, hix, List.drop_length] at h
    exact h
end Go.Vc
