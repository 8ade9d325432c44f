/- What is proved here: contracts of functions of the program: of each function what it hands back and what it leaves in memory. Conditions: those that each theorem names. -/
import Derived.Test.YtfnmagjngnpokaaGreatDoorTb
import Derived.Test.YtfnmagjngnpokaaGreatDoorWd
import Derived.Test.YtfnmagjngnpokaaGreatDoorWg
import Derived.Test.YtfnmagjngnpokaaGreatDoorWk
import Derived.Test.YtfnmagjngnpokaaGreatDoorWn
set_option linter.unusedVariables false
set_option linter.unusedSimpArgs false
set_option linter.unusedSectionVars false
namespace Go.Vc
open Go Go.Proofs
set_option maxRecDepth 100000
theorem rdVal_lt (b : List UInt8) (n : Nat) (hn : n ≤ 8) : rdVal b n < 18446744073709551616 := by
  unfold rdVal
  refine horner_room hn ?_ _ (by rw [List.length_take]; omega)
  rw [UInt8.toNat_and]
  refine Nat.le_trans Nat.and_le_right ?_
  have : 127 / 2 ^ n ≤ 127 := Nat.div_le_self _ _
  rw [UInt8.toNat_ofNat', Nat.mod_eq_of_lt (by omega)]
  exact Nat.le_refl _
theorem rdRaw_lt {b : List UInt8} {v : Nat} {r : List UInt8} (h : rdRaw b = (0, v, r)) : v < 18446744073709551616 := by
  unfold rdRaw at h
  split at h
  · simp at h
  · split at h
    · simp at h
    · simp only [Prod.mk.injEq, true_and] at h
      rw [← h.1]
      exact rdVal_lt _ _ (ones_le _)
theorem rd_i64 {g : Nat → Int × Int} (hg : ∀ v, v < 18446744073709551616 → i64 (g v).1) {b : List UInt8} {m : Int} {r : List UInt8} {e : Int} (h : rdSpec g b = (m, r, e)) : i64 m := by
  have h0 : i64 0 := ⟨by decide, by decide⟩
  unfold rdSpec at h
  split at h
  · cases h; exact h0
  · rename_i h1
    split at h
    · cases h; exact h0
    · cases h
      refine hg _ (rdRaw_lt (b := b) (r := (rdRaw b).2.2) ?_)
      have : (rdRaw b).1 = 0 := Classical.not_not.1 h1
      rw [← this]
theorem num_i64 {b : List UInt8} {m : Int} {r : List UInt8} {e : Int} (h : rdSpec numG b = (m, r, e)) : i64 m :=
  rd_i64 (fun v hv => by unfold numG i64; split <;> simp <;> omega) h
theorem int_i64 {b : List UInt8} {m : Int} {r : List UInt8} {e : Int} (h : rdSpec intG b = (m, r, e)) : i64 m :=
  rd_i64 (fun v hv => by unfold intG zag i64; simp only; split <;> constructor <;> omega) h
theorem txt_len {b s r : List UInt8} {e : Int} (h : txt 16 b = (s, r, e)) : s.length ≤ 16 ∧ r.length ≤ b.length := by
  unfold txt at h
  split at h
  rename_i n r1 e1 he
  have hr := rd_rest he
  split at h
  · cases h; simp
  · split at h
    · cases h; simp
    · split at h
      · cases h; simp
      · cases h
        rw [List.length_take, List.length_drop]
        omega
/-! An event, taken off. -/
def numE (g : Nat → Int × Int) (b : List UInt8) : Except Int (Int × List UInt8) :=
  match rdSpec g b with
  | (n, r, e) => if e ≠ 0 then .error e else .ok (n, r)
def txtE (b : List UInt8) : Except Int (List UInt8 × List UInt8) :=
  match txt 16 b with
  | (s, r, e) => if e ≠ 0 then .error e else .ok (s, r)
def hb (k m : Int) : Bool := bitsI .and .i64 (hasI k) m != 0
abbrev ERes := Except Int (EV × List UInt8)
def nxt {α : Type} (p : Except Int (α × List UInt8)) (f : α → List UInt8 → ERes) : ERes :=
  match p with
  | .error e => .error e
  | .ok (a, r) => f a r
def t5 (y : EV) (r : List UInt8) : ERes := if evOk y then .ok (y, r) else .error 2
def t4 (y : EV) (r : List UInt8) : ERes := if hb y.kind 8 then nxt (takeV r) fun v r => t5 { y with v := v } r else t5 y r
def t3 (y : EV) (r : List UInt8) : ERes := if hb y.kind 4 then nxt (txtE r) fun s r => t4 { y with s := s } r else t4 y r
def t2 (y : EV) (r : List UInt8) : ERes := if hb y.kind 2 then nxt (numE intG r) fun n r => t3 { y with n := n } r else t3 y r
def t1 (y : EV) (r : List UInt8) : ERes := if hb y.kind 1 then nxt (numE numG r) fun n r => t2 { y with id := n } r else t2 y r
def t0 (y : EV) (r : List UInt8) : ERes := nxt (numE numG r) fun n r => t1 { y with flow := n } r
def evTake (b : List UInt8) : ERes :=
  if b.length < 2 then .error 3
  else if b.headD 0 ≠ 1 ∨ wi ((b.getD 1 0).toNat) 1 15 = false then .error 4
  else t0 ⟨(b.getD 1 0).toNat, 0, 0, 0, [], V0⟩ (b.drop 2)
def tS : Nat → EV → List UInt8 → ERes
  | 0 => t0 | 1 => t1 | 2 => t2 | 3 => t3 | 4 => t4 | _ => t5
theorem numE_err {g : Nat → Int × Int} {b : List UInt8} {n : Int} {r : List UInt8} {e : Int} (h : rdSpec g b = (n, r, e)) (he : e ≠ 0) : numE g b = .error e := by
  unfold numE; rw [h]; exact if_pos he
theorem numE_ok {g : Nat → Int × Int} {b : List UInt8} {n : Int} {r : List UInt8} (h : rdSpec g b = (n, r, 0)) : numE g b = .ok (n, r) := by
  unfold numE; rw [h]; rfl
theorem txtE_err {b s r : List UInt8} {e : Int} (h : txt 16 b = (s, r, e)) (he : e ≠ 0) : txtE b = .error e := by
  unfold txtE; rw [h]; exact if_pos he
theorem txtE_ok {b s r : List UInt8} (h : txt 16 b = (s, r, 0)) : txtE b = .ok (s, r) := by
  unfold txtE; rw [h]; rfl
theorem hasI_lt {k : Int} (hk : wi k 1 15 = true) : 0 ≤ hasI k ∧ hasI k < 16 := by
  rcases kinds hk with rfl | rfl | rfl | rfl | rfl | rfl | rfl | rfl | rfl | rfl | rfl | rfl | rfl | rfl | rfl <;> decide
theorem tab_k {k : Int} (hk : wi k 1 15 = true) : nth (fieldsT.map (PV.retag true)) k.toNat = .int .i64 (hasI k) := by
  rcases kinds hk with rfl | rfl | rfl | rfl | rfl | rfl | rfl | rfl | rfl | rfl | rfl | rfl | rfl | rfl | rfl <;> rfl
/-- The bits, as the program looks at them. -/
theorem bit_p {k : Int} (hk : wi k 1 15 = true) : ∀ i, i < 4 → (bitsI .and .i64 (Int.fdiv (hasI k) (2 ^ i)) 1 == 0) = !hb k (2 ^ i) := by
  intro i hi
  rcases kinds hk with rfl | rfl | rfl | rfl | rfl | rfl | rfl | rfl | rfl | rfl | rfl | rfl | rfl | rfl | rfl <;> (revert i; decide +kernel)
/-- The cells of an event; whether its lists may lead to what was there. -/
def eco (o : Bool) (e : EV) (z1 : Nat) (lp : List PV) (t1 : Bool) (z2 : Nat) (t2 : Bool) : List PV :=
  [.int .i64 e.kind, .int .i64 e.flow, .int .i64 e.id, .int .i64 e.n, .str e.s, .int .i64 e.v.k, .int .i64 e.v.n, .str e.v.s, .sl z1 lp t1 o, .sl z2 (strs e.v.ns) t2 o]
theorem Both.E {b c : Bool} {p q : Prop} (h : b = c) (hc : Both (c = true → p) (c = false → q)) : Both (b = true → p) (b = false → q) := by rw [h]; exact hc
theorem i64_0 : i64 0 := ⟨by decide, by decide⟩
theorem EA0 (k fl : Int) : EA ⟨k, fl, 0, 0, [], V0⟩ 0 [] 0 := ⟨V0_VA, Nat.zero_le _, i64_0, i64_0⟩
structure LS where
  i : Nat
  y : EV
  z1 : Nat
  lp : List PV
  t1 : Bool
  z2 : Nat
  t2 : Bool
  b : List UInt8
  z : Nat
  t : Bool
def stE (i : Nat) (k : Int) (y : List PV) (z : Nat) (b : List UInt8) (t : Bool) : St :=
  ⟨71, [(43, .int .i64 i), (42, .agg fnsT), (6, .int .i64 (hasI k)), (7, .ptr 3 0), (4, .ptr 2 0), (3, .ptr 1 0), (2, .ptr 0 0)],
    [(0, .box ev0), (1, .box [.sl z (bs b) t true]), (2, .box [.int .i64 0]), (3, .box y)], []⟩
end Go.Vc
