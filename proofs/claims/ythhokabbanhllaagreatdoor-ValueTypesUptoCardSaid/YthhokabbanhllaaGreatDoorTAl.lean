/- What is proved here: contracts of functions of the program: of each function what it hands back and what it leaves in memory. Conditions: those that each theorem names. -/
import Derived.Test.YthhokabbanhllaaGreatDoorTAh
import Derived.Test.YthhokabbanhllaaGreatDoorTAi
import Derived.Test.YthhokabbanhllaaGreatDoorTAk
set_option linter.unusedVariables false
set_option linter.unusedSimpArgs false
set_option linter.unusedSectionVars false
namespace Go.Vc
open Go Go.Proofs
set_option maxRecDepth 100000
def len (v : Nat) : Nat := if v = 0 then 0 else v.log2 + 1
theorem fdivN (v k : Nat) : Int.fdiv (v : Int) (2 ^ k) = ((v / 2 ^ k : Nat) : Int) := by
 rw [Int.fdiv_eq_ediv_of_nonneg _ (Int.pow_nonneg (by omega))]
 simp
theorem fd (v k : Nat) (x : Int) (kd : IntKind) (h : min x.toNat kd.bits = k) : Int.fdiv (v : Int) (2 ^ min x.toNat kd.bits) = ((v / 2 ^ k : Nat) : Int) := by rw [h]; exact fdivN v k
def fol (v : Nat) : Nat := min ((max (len v) 1 - 1) / 7) 8
def be : Nat → Nat → List UInt8
 | 0, _ => []
 | k + 1, v => UInt8.ofNat (v / 256 ^ k) :: be k v
theorem wrapB (v : Nat) : IntKind.u8.wrap (v : Int) = ((UInt8.ofNat v).toNat : Int) := by
 have h2 : (UInt8.ofNat v).toNat = v % 256 := rfl
 rw [h2]
 simp only [IntKind.wrap, IntKind.bits, IntKind.signed, Bool.false_and, Bool.false_eq_true, if_false]
 omega
def wr (v : Nat) : List UInt8 := (UInt8.ofNat (v / 256 ^ fol v) ||| UInt8.ofNat (255 - 255 / 2 ^ fol v)) :: be (fol v) v
end Go.Vc
namespace Go.Vc
open Go Go.Proofs
set_option maxRecDepth 100000
theorem isnil {a : List UInt8} {bb : Bool} (hb : bs a ≠ [] → bb = false) (h : bb = true) : a = [] := by
 cases a with
 | nil => rfl
 | cons c r => rw [hb (by simp [bs])] at h; cases h
def horner (v : Nat) (xs : List UInt8) : Nat := xs.foldl (fun v x => v * 256 + x.toNat) v
theorem bs_take (a : List UInt8) (n : Nat) : (bs a).take n = bs (a.take n) := by simp [bs, List.map_take]
theorem bs_drop (a : List UInt8) (n : Nat) : (bs a).drop n = bs (a.drop n) := by simp [bs, List.map_drop]
end Go.Vc
namespace Go.Vc
open Go Go.Proofs
set_option maxRecDepth 100000
theorem wrap64hi {n : Int} (h0 : 9223372036854775808 ≤ n) (h1 : n < 18446744073709551616) : IntKind.i64.wrap n = n - 18446744073709551616 := by
 simp only [IntKind.wrap, IntKind.bits, IntKind.signed]
 have : n % 2 ^ 64 = n := Int.emod_eq_of_lt (by omega) (by omega)
 simp only [this, Bool.true_and, decide_eq_true_eq]
 rw [if_pos (by omega)]; rfl
end Go.Vc
namespace Go.Vc
open Go Go.Proofs
set_option maxRecDepth 100000
theorem str_bs (a : List UInt8) : (bs a).map PV.u8 = a := by
 unfold bs
 rw [List.map_map]
 conv => rhs; rw [← List.map_id a]
 refine List.map_congr_left fun c _ => ?_
 show UInt8.ofNat ((c.toNat : Int)).toNat = c
 rw [Int.toNat_natCast, UInt8.ofNat_toNat]
theorem bs_int (a : List UInt8) : ∀ u ∈ bs a, ∃ n, u = .int .u8 n := fun u hu => by
 obtain ⟨c, _, rfl⟩ := List.mem_map.1 hu
 exact ⟨_, rfl⟩
end Go.Vc
