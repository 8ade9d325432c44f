/- What is proved here: contracts of functions of the program: of each function what it hands back and what it leaves in memory. Conditions: those that each theorem names. -/
import Derived.Test.YthhokabbanhllaaGreatDoorTAg
set_option linter.unusedVariables false
set_option linter.unusedSimpArgs false
set_option linter.unusedSectionVars false
namespace Go.Vc
open Go
def bs (a : List UInt8) : List PV := a.map fun c => PV.int .u8 c.toNat
theorem bs_len (a : List UInt8) : (bs a).length = a.length := by simp [bs]
theorem nth_bs {a : List UInt8} {i : Nat} (h : i < a.length) : nth (bs a) i = .int .u8 a[i].toNat := by
 unfold nth bs
 rw [List.getD_eq_getElem?_getD, List.getElem?_map, List.getElem?_eq_getElem h]; rfl
theorem bs_flat (a : List UInt8) : ∀ u ∈ bs a, u.cells.length = 1 ∧ u.cells.all PV.flat = true := fun u hu => by
 obtain ⟨c, _, rfl⟩ := List.mem_map.1 hu
 exact ⟨rfl, rfl⟩
theorem bs_app (a b : List UInt8) : bs (a ++ b) = bs a ++ bs b := by simp [bs]
theorem wrap64 {n : Int} (h0 : -9223372036854775808 ≤ n) (h1 : n ≤ 9223372036854775807) : IntKind.i64.wrap n = n := by
 simp only [IntKind.wrap, IntKind.bits, IntKind.signed]
 by_cases h : 0 ≤ n
 ·have : n % 2 ^ 64 = n := Int.emod_eq_of_lt h (by omega)
  simp only [this, Bool.true_and, decide_eq_true_eq]
  rw [if_neg (by omega)]
 ·have : n % 2 ^ 64 = n + 2 ^ 64 := by omega
  simp only [this, Bool.true_and, decide_eq_true_eq]
  rw [if_pos (by omega)]; omega
def buildB (C : Ctx) (fs : List (Nat × Nat)) (n : Nat) : List (Nat × PV) → Bool
 | [] => true
 | (i, v) :: r => (match fs[i]? with | some (off, ty) => Nat.beq v.cells.length (C.size ty) && Nat.ble (off + C.size ty) n && v.cells.all PV.one | none => false) && buildB C fs n r
theorem build_ok {C : Ctx} {fs : List (Nat × Nat)} {n : Nat} : ∀ {l : List (Nat × PV)}, buildB C fs n l = true → buildOk C fs n l
 | [], _ => trivial
 | (i, v) :: r, h => by
  simp only [buildB, Bool.and_eq_true] at h
  refine ⟨?_, build_ok h.2⟩
  cases hf : fs[i]? with
  | none => rw [hf] at h; simp at h
  | some p =>
   obtain ⟨off, ty⟩ := p
   rw [hf] at h
   simp only [Bool.and_eq_true] at h
   exact ⟨Nat.eq_of_beq_eq_true h.1.1.1, Nat.le_of_ble_eq_true h.1.1.2, h.1.2⟩
theorem vs_ok {z : Nat} {h : List (Nat × Blk)} {vs : List PV} (hb : (vs.all fun v => Nat.beq v.cells.length z && (v.cells.map (readCell h)).all PV.flat) = true) : ∀ v ∈ vs, v.cells.length = z ∧ (v.cells.map (readCell h)).all PV.flat = true := fun v hv => by
 have := List.all_eq_true.1 hb v hv
 simp only [Bool.and_eq_true] at this
 exact ⟨Nat.eq_of_beq_eq_true this.1, this.2⟩
theorem us_ok {z : Nat} {l : List PV} (hb : (l.all fun u => Nat.beq u.cells.length z && u.cells.all PV.flat) = true) : ∀ u ∈ l, u.cells.length = z ∧ u.cells.all PV.flat = true := fun v hv => by
 have := List.all_eq_true.1 hb v hv
 simp only [Bool.and_eq_true] at this
 exact ⟨Nat.eq_of_beq_eq_true this.1, this.2⟩
theorem gd2_ok {c b w d u : Bool} (h : (c = true ∧ b = w) ∧ d = u) : (c && b == w && d == u) = true := by simp [h.1.1, h.1.2, h.2]
theorem gd3_ok {c b w d u e v : Bool} (h : ((c = true ∧ b = w) ∧ d = u) ∧ e = v) : (c && b == w && d == u && e == v) = true := by simp [h.1.1.1, h.1.1.2, h.1.2, h.2]
def arrB (z n : Nat) : List (Nat × PV) → Bool
 | [] => true
 | (i, v) :: r => (Nat.beq v.cells.length z && Nat.ble (i * z + z) n && v.cells.all PV.one) && arrB z n r
theorem arr_ok {z n : Nat} : ∀ {l : List (Nat × PV)}, arrB z n l = true → arrOk z n l
 | [], _ => trivial
 | (i, v) :: r, h => by
  simp only [arrB, Bool.and_eq_true] at h
  exact ⟨⟨Nat.eq_of_beq_eq_true h.1.1.1, Nat.le_of_ble_eq_true h.1.1.2, h.1.2⟩, arr_ok h.2⟩
theorem gdT_ok {b want : Bool} (h : True ∧ b = want) : (true && b == want) = true := by simp [h.2]
theorem gdT2_ok {b w d u : Bool} (h : (True ∧ b = w) ∧ d = u) : (true && b == w && d == u) = true := by simp [h.1.2, h.2]
theorem Both.T {b : Bool} {p q : Prop} (hb : b = true) (h : p) : Both (b = true → p) (b = false → q) := ⟨fun _ => h, fun hc => (by rw [hb] at hc; cases hc)⟩
theorem Both.F {b : Bool} {p q : Prop} (hb : b = false) (h : q) : Both (b = true → p) (b = false → q) := ⟨fun hc => (by rw [hb] at hc; cases hc), fun _ => h⟩
theorem Both.GT {c b w : Bool} {p q : Prop} (h1 : c = true) (h2 : b = w) (h : p) : Both (c = true → b = w → p) ((c = true → b = !w) → q) := ⟨fun _ _ => h, fun hc => (by have := hc h1; rw [h2] at this; cases w <;> cases this)⟩
theorem Both.GF {c b w : Bool} {p q : Prop} (h2 : b = !w) (h : q) : Both (c = true → b = w → p) ((c = true → b = !w) → q) := ⟨fun _ hb => (by rw [h2] at hb; cases w <;> cases hb), fun _ => h⟩
theorem Both.GN {c b w : Bool} {p q : Prop} (h1 : c = false) (h : q) : Both (c = true → b = w → p) ((c = true → b = !w) → q) := ⟨fun hc => (by rw [h1] at hc; cases hc), fun _ => h⟩
theorem bs_flat2 (a : List UInt8) (n m : Nat) : ∀ u ∈ List.take n (List.drop m (bs a)), u.cells.length = 1 ∧ u.cells.all PV.flat = true := fun u hu => bs_flat a u (List.mem_of_mem_drop (List.mem_of_mem_take hu))
theorem Cl1 {p : Prop} (h : p := by first | exact rfl | exact Nat.le_of_ble_eq_true rfl | exact fun _ => Nat.le_of_ble_eq_true rfl | exact gd_ok | exact gd2_ok | exact gd3_ok | exact Or.inl rfl | exact build_ok rfl | exact arr_ok rfl | exact vs_ok rfl | exact us_ok rfl | exact List.cons_ne_nil _ _ | exact bs_flat _ | (simp <;> fail)) : p := h
theorem Cl2 {p : Prop} (h : p := by first | exact rfl | exact Nat.le_of_ble_eq_true rfl | exact fun _ => Nat.le_of_ble_eq_true rfl | exact gd_ok | exact gd2_ok | exact gd3_ok | exact Or.inl rfl | exact build_ok rfl | exact arr_ok rfl | exact vs_ok rfl | exact us_ok rfl | exact List.cons_ne_nil _ _ | exact bs_flat _ | assumption | (simp <;> fail)) : p := h
theorem Cl3 {p : Prop} (h : p := by first | exact fun _ => rfl | exact rfl | exact Nat.le_of_ble_eq_true rfl | exact fun _ => Nat.le_of_ble_eq_true rfl | exact gd_ok | exact gd2_ok | exact gd3_ok | exact Or.inl rfl | exact build_ok rfl | exact arr_ok rfl | exact vs_ok rfl | exact us_ok rfl | exact List.cons_ne_nil _ _ | exact bs_flat _ | assumption | exact gdT_ok | exact bs_flat2 _ _ _ | exact gdT2_ok | exact fun h => absurd h.2 (by decide) | (simp <;> fail)) : p := h
theorem Cl4 {p : Prop} (h : p := by first | exact fun _ => rfl | exact rfl | exact Nat.le_of_ble_eq_true rfl | exact fun _ => Nat.le_of_ble_eq_true rfl | exact gd_ok | exact gd2_ok | exact gd3_ok | exact Or.inl rfl | exact build_ok rfl | exact arr_ok rfl | exact vs_ok rfl | exact us_ok rfl | exact List.cons_ne_nil _ _ | exact bs_flat _ | assumption | exact gdT_ok | exact bs_flat2 _ _ _ | exact gdT2_ok | exact fun h => absurd h.2 (by decide) | (simp <;> fail) | omega | (simp only [bs_len]; omega) | (intro _; omega) | (intro _; refine And.intro ?_ ?_ <;> first | omega | (simp only [bs_len]; omega))) : p := h
theorem T1 {p q : Prop} (h : p) : Both (true = true → p) (true = false → q) := Both.T rfl h
theorem T2 {p q : Prop} (h : q) : Both (false = true → p) (false = false → q) := Both.F rfl h
theorem T3 {w : Bool} {p q : Prop} (h : p) : Both (true = true → w = w → p) ((true = true → w = !w) → q) := Both.GT rfl rfl h
theorem T4 {c : Bool} {p q : Prop} (h : q) : Both (c = true → false = true → p) ((c = true → false = !true) → q) := Both.GF rfl h
theorem T6 {c : Bool} {p q : Prop} (h : q) : Both (c = true → true = false → p) ((c = true → true = !false) → q) := Both.GF rfl h
theorem T5 {b w : Bool} {p q : Prop} (h : q) : Both (false = true → b = w → p) ((false = true → b = !w) → q) := Both.GN rfl h
end Go.Vc
