/- What is proved here: contracts of functions of the program: of each function what it hands back and what it leaves in memory. Conditions: those that each theorem names. -/
import Derived.Test.YtmbopgmllnijjaaCc
set_option linter.unusedVariables false
set_option linter.unusedSimpArgs false
set_option linter.unusedSectionVars false
namespace Go.Vc
open Go Go.Proofs
set_option maxRecDepth 100000
theorem textM_b {p : PG} {n : Int} (h : (textM p n).2 = true) : 0 ≤ n ∧ n < p.consts.length := by
  unfold textM at h
  split at h
  · rename_i h0
    split at h
    · rename_i v hv
      have := (List.getElem?_eq_some_iff.1 hv).1
      exact ⟨h0, by omega⟩
    · cases h
  · cases h
theorem namedM_b {p : PG} {n : Int} (h : namedM p n = true) : 0 ≤ n ∧ n < p.consts.length := by
  unfold namedM at h
  rw [Bool.and_eq_true] at h
  exact textM_b h.1
theorem inB_b {n : Int} {m : Nat} (h : inB n m = true) : 0 ≤ n ∧ n < m := by
  unfold inB at h
  simpa using h
end Go.Vc
namespace Go.Vc
open Go Go.Proofs
set_option maxRecDepth 100000
/-! A constant more, a function more. -/
def exN : List UInt8 := [101, 120, 116, 114, 97]
def exF (m : Nat) : FD := ⟨exN, 0, 0, [⟨1, m, 0⟩, ⟨30, 0, 0⟩]⟩
def moreP (p : PG) (n : Int) : PG := ⟨p.funcs ++ [exF p.consts.length], p.consts ++ [.mk 1 n [] [] []]⟩
theorem idxL_range {α : Type} (P : α → Bool) (l : List α) : -1 ≤ idxL P l ∧ idxL P l < l.length := idxL_ge P l
theorem idxL_snoc {α : Type} (P : α → Bool) (e : α) : ∀ l : List α, idxL P (l ++ [e]) = if idxL P l = -1 then (if P e = true then (l.length : Int) else -1) else idxL P l
  | [] => by simp only [List.nil_append, idxL, List.length_nil]; split <;> simp
  | f :: r => by
    have h := idxL_range P r
    have h2 := idxL_range P (r ++ [e])
    simp only [List.cons_append, idxL]
    rw [idxL_snoc P e r]
    by_cases hf : P f = true
    · simp [hf]
    · simp only [hf, if_false, Bool.false_eq_true]
      by_cases h0 : idxL P r = -1
      · simp only [h0, if_true]
        by_cases he : P e = true
        · simp only [he, if_true, List.length_cons]
          rw [if_neg (by omega)]
          omega
        · simp [he]
      · simp only [h0, if_false]
        rw [if_neg (by omega)]
theorem get_snoc {α : Type} {l : List α} {e : α} {i : Nat} (h : i < l.length) : (l ++ [e])[i]? = l[i]? := List.getElem?_append_left h
variable {p : PG} {n : Int}
theorem funcs_get {i : Nat} (h : i < p.funcs.length) : (moreP p n).funcs[i]? = p.funcs[i]? := get_snoc h
theorem consts_get {i : Nat} (h : i < p.consts.length) : (moreP p n).consts[i]? = p.consts[i]? := get_snoc h
theorem textM_more {i : Int} (h : (textM p i).2 = true) : textM (moreP p n) i = textM p i := by
  have hb := textM_b h
  unfold textM
  rw [if_pos hb.1, if_pos hb.1]
  rw [consts_get (by omega)]
theorem findM_more {s : List UInt8} (h : 0 ≤ findM p s) : findM (moreP p n) s = findM p s := by
  unfold findM at h ⊢
  show idxL _ (p.funcs ++ [_]) = _
  rw [idxL_snoc, if_neg (by omega)]
theorem ask_more {x : IN} (h : askM p x = true) : askM (moreP p n) x = true := by
  unfold askM at h ⊢
  split at h
  · rename_i h1
    rw [if_pos h1]
    unfold namedM at h ⊢
    have h2 := h
    rw [Bool.and_eq_true] at h2
    rw [textM_more h2.1]; exact h
  · rename_i h1
    rw [if_neg h1]
    split at h
    · rename_i h4
      rw [if_pos h4]
      have h2 := h
      simp only [Bool.and_eq_true, decide_eq_true_eq] at h2
      rw [textM_more h2.1.1, findM_more h2.1.2]
      have hr := (idxL_range (fun f : FD => f.name == (textM p x.b).1) p.funcs).2
      have hlt : (findM p (textM p x.b).1).toNat < p.funcs.length := by unfold findM at h2 ⊢; omega
      rw [funcs_get hlt]; exact h
    · rename_i h4
      rw [if_neg h4]; exact h
theorem inB_more {i : Int} {m : Nat} (h : inB i m = true) : inB i (m + 1) = true := by
  have := inB_b h
  unfold inB
  simp; omega
theorem ins_more {f : FD} {x : IN} (h : insM p f x = true) : insM (moreP p n) f x = true := by
  unfold insM at h ⊢
  simp only [Bool.and_eq_true] at h ⊢
  refine ⟨h.1, ?_⟩
  have h := h.2
  have hcl : (moreP p n).consts.length = p.consts.length + 1 := by simp [moreP]
  have hfl : (moreP p n).funcs.length = p.funcs.length + 1 := by simp [moreP]
  unfold operandM at h ⊢
  rw [hcl, hfl]
  split at h
  · rename_i c; rw [if_pos c]; exact inB_more h
  rename_i c; rw [if_neg c]
  split at h
  · rename_i c; rw [if_pos c]; exact h
  rename_i c; rw [if_neg c]
  split at h
  · rename_i c; rw [if_pos c]; exact h
  rename_i c; rw [if_neg c]
  split at h
  · rename_i c; rw [if_pos c]
    have h2 := h
    simp only [Bool.and_eq_true] at h2
    have hb := inB_b h2.1
    rw [inB_more h2.1, consts_get (by omega)]
    exact h2.2
  rename_i c; rw [if_neg c]
  split at h
  · rename_i c; rw [if_pos c]
    unfold namedM at h ⊢
    have h2 := h
    rw [Bool.and_eq_true] at h2
    rw [textM_more h2.1]; exact h
  rename_i c; rw [if_neg c]
  split at h
  · rename_i c; rw [if_pos c]
    have h2 := h
    rw [Bool.and_eq_true] at h2
    rw [textM_more h2.1]; exact h
  rename_i c; rw [if_neg c]
  split at h
  · rename_i c; rw [if_pos c]; exact h
  rename_i c; rw [if_neg c]
  split at h
  · rename_i c; rw [if_pos c]; exact inB_more h
  rename_i c; rw [if_neg c]
  split at h
  · rename_i c; rw [if_pos c]; exact ask_more h
  rename_i c; rw [if_neg c]
  exact h
theorem moves_more {f : FD} {x : IN} (h : insM p f x = true) : movesM (moreP p n) x = movesM p x := by
  unfold insM at h
  simp only [Bool.and_eq_true] at h
  have h := h.2
  unfold movesM
  by_cases h21 : x.op = 21
  · have ho : operandM p f x = (inB x.a p.consts.length && (match p.consts[x.a.toNat]? with | some v => recordM v | none => false)) := by
      unfold operandM
      rw [if_neg (by omega), if_neg (by omega), if_neg (by omega), if_pos h21]
      rfl
    rw [ho] at h
    simp only [Bool.and_eq_true] at h
    have hb := inB_b h.1
    rw [consts_get (by omega)]
    have h29 : ¬ x.op = 29 := by omega
    simp only [h21, h29]
    rfl
  · by_cases h29 : x.op = 29
    · have ho : operandM p f x = inB x.a p.funcs.length := by
        unfold operandM
        rw [if_neg (by omega), if_neg (by omega), if_neg (by omega), if_neg (by omega), if_neg (by omega), if_neg (by omega), if_neg (by omega), if_pos h29]
      rw [ho] at h
      have hb := inB_b h
      rw [funcs_get (by omega)]
      simp only [h21, h29]
      rfl
    · simp only [h21, h29, if_false]
theorem find_more (h : findM p exN < 0) : findM (moreP p n) exN = p.funcs.length := by
  have hr := (idxL_range (fun f : FD => f.name == exN) p.funcs).1
  unfold findM at h ⊢
  show idxL _ (p.funcs ++ [_]) = _
  rw [idxL_snoc, if_pos (by omega), if_pos (by rfl)]
theorem count_more (h : findM p exN < 0) (f : FD) (hf : f ∈ p.funcs) : ((moreP p n).funcs.countP fun g => g.name == f.name) = p.funcs.countP fun g => g.name == f.name := by
  show List.countP _ (p.funcs ++ [_]) = _
  rw [List.countP_append]
  have : f.name ≠ exN := fun he => by
    have hn := idxL_any (fun f : FD => f.name == exN) p.funcs
    have : (p.funcs.any fun f => f.name == exN) = true := List.any_eq_true.2 ⟨f, hf, by rw [he]; simp⟩
    rw [this] at hn
    have := of_decide_eq_true hn
    unfold findM at h
    omega
  simp [exF, Ne.symm this]
theorem count_none (h : findM p exN < 0) : (p.funcs.countP fun g => g.name == exN) = 0 := by
  rw [List.countP_eq_zero]
  intro f hf he
  have hn := idxL_any (fun f : FD => f.name == exN) p.funcs
  have : (p.funcs.any fun f => f.name == exN) = true := List.any_eq_true.2 ⟨f, hf, he⟩
  rw [this] at hn
  have := of_decide_eq_true hn
  unfold findM at h
  omega
/-- What may be, may be with a constant and a function more. -/
theorem chk_more (hc : chkM p = 0) (hf : p.funcs.length < 16) (hv : p.consts.length < 256) (h : findM p exN < 0) : chkM (moreP p n) = 0 := by
  have hm := chk_may hc
  obtain ⟨_, hcv⟩ := chk_consts hc
  have hcl : (moreP p n).consts.length = p.consts.length + 1 := by simp [moreP]
  have hfl : (moreP p n).funcs.length = p.funcs.length + 1 := by simp [moreP]
  have hmem : ∀ f, f ∈ (moreP p n).funcs ↔ f ∈ p.funcs ∨ f = exF p.consts.length := fun f => by simp [moreP]
  have hmemc : ∀ v, v ∈ (moreP p n).consts ↔ v ∈ p.consts ∨ v = .mk 1 n [] [] [] := fun v => by simp [moreP]
  unfold chkM
  rw [if_neg, if_neg, if_neg]
  · intro hx
    obtain ⟨f, hf, hx⟩ := List.any_eq_true.1 hx
    obtain ⟨x, hx, hi⟩ := List.any_eq_true.1 hx
    rcases (hmem f).1 hf with hf | rfl
    · rw [ins_more (hm.ins f hf x hx)] at hi; cases hi
    · have : x = ⟨1, p.consts.length, 0⟩ ∨ x = ⟨30, 0, 0⟩ := by simpa [exF] using hx
      rcases this with rfl | rfl
      · have : insM (moreP p n) (exF p.consts.length) ⟨1, p.consts.length, 0⟩ = true := by
          unfold insM operandM inB
          rw [hcl]
          simp
          omega
        rw [this] at hi; cases hi
      · have : insM (moreP p n) (exF p.consts.length) ⟨30, 0, 0⟩ = true := by
          unfold insM operandM
          simp
        rw [this] at hi; cases hi
  · rintro (hx | hx | hx)
    · rw [hx] at hfl; simp at hfl
    · obtain ⟨v, hv, hx⟩ := List.any_eq_true.1 hx
      rcases (hmemc v).1 hv with hv | rfl
      · rw [hcv v hv] at hx; cases hx
      · have : mayV (.mk 1 n [] [] []) = true := by simp [mayV, okV, depthV, depthVs, sizeV, sizeVs, nsLen, allV, allVs, ownB]
        rw [this] at hx; cases hx
    · obtain ⟨f, hf, hx⟩ := List.any_eq_true.1 hx
      rcases (hmem f).1 hf with hf | rfl
      · have hh := hm.head f hf
        have : headM (moreP p n) f = headM p f := by unfold headM; rw [count_more h f hf]
        rw [this, hh] at hx; cases hx
      · have : headM (moreP p n) (exF p.consts.length) = true := by
          unfold headM
          have e : ((moreP p n).funcs.countP fun g => g.name == (exF p.consts.length).name) = 1 := by
            show List.countP _ (p.funcs ++ [_]) = _
            rw [List.countP_append]
            have := count_none h
            show List.countP (fun g => g.name == exN) p.funcs + _ = 1
            rw [this]
            rfl
          rw [e]
          rfl
        rw [this] at hx; cases hx
  · rintro (hx | hx | hx)
    · omega
    · omega
    · obtain ⟨f, hf, hx⟩ := List.any_eq_true.1 hx
      have hx := of_decide_eq_true hx
      rcases (hmem f).1 hf with hf | rfl
      · have := hm.len f hf; omega
      · simp [exF] at hx
end Go.Vc
