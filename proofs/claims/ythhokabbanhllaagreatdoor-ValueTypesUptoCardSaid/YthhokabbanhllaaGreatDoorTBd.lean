/- What is proved here: contracts of functions of the program: of each function what it hands back and what it leaves in memory. Conditions: those that each theorem names. -/
import Derived.Test.YthhokabbanhllaaGreatDoorTBc
set_option linter.unusedVariables false
set_option linter.unusedSimpArgs false
set_option linter.unusedSectionVars false
namespace Go.Vc
open Go Go.Proofs
set_option maxRecDepth 100000
inductive Sh where
 | mk (k : Int) (ns : List (List UInt8)) (l : List Sh)
def Sh.k : Sh → Int | .mk k _ _ => k
def Sh.ns : Sh → List (List UInt8) | .mk _ ns _ => ns
def Sh.l : Sh → List Sh | .mk _ _ l => l
def fieldsT : List (List UInt8) → List (List UInt8) → List UInt8
 | [n], [t] => n ++ 58 :: t
 | n :: ns, t :: ts => n ++ 58 :: (t ++ 44 :: fieldsT ns ts)
 | _, _ => []
def preT : List (List UInt8) → List (List UInt8) → List UInt8
 | n :: ns, t :: ts => n ++ 58 :: (t ++ 44 :: preT ns ts)
 | _, _ => []
inductive IsT : Sh → List UInt8 → Prop
 | word (w : List UInt8) (h : w ∈ wordsR) : IsT (.mk (kindM w) [] []) w
 | list (s : Sh) (t : List UInt8) (h : IsT s t) : IsT (.mk 4 [] [s]) (91 :: (t ++ [93]))
 | recd (ns : List (List UInt8)) (l : List Sh) (ts : List (List UInt8)) (h1 : ns.length = l.length) (h2 : l.length = ts.length) (hr : rise [] ns = true)
   (h : ∀ (i : Nat) s t, l[i]? = some s → ts[i]? = some t → IsT s t) : IsT (.mk 5 ns l) (123 :: (fieldsT ns ts ++ [125]))
theorem fields_snoc : ∀ (ns ts : List (List UInt8)) (n t : List UInt8), ns.length = ts.length → fieldsT (ns ++ [n]) (ts ++ [t]) = preT ns ts ++ (n ++ 58 :: t)
 | [], [], n, t, _ => rfl
 | [], _ :: _, n, t, h => by simp at h
 | _ :: _, [], n, t, h => by simp at h
 | [a], [b], n, t, _ => by simp [fieldsT, preT]
 | [a], _ :: _ :: _, n, t, h => by simp at h
 | _ :: _ :: _, [b], n, t, h => by simp at h
 | a :: a2 :: ns, b :: b2 :: ts, n, t, h => by
  have := fields_snoc (a2 :: ns) (b2 :: ts) n t (by simpa using h)
  simp only [List.cons_append] at this ⊢
  simp only [fieldsT, this, preT]
  simp
theorem pre_snoc : ∀ (ns ts : List (List UInt8)) (n t : List UInt8), ns.length = ts.length → preT (ns ++ [n]) (ts ++ [t]) = preT ns ts ++ (n ++ 58 :: (t ++ [44]))
 | [], [], n, t, _ => by simp [preT]
 | [], _ :: _, n, t, h => by simp at h
 | _ :: _, [], n, t, h => by simp at h
 | a :: ns, b :: ts, n, t, h => by
  have := pre_snoc ns ts n t (by simpa using h)
  simp only [List.cons_append, preT, this]
  simp
theorem names_no : ∀ {n : List UInt8} (f : Bool), inNames f n = true → ∀ c ∈ n, ¬ c = 58
 | [], _, _, c, hc => by cases hc
 | a :: r, f, h2, c, hc => by
  simp only [inNames, Bool.and_eq_true] at h2
  rcases List.mem_cons.1 hc with rfl | hc
  ·intro e; subst e
   have := h2.1
   cases f <;> exact absurd this (by decide)
  ·exact names_no false h2.2 c hc
theorem name_colon {n : List UInt8} (h : isName n = true) : ∀ c ∈ n, ¬ c = 58 := by
 simp only [isName, Bool.and_eq_true] at h
 exact names_no true h.2
theorem idx_none : ∀ {n : List UInt8} (r : List UInt8), (∀ c ∈ n, ¬ c = 58) → idxL (fun b => b == 58) (n ++ 58 :: r) = n.length
 | [], r, _ => rfl
 | a :: n, r, h => by
  have h1 : (a == 58) = false := by simpa using h a (by simp)
  have h2 := idx_none (n := n) r (fun c hc => h c (by simp [hc]))
  simp only [List.cons_append, idxL, h1, h2]
  rw [if_neg (by simp), if_neg (by omega)]
  simp
theorem cut_name {n : List UInt8} (r : List UInt8) (h : isName n = true) : cutM (n ++ 58 :: r) = (n, r, true) := by
 have h1 : colon (n ++ 58 :: r) = n.length := by rw [colon_idx]; exact idx_none r (name_colon h)
 rw [cutM_at h1 (by simp)]
 simp
theorem fields_cons {n t : List UInt8} {ns ts : List (List UInt8)} (h : ns ≠ []) (hl : ns.length = ts.length) : fieldsT (n :: ns) (t :: ts) = n ++ 58 :: (t ++ 44 :: fieldsT ns ts) := by
 cases ns with
 | nil => exact absurd rfl h
 | cons a ns => cases ts with
  | nil => simp at hl
  | cons b ts => rfl
theorem fields_len : ∀ {ns ts : List (List UInt8)}, ns.length = ts.length → ∀ i t, ts[i]? = some t → t.length + i + 1 ≤ (fieldsT ns ts).length
 | [], [], _, i, t, h => by simp at h
 | [], _ :: _, hl, _, _, _ => by simp at hl
 | _ :: _, [], hl, _, _, _ => by simp at hl
 | [a], [b], _, i, t, h => by
  cases i with
  | zero => simp at h; subst h; simp [fieldsT] <;> omega
  | succ i => simp at h
 | [a], _ :: _ :: _, hl, _, _, _ => by simp at hl
 | _ :: _ :: _, [b], hl, _, _, _ => by simp at hl
 | a :: a2 :: ns, b :: b2 :: ts, hl, i, t, h => by
  have e := fields_cons (n := a) (t := b) (ns := a2 :: ns) (ts := b2 :: ts) (by simp) (by simpa using hl)
  rw [e]
  cases i with
  | zero => simp at h; subst h; simp <;> omega
  | succ i =>
   have := fields_len (ns := a2 :: ns) (ts := b2 :: ts) (by simpa using hl) i t (by simpa using h)
   simp; omega
theorem name_head {n : List UInt8} (h : isName n = true) : ∃ c r, n = c :: r ∧ low c = true := by
 cases n with
 | nil => simp [isName] at h
 | cons c r =>
  refine ⟨c, r, rfl, ?_⟩
  simp only [isName, Bool.and_eq_true, inNames, inName] at h
  have := h.2.1
  simp [low] at this ⊢
  exact this
theorem recP_text : ∀ (ns : List (List UInt8)) (l : List Sh) (ts : List (List UInt8)) (last : List UInt8) (n : Nat) (r : List UInt8), ns ≠ [] → ns.length = l.length → l.length = ts.length → rise last ns = true →
  (∀ (i : Nat) s t, l[i]? = some s → ts[i]? = some t → ∀ m r, t.length ≤ m → partM m (t ++ r) = some r) → (fieldsT ns ts).length + 1 ≤ n → recPM n last (fieldsT ns ts ++ 125 :: r) = some r
 | [], _, _, _, _, _, h, _, _, _, _, _ => absurd rfl h
 | _ :: _, [], _, _, _, _, _, h, _, _, _, _ => by simp at h
 | _ :: _, _ :: _, [], _, _, _, _, _, h, _, _, _ => by simp at h
 | a :: ns, s :: l, t :: ts, last, n, r, _, h1, h2, hr, ht, hn => by
  simp only [rise, Bool.and_eq_true] at hr
  obtain ⟨⟨hr1, hr2⟩, hr3⟩ := hr
  have hl : (a :: ns).length = (t :: ts).length := by rw [h1, h2]
  have hfl := fields_len hl 0 t rfl
  obtain ⟨n, rfl⟩ : ∃ k, n = k + 1 := ⟨n - 1, by omega⟩
  rw [recP_eq]
  by_cases hns : ns = []
  ·subst hns
   have : ts = [] := by cases ts with | nil => rfl | cons => simp at hl
   subst this
   have e : fieldsT [a] [t] ++ 125 :: r = a ++ 58 :: (t ++ 125 :: r) := by simp [fieldsT]
   rw [e, cut_name _ hr2]
   rw [if_pos (by simp only [hr1, hr2]; rfl)]
   rw [ht 0 s t rfl rfl n _ (by omega)]
   rfl
  ·rw [fields_cons hns (by simpa using hl)] at hn ⊢
   have e : a ++ 58 :: (t ++ 44 :: fieldsT ns ts) ++ 125 :: r = a ++ 58 :: (t ++ 44 :: (fieldsT ns ts ++ 125 :: r)) := by simp
   rw [e, cut_name _ hr2]
   rw [if_pos (by simp only [hr1, hr2]; rfl)]
   simp only [List.length_append, List.length_cons] at hn
   rw [ht 0 s t rfl rfl n _ (by omega)]
   exact recP_text ns l ts a n r hns (by simpa using h1) (by simpa using h2) hr3 (fun i s t h3 h4 => ht (i + 1) s t (by simpa using h3) (by simpa using h4)) (by omega)
theorem part_text {s : Sh} {t : List UInt8} (h : IsT s t) : ∀ (n : Nat) (r : List UInt8), t.length ≤ n → partM n (t ++ r) = some r := by
 induction h with
 | word w hw =>
  intro n r hn
  obtain ⟨c, q, e, _⟩ : ∃ c q, w = c :: q ∧ low c = true := by
   simp only [wordsR, List.mem_cons, List.not_mem_nil, or_false] at hw
   rcases hw with rfl | rfl | rfl | rfl | rfl <;> exact ⟨_, _, rfl, by decide⟩
  obtain ⟨n, rfl⟩ : ∃ k, n = k + 1 := ⟨n - 1, by rw [e] at hn; simp at hn; omega⟩
  unfold partM
  rw [(words_kind hw).2.2 r]
 | list s t h ih =>
  intro n r hn
  simp only [List.length_cons, List.length_append, List.length_nil] at hn
  obtain ⟨n, rfl⟩ : ∃ k, n = k + 1 := ⟨n - 1, by omega⟩
  rw [show (91 :: (t ++ [93])) ++ r = 91 :: (t ++ 93 :: r) by simp, part_91, ih n _ (by omega)]
  rfl
 | recd ns l ts h1 h2 hr h ih =>
  intro n r hn
  simp only [List.length_cons, List.length_append, List.length_nil] at hn
  obtain ⟨n, rfl⟩ : ∃ k, n = k + 1 := ⟨n - 1, by omega⟩
  rw [show (123 :: (fieldsT ns ts ++ [125])) ++ r = 123 :: (fieldsT ns ts ++ 125 :: r) by simp, part_123]
  by_cases hns : ns = []
  ·subst hns
   have : fieldsT [] ts = [] := by cases ts <;> rfl
   rw [this]; simp
  ·obtain ⟨a, ns, rfl⟩ : ∃ a q, ns = a :: q := by cases ns with | nil => exact absurd rfl hns | cons a q => exact ⟨a, q, rfl⟩
   obtain ⟨t, ts, rfl⟩ : ∃ a q, ts = a :: q := by cases ts with | nil => rw [h2] at h1; simp at h1 | cons a q => exact ⟨a, q, rfl⟩
   have hnm : isName a = true := by simp only [rise, Bool.and_eq_true] at hr; exact hr.1.2
   obtain ⟨c, q, e, hc⟩ := name_head hnm
   have hh : (fieldsT (a :: ns) (t :: ts) ++ 125 :: r).head? = some c := by
    subst e
    cases ns <;> cases ts <;> simp [fieldsT] <;> first | rfl | (simp at h1 h2; omega)
   rw [hh, if_neg (by intro e2; rw [Option.some.inj e2] at hc; exact absurd hc (by decide))]
   exact recP_text (a :: ns) l (t :: ts) [] n r (by simp) h1 h2 hr ih (by omega)
theorem part_inv : ∀ n, (∀ t l, partM n t = some l → ∃ s w, IsT s w ∧ t = w ++ l) ∧
  (∀ last t l, recPM n last t = some l → ∃ (ns : List (List UInt8)) (ls : List Sh) (ts : List (List UInt8)), ns ≠ [] ∧ ns.length = ls.length ∧ ls.length = ts.length ∧ rise last ns = true ∧ (∀ (i : Nat) s t, ls[i]? = some s → ts[i]? = some t → IsT s t) ∧ t = fieldsT ns ts ++ 125 :: l)
 | 0 => ⟨fun t l h => by simp [partM] at h, fun last t l h => by simp [recPM] at h⟩
 | n + 1 => by
  obtain ⟨ihr, ihc⟩ := part_inv n
  refine ⟨fun t l h => ?_, fun last t l h => ?_⟩
  ·unfold partM at h
   split at h
   ·rename_i l' e
    obtain ⟨w, hw, rfl⟩ := preW_some e
    exact ⟨_, w, .word w hw, by rw [Option.some.inj h]⟩
   ·split at h
    ·rename_i r _
     split at h
     ·rename_i l' e
      obtain ⟨s, w, hw, e2⟩ := ihr _ _ e
      exact ⟨_, _, .list s w hw, by rw [e2, ← Option.some.inj h]; simp⟩
     ·exact absurd h (by simp)
    ·rename_i r _
     exact ⟨_, _, .recd [] [] [] rfl rfl rfl (fun i s t h => by simp at h), by rw [← Option.some.inj h]; rfl⟩
    ·rename_i r _ _
     obtain ⟨ns, ls, ts, h0, h1, h2, h3, h4, h5⟩ := ihc _ _ _ h
     exact ⟨_, _, .recd ns ls ts h1 h2 h3 h4, by rw [h5]; simp⟩
    ·exact absurd h (by simp)
  ·rw [recP_eq] at h
   split at h
   ·rename_i hc
    simp only [Bool.and_eq_true] at hc
    have hcut := cut_eq hc.1.1
    split at h
    ·rename_i l' e
     obtain ⟨s, w, hw, e2⟩ := ihr _ _ e
     refine ⟨[(cutM t).1], [s], [w], by simp, rfl, rfl, by simp only [rise, hc.1.2, hc.2, Bool.and_self], ?_, ?_⟩
     ·intro i s' t' h3 h4
      cases i with
      | zero => simp at h3 h4; subst h3; subst h4; exact hw
      | succ i => simp at h3
     ·rw [← Option.some.inj h]
      conv => lhs; rw [hcut, e2]
      simp [fieldsT]
    ·rename_i r e
     obtain ⟨s, w, hw, e2⟩ := ihr _ _ e
     obtain ⟨ns, ls, ts, h0, h1, h2, h3, h4, h5⟩ := ihc _ _ _ h
     refine ⟨(cutM t).1 :: ns, s :: ls, w :: ts, by simp, by simp [h1], by simp [h2], by simp only [rise, hc.1.2, hc.2, h3, Bool.and_self], ?_, ?_⟩
     ·intro i s' t' h6 h7
      cases i with
      | zero => simp at h6 h7; subst h6; subst h7; exact hw
      | succ i => exact h4 i s' t' (by simpa using h6) (by simpa using h7)
     ·rw [fields_cons h0 (by rw [h1, h2])]
      conv => lhs; rw [hcut, e2, h5]
      simp
    ·exact absurd h (by simp)
   ·exact absurd h (by simp)
theorem fits_text (t : List UInt8) : fitsT t = true ↔ t.length ≤ 64 ∧ ∃ s, IsT s t := by
 rw [fits_part, Bool.and_eq_true, decide_eq_true_eq, beq_iff_eq]
 refine and_congr_right fun _ => ⟨fun h => ?_, fun ⟨s, h⟩ => ?_⟩
 ·obtain ⟨s, w, hw, e⟩ := (part_inv _).1 _ _ h
  rw [List.append_nil] at e
  exact ⟨s, by rw [e]; exact hw⟩
 ·have := part_text h (2 * t.length + 1) [] (by omega)
  rwa [List.append_nil] at this
theorem IsT.ne {s : Sh} {t : List UInt8} (h : IsT s t) : t ≠ [] := by
 cases h with
 | word w hw =>
  simp only [wordsR, List.mem_cons, List.not_mem_nil, or_false] at hw
  rcases hw with rfl | rfl | rfl | rfl | rfl <;> simp
 | list => simp
 | recd => simp
theorem list_text {s : Sh} {t : List UInt8} (h : IsT s (91 :: (t ++ [93]))) : ∃ x, s = .mk 4 [] [x] ∧ IsT x t := by
 generalize hu : 91 :: (t ++ [93]) = u at h
 cases h with
 | word w hw =>
  subst hu
  simp only [wordsR, List.mem_cons, List.not_mem_nil, or_false] at hw
  rcases hw with h | h | h | h | h <;> exact absurd (List.cons.inj h).1 (by decide)
 | list s t' h =>
  have := (List.cons.inj hu).2
  have := (List.append_inj' this rfl).1
  subst this
  exact ⟨s, rfl, h⟩
 | recd => exact absurd (List.cons.inj hu).1 (by decide)
end Go.Vc
