/- What is proved here: contracts of functions of the program: of each function what it hands back and what it leaves in memory. Conditions: those that each theorem names. -/
import Derived.Test.YthhokabbanhllaaGreatDoorTBd
import Derived.Test.YthhokabbanhllaaGreatDoorTAr
set_option linter.unusedVariables false
set_option linter.unusedSimpArgs false
set_option linter.unusedSectionVars false
namespace Go.Vc
open Go Go.Proofs
set_option maxRecDepth 100000
theorem text_split {s s' : Sh} {t t' r r' : List UInt8} (h : IsT s t) (h' : IsT s' t') (e : t ++ r = t' ++ r') : t = t' ∧ r = r' := by
 have h1 := part_text h (t.length + t'.length) r (by omega)
 have h2 := part_text h' (t.length + t'.length) r' (by omega)
 rw [e, h2] at h1
 have := Option.some.inj h1
 subst this
 exact ⟨List.append_cancel_right e, rfl⟩
theorem colon_split : ∀ {a b x y : List UInt8}, (∀ c ∈ a, ¬ c = 58) → (∀ c ∈ b, ¬ c = 58) → a ++ 58 :: x = b ++ 58 :: y → a = b ∧ x = y
 | [], [], _, _, _, _, h => ⟨rfl, (List.cons.inj h).2⟩
 | [], c :: b, _, _, _, hb, h => absurd (List.cons.inj h).1.symm (hb c (by simp))
 | c :: a, [], _, _, ha, _, h => absurd (List.cons.inj h).1 (ha c (by simp))
 | c :: a, d :: b, _, _, ha, hb, h => by
  obtain ⟨h1, h2⟩ := List.cons.inj h
  obtain ⟨h3, h4⟩ := colon_split (fun c hc => ha c (by simp [hc])) (fun c hc => hb c (by simp [hc])) h2
  exact ⟨by rw [h1, h3], h4⟩
theorem fields_inj : ∀ (ns ts ns' ts' : List (List UInt8)) (l l' : List Sh) (d d' : List UInt8), ns.length = l.length → l.length = ts.length → ns'.length = l'.length → l'.length = ts'.length → rise d ns = true → rise d' ns' = true →
  (∀ (i : Nat) s t, l[i]? = some s → ts[i]? = some t → IsT s t) → (∀ (i : Nat) s t, l'[i]? = some s → ts'[i]? = some t → IsT s t) → fieldsT ns ts ++ [125] = fieldsT ns' ts' ++ [125] → ns = ns' ∧ ts = ts'
 | [], ts, [], ts', l, l', _, _, h1, h2, h1', h2', _, _, _, _, _ => by
  have e1 : ts = [] := List.length_eq_zero_iff.1 (by rw [← h2, ← h1]; rfl)
  have e2 : ts' = [] := List.length_eq_zero_iff.1 (by rw [← h2', ← h1']; rfl)
  exact ⟨rfl, by rw [e1, e2]⟩
 | [], ts, b :: ns', [], l, l', _, _, h1, h2, h1', h2', _, _, _, _, _ => by rw [h2'] at h1'; simp at h1'
 | [], ts, b :: ns', t' :: ts', l, l', _, _, h1, h2, h1', h2', _, hr', _, _, h => by
  exfalso
  simp only [rise, Bool.and_eq_true] at hr'
  obtain ⟨c, r, e, hc⟩ := name_head hr'.1.2
  have e1 : ts = [] := List.length_eq_zero_iff.1 (by rw [← h2, ← h1]; rfl)
  rw [e1] at h
  subst e
  have : c = 125 := by cases ns' <;> cases ts' <;> first | exact (List.cons.inj h).1.symm | (simp at h1' h2'; omega)
  subst this; exact absurd hc (by decide)
 | a :: ns, [], ns', ts', l, l', _, _, h1, h2, _, _, _, _, _, _, _ => by rw [h2] at h1; simp at h1
 | a :: ns, t :: ts, [], ts', l, l', _, _, h1, h2, h1', h2', hr, _, _, _, h => by
  exfalso
  simp only [rise, Bool.and_eq_true] at hr
  obtain ⟨c, r, e, hc⟩ := name_head hr.1.2
  have e1 : ts' = [] := List.length_eq_zero_iff.1 (by rw [← h2', ← h1']; rfl)
  rw [e1] at h
  subst e
  have : c = 125 := by cases ns <;> cases ts <;> first | exact (List.cons.inj h).1 | (simp at h1 h2; omega)
  subst this; exact absurd hc (by decide)
 | a :: ns, t :: ts, b :: ns', [], l, l', _, _, _, _, h1', h2', _, _, _, _, _ => by rw [h2'] at h1'; simp at h1'
 | a :: ns, t :: ts, b :: ns', t' :: ts', l, l', _, _, h1, h2, h1', h2', hr, hr', hs, hs', h => by
  obtain ⟨s, l, rfl⟩ : ∃ s q, l = s :: q := by cases l with | nil => simp at h1 | cons s q => exact ⟨s, q, rfl⟩
  obtain ⟨s', l', rfl⟩ : ∃ s q, l' = s :: q := by cases l' with | nil => simp at h1' | cons s q => exact ⟨s, q, rfl⟩
  simp only [rise, Bool.and_eq_true] at hr hr'
  have m1 : ns.length = l.length := by simpa using h1
  have m2 : l.length = ts.length := by simpa using h2
  have m1' : ns'.length = l'.length := by simpa using h1'
  have m2' : l'.length = ts'.length := by simpa using h2'
  have e1 : ∀ (a : List UInt8) (ns : List (List UInt8)) (t : List UInt8) (ts : List (List UInt8)), ns.length = ts.length → ∃ z, fieldsT (a :: ns) (t :: ts) ++ [125] = a ++ 58 :: (t ++ z) ∧ (ns = [] → z = [125]) ∧ (ns ≠ [] → z = 44 :: (fieldsT ns ts ++ [125])) := fun a ns t ts hl => by
   by_cases hn : ns = []
   ·subst hn
    have : ts = [] := List.length_eq_zero_iff.1 hl.symm
    subst this
    exact ⟨[125], by simp [fieldsT], fun _ => rfl, fun h => absurd rfl h⟩
   ·exact ⟨44 :: (fieldsT ns ts ++ [125]), by rw [fields_cons hn hl]; simp, fun h => absurd h hn, fun _ => rfl⟩
  obtain ⟨z, a1, a2, a3⟩ := e1 a ns t ts (m1.trans m2)
  obtain ⟨z', b1, b2, b3⟩ := e1 b ns' t' ts' (m1'.trans m2')
  rw [a1, b1] at h
  obtain ⟨h3, h4⟩ := colon_split (name_colon hr.1.2) (name_colon hr'.1.2) h
  obtain ⟨h5, h6⟩ := text_split (hs 0 s t rfl rfl) (hs' 0 s' t' rfl rfl) h4
  subst h3; subst h5
  by_cases hn : ns = []
  ·by_cases hn' : ns' = []
   ·subst hn; subst hn'
    rw [List.length_eq_zero_iff.1 (m1.trans m2).symm, List.length_eq_zero_iff.1 (m1'.trans m2').symm]
    exact ⟨rfl, rfl⟩
   ·rw [a2 hn, b3 hn'] at h6
    exact absurd (List.cons.inj h6).1 (by decide)
  ·by_cases hn' : ns' = []
   ·rw [a3 hn, b2 hn'] at h6
    exact absurd (List.cons.inj h6).1 (by decide)
   ·rw [a3 hn, b3 hn'] at h6
    obtain ⟨h7, h8⟩ := fields_inj ns ts ns' ts' l l' a a m1 m2 m1' m2' hr.2 hr'.2 (fun i s t h3 h4 => hs (i + 1) s t (by simpa using h3) (by simpa using h4)) (fun i s t h3 h4 => hs' (i + 1) s t (by simpa using h3) (by simpa using h4)) (List.cons.inj h6).2
    exact ⟨by rw [h7], by rw [h8]⟩
theorem word_head {w : List UInt8} (hw : w ∈ wordsR) : ∃ c q, w = c :: q ∧ low c = true := by
 simp only [wordsR, List.mem_cons, List.not_mem_nil, or_false] at hw
 rcases hw with rfl | rfl | rfl | rfl | rfl <;> exact ⟨_, _, rfl, by decide⟩
theorem IsT.uni {s : Sh} {t : List UInt8} (h : IsT s t) : ∀ {s' : Sh}, IsT s' t → s = s' := by
 induction h with
 | word w hw =>
  intro s' h'
  obtain ⟨c, q, e, hc⟩ := word_head hw
  cases h' with
  | word => rfl
  | list => exact absurd hc (by rw [← (List.cons.inj e).1]; decide)
  | recd => exact absurd hc (by rw [← (List.cons.inj e).1]; decide)
 | list s t h ih =>
  intro s' h'
  obtain ⟨x, rfl, hx⟩ := list_text h'
  rw [ih hx]
 | recd ns l ts h1 h2 hr h ih =>
  intro s' h'
  generalize hu : 123 :: (fieldsT ns ts ++ [125]) = u at h'
  cases h' with
  | word w hw =>
   obtain ⟨c, q, e, hc⟩ := word_head hw
   rw [← hu] at e
   exact absurd hc (by rw [← (List.cons.inj e).1]; decide)
  | list => exact absurd (List.cons.inj hu).1 (by decide)
  | recd ns' l' ts' h1' h2' hr' h' =>
   obtain ⟨e1, e2⟩ := fields_inj ns ts ns' ts' l l' [] [] h1 h2 h1' h2' hr hr' h h' (List.cons.inj hu).2
   subst e1; subst e2
   have : l = l' := by
    apply List.ext_getElem?
    intro i
    by_cases hi : i < l.length
    ·have hi' : i < l'.length := by omega
     have ht : i < ts.length := by omega
     rw [List.getElem?_eq_getElem hi, List.getElem?_eq_getElem hi']
     exact congrArg some (ih i l[i] ts[i] (List.getElem?_eq_getElem hi) (List.getElem?_eq_getElem ht) (h' i l'[i] ts[i] (List.getElem?_eq_getElem hi') (List.getElem?_eq_getElem ht)))
    ·rw [List.getElem?_eq_none (by omega), List.getElem?_eq_none (by omega)]
   rw [this]
def S0 : Sh := .mk 0 [] []
open Classical in
noncomputable def treeT (t : List UInt8) : Sh := if h : ∃ s, IsT s t then h.choose else S0
theorem tree_of {s : Sh} {t : List UInt8} (h : IsT s t) : treeT t = s := by
 have hx : ∃ s, IsT s t := ⟨s, h⟩
 unfold treeT
 rw [dif_pos hx]
 exact hx.choose_spec.uni h
theorem tree_fits {t : List UInt8} (h : fitsT t = true) : IsT (treeT t) t ∧ t.length ≤ 64 := by
 obtain ⟨h1, s, h2⟩ := (fits_text t).1 h
 rw [tree_of h2]
 exact ⟨h2, h1⟩
mutual
def hasT : V → Sh → Bool
 | .mk k _ _ l ns, sh => k == sh.k && cmpNs ns sh.ns == 0 && hasL l sh.k sh.l
def hasL : List V → Int → List Sh → Bool
 | [], _, _ => true
 | v :: r, k, ss => hasT v (ss.headD S0) && hasL r k (if k = 4 then ss else ss.tail)
end
noncomputable def isVB (v : V) (t : List UInt8) : Bool := fitsT t && mayV v && hasT v (treeT t)
theorem hasL_list : ∀ (l : List V) (x : Sh), hasL l 4 [x] = l.all fun v => hasT v x
 | [], x => rfl
 | v :: r, x => by
  rw [hasL, if_pos rfl, hasL_list r x]
  rfl
end Go.Vc
