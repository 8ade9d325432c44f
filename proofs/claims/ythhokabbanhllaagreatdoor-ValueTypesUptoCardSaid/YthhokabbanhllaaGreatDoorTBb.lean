/- What is proved here: contracts of functions of the program: of each function what it hands back and what it leaves in memory. Conditions: those that each theorem names. -/
import Derived.Test.YthhokabbanhllaaGreatDoorTBa
set_option linter.unusedVariables false
set_option linter.unusedSimpArgs false
set_option linter.unusedSectionVars false
namespace Go.Vc
open Go Go.Proofs
set_option maxRecDepth 100000
def wordsR : List (List UInt8) := [[110, 111, 110, 101], [105, 110, 116], [98, 111, 111, 108], [116, 101, 120, 116], [102, 117, 116, 117, 114, 101]]
def preW (t : List UInt8) : List (List UInt8) → Option (List UInt8)
 | [] => none
 | w :: r => if t.take w.length = w then some (t.drop w.length) else preW t r
mutual
def partM : Nat → List UInt8 → Option (List UInt8)
 | 0, _ => none
 | n + 1, t =>
  match preW t wordsR with
  | some l => some l
  | none =>
   match t with
   | 91 :: r => match partM n r with
    | some (93 :: l) => some l
    | _ => none
   | 123 :: 125 :: r => some r
   | 123 :: r => recPM n [] r
   | _ => none
def recPM : Nat → List UInt8 → List UInt8 → Option (List UInt8)
 | 0, _, _ => none
 | n + 1, last, t =>
  if ((cutM t).2.2 && isName (cutM t).1 && !(Op.bytesLess (cutM t).1 last || (cutM t).1 == last)) = true then
   match partM n (cutM t).2.1 with
   | some (125 :: l) => some l
   | some (44 :: r) => recPM n (cutM t).1 r
   | _ => none
  else none
end
def lastD : List UInt8 → List (List UInt8) → List UInt8
 | d, [] => d
 | _, s :: r => lastD s r
theorem rise_app : ∀ (a b : List (List UInt8)) (d : List UInt8), rise d (a ++ b) = (rise d a && rise (lastD d a) b)
 | [], b, d => by simp [rise, lastD]
 | s :: r, b, d => by
  simp only [List.cons_append, rise, lastD, rise_app r b s, Bool.and_assoc]
theorem lastD_app : ∀ (a : List (List UInt8)) (s d : List UInt8), lastD d (a ++ [s]) = s
 | [], s, d => rfl
 | x :: r, s, d => lastD_app r s x
theorem word_app {w l : List UInt8} (hw : ∀ c ∈ w, low c = true) (hl : ∀ c r, l = c :: r → low c = false) : wordM (w ++ l) = w := by
 unfold wordM
 rw [List.takeWhile_append_of_pos hw]
 cases l with
 | nil => simp
 | cons c r => simp [List.takeWhile, hl c r rfl]
theorem word_split (t : List UInt8) : wordM t ++ t.drop (wordM t).length = t := by
 conv => rhs; rw [← List.take_append_drop (wordM t).length t]
 congr 1
 unfold wordM
 induction t with
 | nil => rfl
 | cons a t ih =>
  by_cases ha : low a = true
  ·rw [List.takeWhile_cons_of_pos ha, List.length_cons, List.take_succ_cons, ← ih]
  ·rw [List.takeWhile_cons_of_neg ha]; rfl
theorem kind_words {w : List UInt8} (h : 0 ≤ kindM w) : w ∈ wordsR := by
 unfold kindM at h
 simp only [wordsR, List.mem_cons, List.not_mem_nil, or_false]
 split at h
 ·exact .inl ‹_›
 split at h
 ·exact .inr (.inl ‹_›)
 split at h
 ·exact .inr (.inr (.inl ‹_›))
 split at h
 ·exact .inr (.inr (.inr (.inl ‹_›)))
 split at h
 ·exact .inr (.inr (.inr (.inr ‹_›)))
 ·omega
theorem words_kind {w : List UInt8} (h : w ∈ wordsR) : 0 ≤ kindM w ∧ (∀ c ∈ w, low c = true) ∧ ∀ l, preW (w ++ l) wordsR = some l := by
 simp only [wordsR, List.mem_cons, List.not_mem_nil, or_false] at h
 rcases h with rfl | rfl | rfl | rfl | rfl
 all_goals refine ⟨by decide, by decide, fun l => ?_⟩
 all_goals simp [preW, wordsR]
theorem preW_some {t l : List UInt8} : ∀ {ws : List (List UInt8)}, preW t ws = some l → ∃ w ∈ ws, t = w ++ l
 | [], h => by simp [preW] at h
 | w :: r, h => by
  unfold preW at h
  split at h
  ·rename_i e
   refine ⟨w, List.mem_cons_self, ?_⟩
   rw [← Option.some.inj h, ← e, List.length_take]
   conv => lhs; rw [← List.take_append_drop w.length t]
   congr 1
   rcases Nat.le_total w.length t.length with h1 | h1
   ·rw [Nat.min_eq_left h1]
   ·rw [Nat.min_eq_right h1, List.drop_eq_nil_of_le h1, List.drop_eq_nil_of_le (Nat.le_refl _)]
  ·obtain ⟨w', h1, h2⟩ := preW_some h
   exact ⟨w', List.mem_cons_of_mem _ h1, h2⟩
theorem preW_head {c : UInt8} {r : List UInt8} (h : low c = false) : preW (c :: r) wordsR = none := by
 cases e : preW (c :: r) wordsR with
 | none => rfl
 | some l =>
  obtain ⟨w, hw, hl⟩ := preW_some e
  have := words_kind hw
  simp only [wordsR, List.mem_cons, List.not_mem_nil, or_false] at hw
  rcases hw with rfl | rfl | rfl | rfl | rfl <;> (simp only [List.cons_append, List.cons.injEq] at hl; rw [hl.1] at h; exact absurd h (by decide))
theorem rec_rise : ∀ (n : Nat) (ns : List (List UInt8)) (t l : List UInt8), recM n ns t = (l, true) → ∃ more, rise [] (ns ++ (cutM t).1 :: more) = true
 | 0, ns, t, l, h => by simp [recM] at h
 | n + 1, ns, t, l, h => by
  unfold recM at h
  split at h
  rename_i l' ok e
  split at h
  ·rename_i r h1
   exact ⟨[], (Prod.mk.inj h).2⟩
  ·rename_i r h1
   obtain ⟨more, hm⟩ := rec_rise n _ _ _ h
   exact ⟨_, by rw [List.append_assoc] at hm; exact hm⟩
  ·exact absurd (Prod.mk.inj h).2 (by decide)
theorem read_part : ∀ n, (∀ t l, readM n t = (l, true) → partM n t = some l) ∧ (∀ ns t l, recM n ns t = (l, true) → recPM n (lastD [] ns) t = some l)
 | 0 => ⟨fun t l h => by simp [readM] at h, fun ns t l h => by simp [recM] at h⟩
 | n + 1 => by
  obtain ⟨ihr, ihc⟩ := read_part n
  refine ⟨fun t l h => ?_, fun ns t l h => ?_⟩
  ·unfold readM at h
   unfold partM
   split at h
   ·rename_i r
    rw [preW_head (by decide)]
    split at h
    ·rename_i l' ok e
     obtain ⟨h1, h2⟩ := Prod.mk.inj h
     subst h1; subst h2
     simp [ihr _ _ e]
    ·exact absurd (Prod.mk.inj h).2 (by decide)
   ·rename_i r
    rw [preW_head (by decide)]
    simp [(Prod.mk.inj h).1]
   ·rename_i r hr
    rw [preW_head (by decide)]
    have := ihc _ _ _ h
    dsimp only
    split
    ·rename_i he; exact absurd (List.cons.inj he).1 (by decide)
    ·rename_i r' he; exact absurd ((List.cons.inj he).2) (hr r')
    ·rename_i r' _ he; rw [← (List.cons.inj he).2]; exact this
    ·rename_i h3; exact absurd rfl (h3 r)
   ·obtain ⟨h1, h2⟩ := Prod.mk.inj h
    have hw := kind_words (of_decide_eq_true h2)
    have := (words_kind hw).2.2 l
    rw [← h1, word_split t] at this
    rw [this, h1]
  ·obtain ⟨more, hm⟩ := rec_rise _ _ _ _ h
   unfold recM at h
   unfold recPM
   rw [rise_app] at hm
   simp only [Bool.and_eq_true, rise] at hm
   obtain ⟨hm0, ⟨hm1, hm2⟩, hm3⟩ := hm
   split at h
   rename_i l' ok e
   split at h
   ·rename_i r h1
    obtain ⟨h2, rfl⟩ : (cutM t).2.2 = true ∧ ok = true := by simpa using h1
    rw [if_pos (by rw [h2, hm2, hm1]; rfl), ihr _ _ e, ← (Prod.mk.inj h).1]
    rfl
   ·rename_i r h1
    obtain ⟨h2, rfl⟩ : (cutM t).2.2 = true ∧ ok = true := by simpa using h1
    rw [if_pos (by rw [h2, hm2, hm1]; rfl), ihr _ _ e]
    have := ihc _ _ _ h
    rw [lastD_app] at this
    exact this
   ·exact absurd (Prod.mk.inj h).2 (by decide)
theorem part_read : ∀ n, (∀ t l, partM n t = some l → (∀ c r, l = c :: r → low c = false) → readM n t = (l, true)) ∧ (∀ ns t l, rise [] ns = true → recPM n (lastD [] ns) t = some l → recM n ns t = (l, true))
 | 0 => ⟨fun t l h => by simp [partM] at h, fun ns t l _ h => by simp [recPM] at h⟩
 | n + 1 => by
  obtain ⟨ihr, ihc⟩ := part_read n
  refine ⟨fun t l h hl => ?_, fun ns t l hr h => ?_⟩
  ·unfold partM at h
   split at h
   ·rename_i l' e
    obtain ⟨w, hw, rfl⟩ := preW_some e
    obtain rfl := Option.some.inj h
    have hk := words_kind hw
    have hwd := word_app hk.2.1 hl
    have hne : ∃ c r, w ++ l' = c :: r ∧ low c = true := by
     simp only [wordsR, List.mem_cons, List.not_mem_nil, or_false] at hw
     rcases hw with rfl | rfl | rfl | rfl | rfl <;> exact ⟨_, _, rfl, by decide⟩
    unfold readM
    split
    ·rename_i r e2; obtain ⟨c, r', h1, h2⟩ := hne; rw [h1] at e2; rw [(List.cons.inj e2).1] at h2; exact absurd h2 (by decide)
    ·rename_i r e2; obtain ⟨c, r', h1, h2⟩ := hne; rw [h1] at e2; rw [(List.cons.inj e2).1] at h2; exact absurd h2 (by decide)
    ·rename_i r _ e2; obtain ⟨c, r', h1, h2⟩ := hne; rw [h1] at e2; rw [(List.cons.inj e2).1] at h2; exact absurd h2 (by decide)
    ·rw [hwd, List.drop_left, decide_eq_true hk.1]
   ·split at h
    ·rename_i r _
     unfold readM
     split at h
     ·rename_i l' e
      obtain rfl := Option.some.inj h
      simp [ihr _ _ e (fun c r h => by rw [← (List.cons.inj h).1]; decide)]
     ·exact absurd h (by simp)
    ·rename_i r _
     unfold readM
     simp [Option.some.inj h]
    ·rename_i r hr _
     have := ihc [] _ _ rfl h
     unfold readM
     split
     ·rename_i he; exact absurd (List.cons.inj he).1 (by decide)
     ·rename_i r' he; exact absurd ((List.cons.inj he).2) (hr r')
     ·rename_i r' _ he; rw [← (List.cons.inj he).2]; exact this
     ·rename_i h3; exact absurd rfl (h3 r)
    ·exact absurd h (by simp)
  ·unfold recPM at h
   split at h
   ·rename_i hc
    simp only [Bool.and_eq_true] at hc
    obtain ⟨⟨h2, h3⟩, h4⟩ := hc
    have hrs : rise [] (ns ++ [(cutM t).1]) = true := by rw [rise_app, hr]; simp only [rise, h3, h4, Bool.and_self]
    unfold recM
    split at h
    ·rename_i l' e
     rw [ihr _ _ e (fun c r h => by rw [← (List.cons.inj h).1]; decide), h2]
     dsimp only
     rw [hrs, Option.some.inj h]
     rfl
    ·rename_i r e
     rw [ihr _ _ e (fun c r h => by rw [← (List.cons.inj h).1]; decide), h2]
     have := ihc (ns ++ [(cutM t).1]) r l hrs (by rw [lastD_app]; exact h)
     dsimp only
     exact this
    ·exact absurd h (by simp)
   ·exact absurd h (by simp)
theorem fits_part (t : List UInt8) : fitsT t = (decide (t.length ≤ 64) && (partM (2 * t.length + 1) t == some [])) := by
 unfold fitsT
 rw [Bool.and_assoc]
 congr 1
 rw [Bool.eq_iff_iff]
 rw [Bool.and_eq_true, List.isEmpty_iff, beq_iff_eq]
 refine ⟨fun h => (read_part _).1 _ _ (Prod.ext h.2 h.1), fun h => ?_⟩
 rw [(part_read _).1 _ _ h (fun c r hc => by simp at hc)]
 exact ⟨rfl, rfl⟩
end Go.Vc
