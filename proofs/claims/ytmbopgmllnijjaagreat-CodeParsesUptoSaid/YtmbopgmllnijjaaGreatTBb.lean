/- What is proved here: contracts of functions of the program: of each function what it hands back and what it leaves in memory. Conditions: those that each theorem names. -/
import Derived.Test.YtmbopgmllnijjaaGreatTAp
import Derived.Test.YtmbopgmllnijjaaGreatTAq
set_option linter.unusedVariables false
set_option linter.unusedSimpArgs false
set_option linter.unusedSectionVars false
namespace Go.Vc
open Go Go.Proofs
set_option maxRecDepth 100000
def wordsR : List (List UInt8) := [[110, 111, 110, 101], [105, 110, 116], [98, 111, 111, 108], [116, 101, 120, 116], [102, 117, 116, 117, 114, 101]]
def preW (t : List UInt8) : List (List UInt8) → Option (List UInt8)
 | [] => none
 | w :: r => if t.take w.length = w then some (t.drop w.length) else preW t r
mutual
def partM : Nat → List UInt8 → Option (List UInt8)
 | 0, _ => none
 | n + 1, t =>
  match preW t wordsR with
  | some l => some l
  | none =>
   match t with
   | 91 :: r => match partM n r with
    | some (93 :: l) => some l
    | _ => none
   | 123 :: 125 :: r => some r
   | 123 :: r => recPM n [] r
   | _ => none
def recPM : Nat → List UInt8 → List UInt8 → Option (List UInt8)
 | 0, _, _ => none
 | n + 1, last, t =>
  if ((cutM t).2.2 && isName (cutM t).1 && !(Op.bytesLess (cutM t).1 last || (cutM t).1 == last)) = true then
   match partM n (cutM t).2.1 with
   | some (125 :: l) => some l
   | some (44 :: r) => recPM n (cutM t).1 r
   | _ => none
  else none
end
def lastD : List UInt8 → List (List UInt8) → List UInt8
 | d, [] => d
 | _, s :: r => lastD s r
theorem rise_app : ∀ (a b : List (List UInt8)) (d : List UInt8), rise d (a ++ b) = (rise d a && rise (lastD d a) b)
 | [], b, d => by simp [rise, lastD]
 | s :: r, b, d => by
  simp only [List.cons_append, rise, lastD, rise_app r b s, Bool.and_assoc]
theorem lastD_app : ∀ (a : List (List UInt8)) (s d : List UInt8), lastD d (a ++ [s]) = s
 | [], s, d => rfl
 | x :: r, s, d => lastD_app r s x
theorem word_app {w l : List UInt8} (hw : ∀ c ∈ w, low c = true) (hl : ∀ c r, l = c :: r → low c = false) : wordM (w ++ l) = w := by
 unfold wordM
 rw [List.takeWhile_append_of_pos hw]
 cases l with
 | nil => simp
 | cons c r => simp [List.takeWhile, hl c r rfl]
theorem word_split (t : List UInt8) : wordM t ++ t.drop (wordM t).length = t := by
 conv => rhs; rw [← List.take_append_drop (wordM t).length t]
 congr 1
 unfold wordM
 induction t with
 | nil => rfl
 | cons a t ih =>
  by_cases ha : low a = true
  ·rw [List.takeWhile_cons_of_pos ha, List.length_cons, List.take_succ_cons, ← ih]
  ·rw [List.takeWhile_cons_of_neg ha]; rfl
theorem kind_words {w : List UInt8} (h : 0 ≤ kindM w) : w ∈ wordsR := by
 unfold kindM at h
 simp only [wordsR, List.mem_cons, List.not_mem_nil, or_false]
 split at h
 ·exact .inl ‹_›
 split at h
 ·exact .inr (.inl ‹_›)
 split at h
 ·exact .inr (.inr (.inl ‹_›))
 split at h
 ·exact .inr (.inr (.inr (.inl ‹_›)))
 split at h
 ·exact .inr (.inr (.inr (.inr ‹_›)))
 ·omega
theorem words_kind {w : List UInt8} (h : w ∈ wordsR) : 0 ≤ kindM w ∧ (∀ c ∈ w, low c = true) ∧ ∀ l, preW (w ++ l) wordsR = some l := by
 simp only [wordsR, List.mem_cons, List.not_mem_nil, or_false] at h
 rcases h with rfl | rfl | rfl | rfl | rfl
 all_goals refine ⟨by decide, by decide, fun l => ?_⟩
 all_goals simp [preW, wordsR]
theorem preW_some {t l : List UInt8} : ∀ {ws : List (List UInt8)}, preW t ws = some l → ∃ w ∈ ws, t = w ++ l
 | [], h => by simp [preW] at h
 | w :: r, h => by
  unfold preW at h
  split at h
  ·rename_i e
   refine ⟨w, List.mem_cons_self, ?_⟩
   rw [← Option.some.inj h, ← e, List.length_take]
   conv => lhs; rw [← List.take_append_drop w.length t]
   congr 1
   rcases Nat.le_total w.length t.length with h1 | h1
   ·rw [Nat.min_eq_left h1]
   ·rw [Nat.min_eq_right h1, List.drop_eq_nil_of_le h1, List.drop_eq_nil_of_le (Nat.le_refl _)]
  ·obtain ⟨w', h1, h2⟩ := preW_some h
   exact ⟨w', List.mem_cons_of_mem _ h1, h2⟩
theorem preW_head {c : UInt8} {r : List UInt8} (h : low c = false) : preW (c :: r) wordsR = none := by
 cases e : preW (c :: r) wordsR with
 | none => rfl
 | some l =>
  obtain ⟨w, hw, hl⟩ := preW_some e
  have := words_kind hw
  simp only [wordsR, List.mem_cons, List.not_mem_nil, or_false] at hw
  rcases hw with rfl | rfl | rfl | rfl | rfl <;> (simp only [List.cons_append, List.cons.injEq] at hl; rw [hl.1] at h; exact absurd h (by decide))
theorem rec_rise : ∀ (n : Nat) (ns : List (List UInt8)) (t l : List UInt8), recM n ns t = (l, true) → ∃ more, rise [] (ns ++ (cutM t).1 :: more) = true
 | 0, ns, t, l, h => by simp [recM] at h
 | n + 1, ns, t, l, h => by
  unfold recM at h
  split at h
  rename_i l' ok e
  split at h
  ·rename_i r h1
   exact ⟨[], (Prod.mk.inj h).2⟩
  ·rename_i r h1
   obtain ⟨more, hm⟩ := rec_rise n _ _ _ h
   exact ⟨_, by rw [List.append_assoc] at hm; exact hm⟩
  ·exact absurd (Prod.mk.inj h).2 (by decide)
theorem read_part : ∀ n, (∀ t l, readM n t = (l, true) → partM n t = some l) ∧ (∀ ns t l, recM n ns t = (l, true) → recPM n (lastD [] ns) t = some l)
 | 0 => ⟨fun t l h => by simp [readM] at h, fun ns t l h => by simp [recM] at h⟩
 | n + 1 => by
  obtain ⟨ihr, ihc⟩ := read_part n
  refine ⟨fun t l h => ?_, fun ns t l h => ?_⟩
  ·unfold readM at h
   unfold partM
   split at h
   ·rename_i r
    rw [preW_head (by decide)]
    split at h
    ·rename_i l' ok e
     obtain ⟨h1, h2⟩ := Prod.mk.inj h
     subst h1; subst h2
     simp [ihr _ _ e]
    ·exact absurd (Prod.mk.inj h).2 (by decide)
   ·rename_i r
    rw [preW_head (by decide)]
    simp [(Prod.mk.inj h).1]
   ·rename_i r hr
    rw [preW_head (by decide)]
    have := ihc _ _ _ h
    dsimp only
    split
    ·rename_i he; exact absurd (List.cons.inj he).1 (by decide)
    ·rename_i r' he; exact absurd ((List.cons.inj he).2) (hr r')
    ·rename_i r' _ he; rw [← (List.cons.inj he).2]; exact this
    ·rename_i h3; exact absurd rfl (h3 r)
   ·obtain ⟨h1, h2⟩ := Prod.mk.inj h
    have hw := kind_words (of_decide_eq_true h2)
    have := (words_kind hw).2.2 l
    rw [← h1, word_split t] at this
    rw [this, h1]
  ·obtain ⟨more, hm⟩ := rec_rise _ _ _ _ h
   unfold recM at h
   unfold recPM
   rw [rise_app] at hm
   simp only [Bool.and_eq_true, rise] at hm
   obtain ⟨hm0, ⟨hm1, hm2⟩, hm3⟩ := hm
   split at h
   rename_i l' ok e
   split at h
   ·rename_i r h1
    obtain ⟨h2, rfl⟩ : (cutM t).2.2 = true ∧ ok = true := by simpa using h1
    rw [if_pos (by rw [h2, hm2, hm1]; rfl), ihr _ _ e, ← (Prod.mk.inj h).1]
    rfl
   ·rename_i r h1
    obtain ⟨h2, rfl⟩ : (cutM t).2.2 = true ∧ ok = true := by simpa using h1
    rw [if_pos (by rw [h2, hm2, hm1]; rfl), ihr _ _ e]
    have := ihc _ _ _ h
    rw [lastD_app] at this
    exact this
   ·exact absurd (Prod.mk.inj h).2 (by decide)
theorem part_read : ∀ n, (∀ t l, partM n t = some l → (∀ c r, l = c :: r → low c = false) → readM n t = (l, true)) ∧ (∀ ns t l, rise [] ns = true → recPM n (lastD [] ns) t = some l → recM n ns t = (l, true))
 | 0 => ⟨fun t l h => by simp [partM] at h, fun ns t l _ h => by simp [recPM] at h⟩
 | n + 1 => by
  obtain ⟨ihr, ihc⟩ := part_read n
  refine ⟨fun t l h hl => ?_, fun ns t l hr h => ?_⟩
  ·unfold partM at h
   split at h
   ·rename_i l' e
    obtain ⟨w, hw, rfl⟩ := preW_some e
    obtain rfl := Option.some.inj h
    have hk := words_kind hw
    have hwd := word_app hk.2.1 hl
    have hne : ∃ c r, w ++ l' = c :: r ∧ low c = true := by
     simp only [wordsR, List.mem_cons, List.not_mem_nil, or_false] at hw
     rcases hw with rfl | rfl | rfl | rfl | rfl <;> exact ⟨_, _, rfl, by decide⟩
    unfold readM
    split
    ·rename_i r e2; obtain ⟨c, r', h1, h2⟩ := hne; rw [h1] at e2; rw [(List.cons.inj e2).1] at h2; exact absurd h2 (by decide)
    ·rename_i r e2; obtain ⟨c, r', h1, h2⟩ := hne; rw [h1] at e2; rw [(List.cons.inj e2).1] at h2; exact absurd h2 (by decide)
    ·rename_i r _ e2; obtain ⟨c, r', h1, h2⟩ := hne; rw [h1] at e2; rw [(List.cons.inj e2).1] at h2; exact absurd h2 (by decide)
    ·rw [hwd, List.drop_left, decide_eq_true hk.1]
   ·split at h
    ·rename_i r _
     unfold readM
     split at h
     ·rename_i l' e
      obtain rfl := Option.some.inj h
      simp [ihr _ _ e (fun c r h => by rw [← (List.cons.inj h).1]; decide)]
     ·exact absurd h (by simp)
    ·rename_i r _
     unfold readM
     simp [Option.some.inj h]
    ·rename_i r hr _
     have := ihc [] _ _ rfl h
     unfold readM
     split
     ·rename_i he; exact absurd (List.cons.inj he).1 (by decide)
     ·rename_i r' he; exact absurd ((List.cons.inj he).2) (hr r')
     ·rename_i r' _ he; rw [← (List.cons.inj he).2]; exact this
     ·rename_i h3; exact absurd rfl (h3 r)
    ·exact absurd h (by simp)
  ·unfold recPM at h
   split at h
   ·rename_i hc
    simp only [Bool.and_eq_true] at hc
    obtain ⟨⟨h2, h3⟩, h4⟩ := hc
    have hrs : rise [] (ns ++ [(cutM t).1]) = true := by rw [rise_app, hr]; simp only [rise, h3, h4, Bool.and_self]
    unfold recM
    split at h
    ·rename_i l' e
     rw [ihr _ _ e (fun c r h => by rw [← (List.cons.inj h).1]; decide), h2]
     dsimp only
     rw [hrs, Option.some.inj h]
     rfl
    ·rename_i r e
     rw [ihr _ _ e (fun c r h => by rw [← (List.cons.inj h).1]; decide), h2]
     have := ihc (ns ++ [(cutM t).1]) r l hrs (by rw [lastD_app]; exact h)
     dsimp only
     exact this
    ·exact absurd h (by simp)
   ·exact absurd h (by simp)
theorem fits_part (t : List UInt8) : fitsT t = (decide (t.length ≤ 64) && (partM (2 * t.length + 1) t == some [])) := by
 unfold fitsT
 rw [Bool.and_assoc]
 congr 1
 rw [Bool.eq_iff_iff]
 rw [Bool.and_eq_true, List.isEmpty_iff, beq_iff_eq]
 refine ⟨fun h => (read_part _).1 _ _ (Prod.ext h.2 h.1), fun h => ?_⟩
 rw [(part_read _).1 _ _ h (fun c r hc => by simp at hc)]
 exact ⟨rfl, rfl⟩
end Go.Vc
namespace Go.Vc
open Go Go.Proofs
set_option maxRecDepth 100000
theorem rise_le : ∀ {ns : List (List UInt8)} {last : List UInt8}, rise last ns = true → ∀ s ∈ ns, s.length ≤ 16
 | [], _, _, s, hs => by simp at hs
 | a :: r, last, h, s, hs => by
  simp only [rise, Bool.and_eq_true] at h
  rcases List.mem_cons.1 hs with rfl | hs
  ·have := h.1.2
   simp only [isName, Bool.and_eq_true, decide_eq_true_eq] at this
   exact this.1.2
  ·exact rise_le h.2 s hs
theorem nsLen_le : ∀ {ns : List (List UInt8)}, (∀ s ∈ ns, s.length ≤ 16) → nsLen ns ≤ 16 * ns.length
 | [], _ => by simp [nsLen]
 | a :: r, h => by
  have h1 := h a List.mem_cons_self
  have h2 := nsLen_le fun s hs => h s (List.mem_cons_of_mem _ hs)
  simp only [nsLen, List.length_cons]; omega
theorem zeros (n : Nat) : sizeVs (List.replicate n Vz) = n ∧ depthVs (List.replicate n Vz) ≤ 1 ∧ allVs (List.replicate n Vz) = true := by
 induction n with
 | zero => exact ⟨rfl, Nat.zero_le _, rfl⟩
 | succ n ih =>
  obtain ⟨h1, h2, h3⟩ := ih
  have e1 : sizeV Vz = 1 := rfl
  have e2 : depthV Vz = 1 := rfl
  have e3 : allV Vz = true := by decide
  simp only [List.replicate_succ, sizeVs, depthVs, allVs, h1, h3, e1, e2, e3]
  exact ⟨by omega, by omega, rfl⟩
theorem mayV_rec {ns : List (List UInt8)} {m : Nat} (hm : m = ns.length) (h8 : ns.length ≤ 8) : mayV (.mk 5 0 [] (List.replicate m Vz) ns) = rise [] ns := by
 subst hm
 obtain ⟨h1, h2, h3⟩ := zeros ns.length
 have ho : ownB 5 0 [] (List.replicate ns.length Vz).length ns = rise [] ns := by
  rw [List.length_replicate]
  simp [ownB, h8]
 have hd : depthV (.mk 5 0 [] (List.replicate ns.length Vz) ns) = 1 + depthVs (List.replicate ns.length Vz) := rfl
 have hs : sizeV (.mk 5 0 [] (List.replicate ns.length Vz) ns) = 1 + 0 + nsLen ns + sizeVs (List.replicate ns.length Vz) := rfl
 have ha : allV (.mk 5 0 [] (List.replicate ns.length Vz) ns) = (ownB 5 0 [] (List.replicate ns.length Vz).length ns && allVs (List.replicate ns.length Vz)) := rfl
 rw [Bool.eq_iff_iff]
 unfold mayV
 rw [okV_iff, ha, ho, h3, Bool.and_true, hd, hs]
 refine ⟨fun h => h.2, fun h => ⟨?_, h⟩⟩
 have := nsLen_le (rise_le h)
 exact ⟨by omega, by omega⟩
theorem nameM_eq (s : List UInt8) : nameM s = isName s := by
 unfold nameM
 rw [show [Vz] = List.replicate 1 Vz from rfl, mayV_rec (ns := [s]) (m := 1) rfl (by simp)]
 simp only [rise, Bool.and_true]
 cases s with
 | nil => simp [isName]
 | cons a r => simp [Op.bytesLess]
def recordR (v : V) : Bool := v.k == 4 && v.l.all (fun x => x.k == 3) && (rise [] (v.l.map V.s) && decide (v.l.length ≤ 8))
theorem record_eq (v : V) : recordM v = recordR v := by
 unfold recordM recordR
 by_cases h : v.l.length ≤ 8
 ·rw [mayV_rec (ns := v.l.map V.s) (by simp) (by simpa using h)]
  cases v.k == 4 <;> cases v.l.all (fun x => x.k == 3) <;> simp [h]
 ·rw [decide_eq_false h]; simp
def namesR (p : PG) (n : Int) : Bool := inB n p.consts.length && (match p.consts[n.toNat]? with | some v => recordR v | none => false)
def nmdR (p : PG) (n : Int) : Bool := (textM p n).2 && isName (textM p n).1
def askR (p : PG) (x : IN) : Bool :=
 if x.a = 1 ∨ x.a = 3 then nmdR p x.b
 else if x.a = 4 then (textM p x.b).2 && decide (0 ≤ findM p (textM p x.b).1) && (match p.funcs[(findM p (textM p x.b).1).toNat]? with | some f => f.args == 1 | none => false)
 else decide (1 ≤ x.a) && decide (x.a ≤ 8) && x.b == 0
def operandR (p : PG) (f : FD) (x : IN) : Bool :=
 if x.op = 1 then inB x.a p.consts.length
 else if x.op = 2 ∨ x.op = 3 then decide (0 ≤ x.a) && decide (x.a < f.locals)
 else if x.op = 20 then decide (0 ≤ x.a) && decide (x.a ≤ 8)
 else if x.op = 21 then namesR p x.a
 else if x.op = 22 then nmdR p x.a
 else if x.op = 23 then (textM p x.a).2 && fitsT (textM p x.a).1
 else if x.op = 24 ∨ x.op = 25 ∨ x.op = 26 then inB x.a f.code.length
 else if x.op = 29 then inB x.a p.funcs.length
 else x.a == 0
def insR (p : PG) (f : FD) (x : IN) : Bool := decide (1 ≤ x.op) && decide (x.op ≤ 31) && (if x.op = 31 then askR p x else x.b == 0 && operandR p f x)
theorem nmd_eq (p : PG) (n : Int) : namedM p n = nmdR p n := by unfold namedM nmdR; rw [nameM_eq]
theorem ask_eq (p : PG) (x : IN) : askM p x = askR p x := by
 unfold askM askR
 rw [nmd_eq]
 split
 ·rfl
 split
 ·rfl
 split
 ·rename_i h
  rw [decide_eq_true (show 1 ≤ x.a by omega), decide_eq_true (show x.a ≤ 8 by omega)]; rfl
 ·rename_i h1 h2 h3
  by_cases h4 : 1 ≤ x.a
  ·rw [decide_eq_false (show ¬ x.a ≤ 8 by omega)]; simp
  ·rw [decide_eq_false h4]; simp
theorem ins_eq (p : PG) (f : FD) (x : IN) : insM p f x = insR p f x := by
 unfold insM insR
 by_cases h31 : x.op = 31
 ·rw [if_pos h31]
  have e : operandM p f x = askR p x := by unfold operandM; simp [h31, ask_eq]
  rw [e]; simp [h31]
 ·rw [if_neg h31]
  have e : operandM p f x = operandR p f x := by
   unfold operandM operandR namesR
   simp only [nmd_eq, if_neg h31, record_eq]
   rfl
  rw [e, beq_false_of_ne h31, Bool.or_false, Bool.and_assoc]
def headR (f : FD) : Bool := isName f.name && decide (0 ≤ f.args) && decide (f.args ≤ 8) && decide (f.args ≤ f.locals) && decide (f.locals ≤ 32) && decide (1 ≤ f.code.length)
theorem count_one {α : Type} {P : α → Bool} : ∀ {l : List α} {i : Nat} (hi : i < l.length), P l[i] = true → (∀ j (hj : j < l.length), P l[j] = true → j = i) → l.countP P = 1
 | a :: r, 0, hi, h1, h2 => by
  rw [List.countP_cons_of_pos (by exact h1), List.countP_eq_zero.2]
  intro b hb hP
  obtain ⟨j, hj, rfl⟩ := List.mem_iff_getElem.1 hb
  have := h2 (j + 1) (by simpa using hj) (by simpa using hP)
  omega
 | a :: r, i + 1, hi, h1, h2 => by
  rw [List.countP_cons_of_neg]
  ·exact count_one (i := i) (by simpa using hi) (by simpa using h1) fun j hj h => by
    have := h2 (j + 1) (by simpa using hj) (by simpa using h)
    omega
  ·intro h
   have := h2 0 (by simp) (by simpa using h)
   omega
theorem one_idx {α : Type} {P : α → Bool} : ∀ {l : List α} {i : Nat} (hi : i < l.length), P l[i] = true → l.countP P = 1 → idxL P l = i
 | a :: r, 0, hi, h1, h2 => by
  have h1 : P a = true := h1
  simp [idxL, h1]
 | a :: r, i + 1, hi, h1, h2 => by
  have hir : i < r.length := by simpa using hi
  have h3 : P r[i] = true := by simpa using h1
  by_cases ha : P a = true
  ·rw [List.countP_cons_of_pos ha] at h2
   have h0 : r.countP P = 0 := by omega
   exact absurd h3 (List.countP_eq_zero.1 h0 _ (List.getElem_mem _))
  ·rw [List.countP_cons_of_neg ha] at h2
   have := one_idx (i := i) hir h3 h2
   simp only [idxL, if_neg ha, this]
   rw [if_neg (by omega)]; simp
theorem idx_hit {α : Type} {P : α → Bool} : ∀ {l : List α} {i : Nat}, idxL P l = i → ∃ hi : i < l.length, P l[i] = true
 | [], i, h => by simp only [idxL] at h; omega
 | a :: r, i, h => by
  unfold idxL at h
  split at h
  ·rename_i ha
   obtain rfl : i = 0 := by omega
   exact ⟨by simp, ha⟩
  ·split at h
   ·omega
   ·obtain ⟨j, rfl⟩ : ∃ j, i = j + 1 := ⟨i - 1, by rename_i h1; have := idxL_ge P r; omega⟩
    obtain ⟨h1, h2⟩ := idx_hit (P := P) (l := r) (i := j) (by omega)
    exact ⟨by simpa using h1, by simpa using h2⟩
theorem heads_iff (p : PG) : (∀ i (hi : i < p.funcs.length), headR p.funcs[i] = true ∧ findM p p.funcs[i].name = i) ↔ (p.funcs.any fun f => !headM p f) = false := by
 rw [List.any_eq_false]
 constructor
 ·intro h f hf
  obtain ⟨i, hi, rfl⟩ := List.mem_iff_getElem.1 hf
  obtain ⟨h1, h2⟩ := h i hi
  have hc : (p.funcs.countP fun g => g.name == p.funcs[i].name) = 1 := by
   refine count_one hi (by simp) fun j hj he => ?_
   have := (h j hj).2
   rw [eq_of_beq he, h2] at this
   omega
  unfold headM
  unfold headR at h1
  rw [hc, nameM_eq]
  simp only [Bool.and_eq_true] at h1
  obtain ⟨⟨⟨⟨⟨g1, g2⟩, g3⟩, g4⟩, g5⟩, g6⟩ := h1
  rw [g1, g2, g3, g4, g5, show decide (0 < p.funcs[i].code.length) = true from g6]; simp
 ·intro h i hi
  have h1 : headM p p.funcs[i] = true := by
   have := h _ (List.getElem_mem hi)
   simpa using this
  unfold headM at h1
  simp only [Bool.and_eq_true] at h1
  obtain ⟨⟨⟨⟨⟨⟨g0, g1⟩, g2⟩, g3⟩, g4⟩, g5⟩, g6⟩ := h1
  rw [nameM_eq] at g1
  refine ⟨?_, one_idx hi (by simp) (eq_of_beq g0)⟩
  unfold headR
  rw [g1, g2, g3, g4, g5, show decide (1 ≤ p.funcs[i].code.length) = true from g6]; rfl
theorem chk_eq (p : PG) : chkM p = if 16 < p.funcs.length ∨ 256 < p.consts.length ∨ (p.funcs.any fun f => decide (512 < f.code.length)) = true then 5
 else if p.funcs = [] ∨ (p.consts.any fun v => !mayV v) = true ∨ (p.funcs.any fun f => !headM p f) = true then 2
 else if (p.funcs.any fun f => f.code.any fun x => !insR p f x) = true then 150
 else 0 := by
 unfold chkM
 simp only [ins_eq]
end Go.Vc
