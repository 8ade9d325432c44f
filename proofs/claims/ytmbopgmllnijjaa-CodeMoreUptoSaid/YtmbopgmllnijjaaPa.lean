/- What is proved here: what is known ahead of each instruction: two ways to find it find the same; bounds; no program in sight. Conditions: those that each theorem names. -/
import Derived.Test.YtmbopgmllnijjaaWa
set_option linter.unusedVariables false
set_option linter.unusedSimpArgs false
set_option linter.unusedSectionVars false
namespace Go.Vc
open Go
/-- An instruction, a function, a program. -/
structure IN where
  op : Int
  a : Int
  b : Int
  deriving DecidableEq, Inhabited
structure FD where
  name : List UInt8
  args : Int
  locals : Int
  code : List IN
  deriving Inhabited
structure PG where
  funcs : List FD
  consts : List V
/-- How many values an instruction takes off, and puts on. -/
def movesM (p : PG) (x : IN) : Int × Int :=
  if x.op = 1 ∨ x.op = 2 then (0, 1)
  else if x.op = 5 then (1, 2)
  else if x.op = 3 ∨ x.op = 4 ∨ x.op = 25 ∨ x.op = 28 ∨ x.op = 30 then (1, 0)
  else if 6 ≤ x.op ∧ x.op ≤ 8 ∨ x.op = 22 ∨ x.op = 23 then (1, 1)
  else if 9 ≤ x.op ∧ x.op ≤ 19 then (2, 1)
  else if x.op = 20 then (x.a, 1)
  else if x.op = 21 then (if 0 ≤ x.a then match p.consts[x.a.toNat]? with | some v => (v.l.length : Int) | none => 0 else 0, 1)
  else if x.op = 29 then (if 0 ≤ x.a then match p.funcs[x.a.toNat]? with | some f => f.args | none => 0 else 0, 1)
  else if x.op = 31 then (if x.a ≠ 3 ∧ x.a ≠ 5 ∧ x.a ≠ 6 then 1 else 0, 1)
  else (0, 0)
/-- What is known at a place: how many values wait, and the handlers. -/
structure HS where
  h : Int
  ts : List (Int × Int)
  deriving DecidableEq, Inhabited
/-- May a handler find what it needs? -/
def lowOk (s : HS) (n : Int) : Bool := match s.ts.getLast? with | none => true | some t => decide (t.2 ≤ n)
/-- What an instruction comes to; none: it may not be. -/
def nextM (p : PG) (x : IN) (i : Nat) (s : HS) : Option (List (Int × HS)) :=
  if s.h < (movesM p x).1 ∨ 32 < s.h - (movesM p x).1 + (movesM p x).2 ∨ lowOk s (s.h - (movesM p x).1) = false then none
  else if x.op = 28 ∨ x.op = 30 then some []
  else if x.op = 24 then some [(x.a, ⟨s.h - (movesM p x).1 + (movesM p x).2, s.ts⟩)]
  else if x.op = 25 then some [(x.a, ⟨s.h - (movesM p x).1 + (movesM p x).2, s.ts⟩), ((i : Int) + 1, ⟨s.h - (movesM p x).1 + (movesM p x).2, s.ts⟩)]
  else if x.op = 26 then
    if 8 ≤ s.ts.length then none
    else some [(x.a, ⟨s.h - (movesM p x).1 + (movesM p x).2 + 1, s.ts⟩), ((i : Int) + 1, ⟨s.h - (movesM p x).1 + (movesM p x).2, s.ts ++ [(x.a, s.h - (movesM p x).1 + (movesM p x).2)]⟩)]
  else if x.op = 27 then
    if s.ts = [] then none else some [((i : Int) + 1, ⟨s.h - (movesM p x).1 + (movesM p x).2, s.ts.dropLast⟩)]
  else some [((i : Int) + 1, ⟨s.h - (movesM p x).1 + (movesM p x).2, s.ts⟩)]
abbrev PL := List (Option HS)
def PL.at (l : PL) (i : Nat) : Option HS := (l[i]?).getD none
theorem PL.at_set {l : PL} {i j : Nat} {v : Option HS} : PL.at (l.set i v) j = if i = j ∧ j < l.length then v else PL.at l j := by
  unfold PL.at
  rw [List.getElem?_set]
  by_cases h : i = j
  · subst h
    by_cases h2 : i < l.length
    · simp [h2]
    · simp [h2]
  · simp [h]
/-- A place may be come to. -/
def fits (n : Nat) (c : Int × HS) : Prop := 0 ≤ c.1 ∧ c.1 < n ∧ c.2.h ≤ 32
instance (n : Nat) (c : Int × HS) : Decidable (fits n c) := by unfold fits; infer_instance
/-- What is reached. -/
inductive Reach (p : PG) (c : List IN) : Nat → HS → Prop
  | zero : Reach p c 0 ⟨0, []⟩
  | step {i : Nat} {s : HS} {x : IN} {l : List (Int × HS)} {t : Int × HS} : Reach p c i s → c[i]? = some x → nextM p x i s = some l → t ∈ l → fits c.length t → Reach p c t.1.toNat t.2
/-- Nothing odd: at each place that is reached. -/
structure Sure (p : PG) (c : List IN) : Prop where
  ok : ∀ i s, Reach p c i s → ∃ x l, c[i]? = some x ∧ nextM p x i s = some l ∧ ∀ t ∈ l, fits c.length t
  one : ∀ i s s', Reach p c i s → Reach p c i s' → s = s'
/-- What is known is what is reached. -/
structure Known (p : PG) (c : List IN) (l : PL) : Prop where
  len : l.length = c.length
  at_ : ∀ i s, PL.at l i = some s ↔ Reach p c i s
theorem Known.uniq {p : PG} {c : List IN} {l l' : PL} (h : Known p c l) (h' : Known p c l') : l = l' := by
  refine List.ext_getElem (by rw [h.len, h'.len]) fun i h1 h2 => ?_
  have e : PL.at l i = PL.at l' i := by
    apply Option.ext
    intro s
    rw [h.at_, h'.at_]
  unfold PL.at at e
  rw [List.getElem?_eq_getElem h1, List.getElem?_eq_getElem h2] at e
  exact e
/-- What a search came to: places, or that something is odd. -/
def Found (p : PG) (c : List IN) : Option PL → Prop
  | some l => Sure p c ∧ Known p c l
  | none => ¬ Sure p c
theorem Found.uniq {p : PG} {c : List IN} : ∀ {a b : Option PL}, Found p c a → Found p c b → a = b
  | some _, some _, h, h' => congrArg some (h.2.uniq h'.2)
  | some _, none, h, h' => absurd h.1 h'
  | none, some _, h, h' => absurd h'.1 h
  | none, none, _, _ => rfl

/-- A handed-on place: is it done with? -/
def DoneAt (p : PG) (c : List IN) (l : PL) (i : Nat) (s : HS) : Prop := ∃ x m, c[i]? = some x ∧ nextM p x i s = some m ∧ ∀ t ∈ m, fits c.length t ∧ PL.at l t.1.toNat = some t.2
/-- All that is known is reached. -/
def Below (p : PG) (c : List IN) (l : PL) : Prop := ∀ i s, PL.at l i = some s → Reach p c i s
theorem found_of {p : PG} {c : List IN} {l : PL} (hl : l.length = c.length) (h0 : PL.at l 0 = some ⟨0, []⟩) (hb : Below p c l) (hd : ∀ i s, PL.at l i = some s → DoneAt p c l i s) : Found p c (some l) := by
  have hr : ∀ i s, Reach p c i s → PL.at l i = some s := by
    intro i s h
    induction h with
    | zero => exact h0
    | step hp hx hn ht hf ih =>
      obtain ⟨x', m, h1, h2, h3⟩ := hd _ _ ih
      rw [hx] at h1; cases h1
      rw [hn] at h2; cases h2
      exact (h3 _ ht).2
  refine ⟨⟨fun i s h => ?_, fun i s s' h h' => ?_⟩, hl, fun i s => ⟨hb i s, hr i s⟩⟩
  · obtain ⟨x, m, h1, h2, h3⟩ := hd _ _ (hr _ _ h)
    exact ⟨x, m, h1, h2, fun t ht => (h3 t ht).1⟩
  · have := hr _ _ h; rw [hr _ _ h'] at this; exact (Option.some.inj this).symm

/-! The program's way: places that are to be looked at wait in a row. -/
structure KS where
  pl : PL
  left : List Nat
  odd : Bool
def comeK (k : KS) (t : Int × HS) : KS :=
  if (k.pl.length : Int) ≤ t.1 ∨ 32 < t.2.h then { k with odd := true }
  else match PL.at k.pl t.1.toNat with
    | some s => { k with odd := k.odd || decide (s ≠ t.2) }
    | none => ⟨k.pl.set t.1.toNat (some t.2), k.left ++ [t.1.toNat], k.odd⟩
def stepK (p : PG) (x : IN) (i : Nat) (s : HS) (k : KS) : KS :=
  if s.h < (movesM p x).1 ∨ 32 < s.h - (movesM p x).1 + (movesM p x).2 then { k with odd := true }
  else if lowOk s (s.h - (movesM p x).1) = false then { k with odd := true }
  else if x.op = 28 ∨ x.op = 30 then k
  else if x.op = 24 then comeK k (x.a, ⟨s.h - (movesM p x).1 + (movesM p x).2, s.ts⟩)
  else if x.op = 25 then comeK (comeK k (x.a, ⟨s.h - (movesM p x).1 + (movesM p x).2, s.ts⟩)) ((i : Int) + 1, ⟨s.h - (movesM p x).1 + (movesM p x).2, s.ts⟩)
  else if x.op = 26 then
    comeK (comeK { k with odd := k.odd || decide (8 ≤ s.ts.length) } (x.a, ⟨s.h - (movesM p x).1 + (movesM p x).2 + 1, s.ts⟩)) ((i : Int) + 1, ⟨s.h - (movesM p x).1 + (movesM p x).2, s.ts ++ [(x.a, s.h - (movesM p x).1 + (movesM p x).2)]⟩)
  else if x.op = 27 then
    if s.ts = [] then { k with odd := true } else comeK k ((i : Int) + 1, ⟨s.h - (movesM p x).1 + (movesM p x).2, s.ts.dropLast⟩)
  else comeK k ((i : Int) + 1, ⟨s.h - (movesM p x).1 + (movesM p x).2, s.ts⟩)
theorem stepK_some {p : PG} {x : IN} {i : Nat} {s : HS} {l : List (Int × HS)} (k : KS) (h : nextM p x i s = some l) : stepK p x i s k = l.foldl comeK k := by
  unfold nextM at h
  unfold stepK
  split at h
  · cases h
  rename_i h1
  rw [if_neg (fun hc => h1 (by rcases hc with hc | hc <;> simp [hc])), if_neg (fun hc => h1 (by simp [hc]))]
  split at h
  · rename_i h2; cases h; rw [if_pos h2]; rfl
  rename_i h2; rw [if_neg h2]
  split at h
  · rename_i h3; cases h; rw [if_pos h3]; rfl
  rename_i h3; rw [if_neg h3]
  split at h
  · rename_i h4; cases h; rw [if_pos h4]; rfl
  rename_i h4; rw [if_neg h4]
  split at h
  · rename_i h5; rw [if_pos h5]
    split at h
    · cases h
    · rename_i h6; cases h
      rw [decide_eq_false h6, Bool.or_false]; rfl
  rename_i h5; rw [if_neg h5]
  split at h
  · rename_i h6; rw [if_pos h6]
    split at h
    · cases h
    · rename_i h7; cases h; rw [if_neg h7]; rfl
  rename_i h6; rw [if_neg h6]
  cases h; rfl
theorem comeK_odd {k : KS} (t : Int × HS) (h : k.odd = true) : (comeK k t).odd = true := by
  unfold comeK
  split
  · rfl
  · split
    · simp [h]
    · exact h
theorem stepK_none {p : PG} {x : IN} {i : Nat} {s : HS} (k : KS) (h : nextM p x i s = none) : (stepK p x i s k).odd = true := by
  unfold nextM at h
  unfold stepK
  split
  · rfl
  rename_i h1
  split
  · rfl
  rename_i h1'
  rw [if_neg (fun hc => by rcases hc with hc | hc | hc <;> first | exact h1 (.inl hc) | exact h1 (.inr hc) | exact h1' hc)] at h
  split
  · rename_i h2; rw [if_pos h2] at h; cases h
  rename_i h2; rw [if_neg h2] at h
  split
  · rename_i h3; rw [if_pos h3] at h; cases h
  rename_i h3; rw [if_neg h3] at h
  split
  · rename_i h4; rw [if_pos h4] at h; cases h
  rename_i h4; rw [if_neg h4] at h
  split
  · rename_i h5; rw [if_pos h5] at h
    split at h
    · rename_i h6
      exact comeK_odd _ (comeK_odd _ (by simp [h6]))
    · cases h
  rename_i h5; rw [if_neg h5] at h
  split
  · rename_i h6; rw [if_pos h6] at h
    split
    · rfl
    · rename_i h7; rw [if_neg h7] at h; cases h
  rename_i h6; rw [if_neg h6] at h; cases h
/-- How much there is to do. -/
def PL.free : PL → Nat
  | [] => 0
  | none :: r => 1 + PL.free r
  | some _ :: r => PL.free r
theorem PL.free_set : ∀ {l : PL} {i : Nat} {s : HS}, i < l.length → PL.at l i = none → PL.free (l.set i (some s)) + 1 = PL.free l
  | none :: r, 0, s, _, _ => by simp [PL.free]; omega
  | some _ :: r, 0, s, _, h => by simp [PL.at] at h
  | none :: r, i + 1, s, h, h2 => by
    have := PL.free_set (l := r) (i := i) (s := s) (by simpa using h) (by simpa [PL.at] using h2)
    simp only [List.set_cons_succ, PL.free]; omega
  | some _ :: r, i + 1, s, h, h2 => by
    have := PL.free_set (l := r) (i := i) (s := s) (by simpa using h) (by simpa [PL.at] using h2)
    simp only [List.set_cons_succ, PL.free]; omega
  | [], _, _, h, _ => by simp at h
theorem PL.free_le : ∀ l : PL, PL.free l ≤ l.length
  | [] => Nat.le_refl _
  | none :: r => by have := PL.free_le r; simp only [PL.free, List.length_cons]; omega
  | some _ :: r => by have := PL.free_le r; simp only [PL.free, List.length_cons]; omega
def KS.todo (k : KS) : Nat := PL.free k.pl + k.left.length
theorem comeK_len (k : KS) (t : Int × HS) : (comeK k t).pl.length = k.pl.length := by
  unfold comeK; split <;> try rfl
  split <;> simp
theorem comeK_todo (k : KS) (t : Int × HS) (h0 : 0 ≤ t.1) : (comeK k t).todo = k.todo ∧ PL.free (comeK k t).pl ≤ PL.free k.pl := by
  unfold comeK
  split
  · exact ⟨rfl, Nat.le_refl _⟩
  · split
    · exact ⟨rfl, Nat.le_refl _⟩
    · rename_i h1 h2
      have := PL.free_set (l := k.pl) (i := t.1.toNat) (s := t.2) (by omega) h2
      simp only [KS.todo, List.length_append, List.length_cons, List.length_nil]
      omega
end Go.Vc
