/- What is proved here: what is known ahead of each instruction: two ways to find it find the same; bounds; no program in sight. Conditions: those that each theorem names. -/
import Derived.Test.YtmbopgmllnijjaaWa
set_option linter.unusedVariables false
set_option linter.unusedSimpArgs false
set_option linter.unusedSectionVars false
namespace Go.Vc
open Go
/-- An instruction, a function, a program. -/
structure IN where
  op : Int
  a : Int
  b : Int
  deriving DecidableEq, Inhabited
structure FD where
  name : List UInt8
  args : Int
  locals : Int
  code : List IN
  deriving Inhabited
structure PG where
  funcs : List FD
  consts : List V
/-- How many values an instruction takes off, and puts on. -/
def movesM (p : PG) (x : IN) : Int × Int :=
  if x.op = 1 ∨ x.op = 2 then (0, 1)
  else if x.op = 5 then (1, 2)
  else if x.op = 3 ∨ x.op = 4 ∨ x.op = 25 ∨ x.op = 28 ∨ x.op = 30 then (1, 0)
  else if 6 ≤ x.op ∧ x.op ≤ 8 ∨ x.op = 22 ∨ x.op = 23 then (1, 1)
  else if 9 ≤ x.op ∧ x.op ≤ 19 then (2, 1)
  else if x.op = 20 then (x.a, 1)
  else if x.op = 21 then (if 0 ≤ x.a then match p.consts[x.a.toNat]? with | some v => (v.l.length : Int) | none => 0 else 0, 1)
  else if x.op = 29 then (if 0 ≤ x.a then match p.funcs[x.a.toNat]? with | some f => f.args | none => 0 else 0, 1)
  else if x.op = 31 then (if x.a ≠ 3 ∧ x.a ≠ 5 ∧ x.a ≠ 6 then 1 else 0, 1)
  else (0, 0)
/-- What is known at a place: how many values wait, and the handlers. -/
structure HS where
  h : Int
  ts : List (Int × Int)
  deriving DecidableEq, Inhabited
/-- May a handler find what it needs? -/
def lowOk (s : HS) (n : Int) : Bool := match s.ts.getLast? with | none => true | some t => decide (t.2 ≤ n)
/-- What an instruction comes to; none: it may not be. -/
def nextM (p : PG) (x : IN) (i : Nat) (s : HS) : Option (List (Int × HS)) :=
  if s.h < (movesM p x).1 ∨ 32 < s.h - (movesM p x).1 + (movesM p x).2 ∨ lowOk s (s.h - (movesM p x).1) = false then none
  else if x.op = 28 ∨ x.op = 30 then some []
  else if x.op = 24 then some [(x.a, ⟨s.h - (movesM p x).1 + (movesM p x).2, s.ts⟩)]
  else if x.op = 25 then some [(x.a, ⟨s.h - (movesM p x).1 + (movesM p x).2, s.ts⟩), ((i : Int) + 1, ⟨s.h - (movesM p x).1 + (movesM p x).2, s.ts⟩)]
  else if x.op = 26 then
    if 8 ≤ s.ts.length then none
    else some [(x.a, ⟨s.h - (movesM p x).1 + (movesM p x).2 + 1, s.ts⟩), ((i : Int) + 1, ⟨s.h - (movesM p x).1 + (movesM p x).2, s.ts ++ [(x.a, s.h - (movesM p x).1 + (movesM p x).2)]⟩)]
  else if x.op = 27 then
    if s.ts = [] then none else some [((i : Int) + 1, ⟨s.h - (movesM p x).1 + (movesM p x).2, s.ts.dropLast⟩)]
  else some [((i : Int) + 1, ⟨s.h - (movesM p x).1 + (movesM p x).2, s.ts⟩)]
abbrev PL := List (Option HS)
def PL.at (l : PL) (i : Nat) : Option HS := (l[i]?).getD none
theorem PL.at_set {l : PL} {i j : Nat} {v : Option HS} : PL.at (l.set i v) j = if i = j ∧ j < l.length then v else PL.at l j := by
  unfold PL.at
  rw [List.getElem?_set]
  by_cases h : i = j
  · subst h
    by_cases h2 : i < l.length
    · simp [h2]
    · simp [h2]
  · simp [h]
/-- A place may be come to. -/
def fits (n : Nat) (c : Int × HS) : Prop := 0 ≤ c.1 ∧ c.1 < n ∧ c.2.h ≤ 32
instance (n : Nat) (c : Int × HS) : Decidable (fits n c) := by unfold fits; infer_instance
/-- What is reached. -/
inductive Reach (p : PG) (c : List IN) : Nat → HS → Prop
  | zero : Reach p c 0 ⟨0, []⟩
  | step {i : Nat} {s : HS} {x : IN} {l : List (Int × HS)} {t : Int × HS} : Reach p c i s → c[i]? = some x → nextM p x i s = some l → t ∈ l → fits c.length t → Reach p c t.1.toNat t.2
/-- Nothing odd: at each place that is reached. -/
structure Sure (p : PG) (c : List IN) : Prop where
  ok : ∀ i s, Reach p c i s → ∃ x l, c[i]? = some x ∧ nextM p x i s = some l ∧ ∀ t ∈ l, fits c.length t
  one : ∀ i s s', Reach p c i s → Reach p c i s' → s = s'
/-- What is known is what is reached. -/
structure Known (p : PG) (c : List IN) (l : PL) : Prop where
  len : l.length = c.length
  at_ : ∀ i s, PL.at l i = some s ↔ Reach p c i s
theorem Known.uniq {p : PG} {c : List IN} {l l' : PL} (h : Known p c l) (h' : Known p c l') : l = l' := by
  refine List.ext_getElem (by rw [h.len, h'.len]) fun i h1 h2 => ?_
  have e : PL.at l i = PL.at l' i := by
    apply Option.ext
    intro s
    rw [h.at_, h'.at_]
  unfold PL.at at e
  rw [List.getElem?_eq_getElem h1, List.getElem?_eq_getElem h2] at e
  exact e
/-- What a search came to: places, or that something is odd. -/
def Found (p : PG) (c : List IN) : Option PL → Prop
  | some l => Sure p c ∧ Known p c l
  | none => ¬ Sure p c
theorem Found.uniq {p : PG} {c : List IN} : ∀ {a b : Option PL}, Found p c a → Found p c b → a = b
  | some _, some _, h, h' => congrArg some (h.2.uniq h'.2)
  | some _, none, h, h' => absurd h.1 h'
  | none, some _, h, h' => absurd h'.1 h
  | none, none, _, _ => rfl

/-- A handed-on place: is it done with? -/
def DoneAt (p : PG) (c : List IN) (l : PL) (i : Nat) (s : HS) : Prop := ∃ x m, c[i]? = some x ∧ nextM p x i s = some m ∧ ∀ t ∈ m, fits c.length t ∧ PL.at l t.1.toNat = some t.2
/-- All that is known is reached. -/
def Below (p : PG) (c : List IN) (l : PL) : Prop := ∀ i s, PL.at l i = some s → Reach p c i s
theorem found_of {p : PG} {c : List IN} {l : PL} (hl : l.length = c.length) (h0 : PL.at l 0 = some ⟨0, []⟩) (hb : Below p c l) (hd : ∀ i s, PL.at l i = some s → DoneAt p c l i s) : Found p c (some l) := by
  have hr : ∀ i s, Reach p c i s → PL.at l i = some s := by
    intro i s h
    induction h with
    | zero => exact h0
    | step hp hx hn ht hf ih =>
      obtain ⟨x', m, h1, h2, h3⟩ := hd _ _ ih
      rw [hx] at h1; cases h1
      rw [hn] at h2; cases h2
      exact (h3 _ ht).2
  refine ⟨⟨fun i s h => ?_, fun i s s' h h' => ?_⟩, hl, fun i s => ⟨hb i s, hr i s⟩⟩
  · obtain ⟨x, m, h1, h2, h3⟩ := hd _ _ (hr _ _ h)
    exact ⟨x, m, h1, h2, fun t ht => (h3 t ht).1⟩
  · have := hr _ _ h; rw [hr _ _ h'] at this; exact (Option.some.inj this).symm

/-! The program's way: places that are to be looked at wait in a row. -/
structure KS where
  pl : PL
  left : List Nat
  odd : Bool
def comeK (k : KS) (t : Int × HS) : KS :=
  if (k.pl.length : Int) ≤ t.1 ∨ 32 < t.2.h then { k with odd := true }
  else match PL.at k.pl t.1.toNat with
    | some s => { k with odd := k.odd || decide (s ≠ t.2) }
    | none => ⟨k.pl.set t.1.toNat (some t.2), k.left ++ [t.1.toNat], k.odd⟩
def stepK (p : PG) (x : IN) (i : Nat) (s : HS) (k : KS) : KS :=
  if s.h < (movesM p x).1 ∨ 32 < s.h - (movesM p x).1 + (movesM p x).2 then { k with odd := true }
  else if lowOk s (s.h - (movesM p x).1) = false then { k with odd := true }
  else if x.op = 28 ∨ x.op = 30 then k
  else if x.op = 24 then comeK k (x.a, ⟨s.h - (movesM p x).1 + (movesM p x).2, s.ts⟩)
  else if x.op = 25 then comeK (comeK k (x.a, ⟨s.h - (movesM p x).1 + (movesM p x).2, s.ts⟩)) ((i : Int) + 1, ⟨s.h - (movesM p x).1 + (movesM p x).2, s.ts⟩)
  else if x.op = 26 then
    comeK (comeK { k with odd := k.odd || decide (8 ≤ s.ts.length) } (x.a, ⟨s.h - (movesM p x).1 + (movesM p x).2 + 1, s.ts⟩)) ((i : Int) + 1, ⟨s.h - (movesM p x).1 + (movesM p x).2, s.ts ++ [(x.a, s.h - (movesM p x).1 + (movesM p x).2)]⟩)
  else if x.op = 27 then
    if s.ts = [] then { k with odd := true } else comeK k ((i : Int) + 1, ⟨s.h - (movesM p x).1 + (movesM p x).2, s.ts.dropLast⟩)
  else comeK k ((i : Int) + 1, ⟨s.h - (movesM p x).1 + (movesM p x).2, s.ts⟩)
theorem stepK_some {p : PG} {x : IN} {i : Nat} {s : HS} {l : List (Int × HS)} (k : KS) (h : nextM p x i s = some l) : stepK p x i s k = l.foldl comeK k := by
  unfold nextM at h
  unfold stepK
  split at h
  · cases h
  rename_i h1
  rw [if_neg (fun hc => h1 (by rcases hc with hc | hc <;> simp [hc])), if_neg (fun hc => h1 (by simp [hc]))]
  split at h
  · rename_i h2; cases h; rw [if_pos h2]; rfl
  rename_i h2; rw [if_neg h2]
  split at h
  · rename_i h3; cases h; rw [if_pos h3]; rfl
  rename_i h3; rw [if_neg h3]
  split at h
  · rename_i h4; cases h; rw [if_pos h4]; rfl
  rename_i h4; rw [if_neg h4]
  split at h
  · rename_i h5; rw [if_pos h5]
    split at h
    · cases h
    · rename_i h6; cases h
      rw [decide_eq_false h6, Bool.or_false]; rfl
  rename_i h5; rw [if_neg h5]
  split at h
  · rename_i h6; rw [if_pos h6]
    split at h
    · cases h
    · rename_i h7; cases h; rw [if_neg h7]; rfl
  rename_i h6; rw [if_neg h6]
  cases h; rfl
theorem comeK_odd {k : KS} (t : Int × HS) (h : k.odd = true) : (comeK k t).odd = true := by
  unfold comeK
  split
  · rfl
  · split
    · simp [h]
    · exact h
theorem stepK_none {p : PG} {x : IN} {i : Nat} {s : HS} (k : KS) (h : nextM p x i s = none) : (stepK p x i s k).odd = true := by
  unfold nextM at h
  unfold stepK
  split
  · rfl
  rename_i h1
  split
  · rfl
  rename_i h1'
  rw [if_neg (fun hc => by rcases hc with hc | hc | hc <;> first | exact h1 (.inl hc) | exact h1 (.inr hc) | exact h1' hc)] at h
  split
  · rename_i h2; rw [if_pos h2] at h; cases h
  rename_i h2; rw [if_neg h2] at h
  split
  · rename_i h3; rw [if_pos h3] at h; cases h
  rename_i h3; rw [if_neg h3] at h
  split
  · rename_i h4; rw [if_pos h4] at h; cases h
  rename_i h4; rw [if_neg h4] at h
  split
  · rename_i h5; rw [if_pos h5] at h
    split at h
    · rename_i h6
      exact comeK_odd _ (comeK_odd _ (by simp [h6]))
    · cases h
  rename_i h5; rw [if_neg h5] at h
  split
  · rename_i h6; rw [if_pos h6] at h
    split
    · rfl
    · rename_i h7; rw [if_neg h7] at h; cases h
  rename_i h6; rw [if_neg h6] at h; cases h
/-- How much there is to do. -/
def PL.free : PL → Nat
  | [] => 0
  | none :: r => 1 + PL.free r
  | some _ :: r => PL.free r
theorem PL.free_set : ∀ {l : PL} {i : Nat} {s : HS}, i < l.length → PL.at l i = none → PL.free (l.set i (some s)) + 1 = PL.free l
  | none :: r, 0, s, _, _ => by simp [PL.free]; omega
  | some _ :: r, 0, s, _, h => by simp [PL.at] at h
  | none :: r, i + 1, s, h, h2 => by
    have := PL.free_set (l := r) (i := i) (s := s) (by simpa using h) (by simpa [PL.at] using h2)
    simp only [List.set_cons_succ, PL.free]; omega
  | some _ :: r, i + 1, s, h, h2 => by
    have := PL.free_set (l := r) (i := i) (s := s) (by simpa using h) (by simpa [PL.at] using h2)
    simp only [List.set_cons_succ, PL.free]; omega
  | [], _, _, h, _ => by simp at h
theorem PL.free_le : ∀ l : PL, PL.free l ≤ l.length
  | [] => Nat.le_refl _
  | none :: r => by have := PL.free_le r; simp only [PL.free, List.length_cons]; omega
  | some _ :: r => by have := PL.free_le r; simp only [PL.free, List.length_cons]; omega
def KS.todo (k : KS) : Nat := PL.free k.pl + k.left.length
theorem comeK_len (k : KS) (t : Int × HS) : (comeK k t).pl.length = k.pl.length := by
  unfold comeK; split <;> try rfl
  split <;> simp
theorem comeK_todo (k : KS) (t : Int × HS) (h0 : 0 ≤ t.1) : (comeK k t).todo = k.todo ∧ PL.free (comeK k t).pl ≤ PL.free k.pl := by
  unfold comeK
  split
  · exact ⟨rfl, Nat.le_refl _⟩
  · split
    · exact ⟨rfl, Nat.le_refl _⟩
    · rename_i h1 h2
      have := PL.free_set (l := k.pl) (i := t.1.toNat) (s := t.2) (by omega) h2
      simp only [KS.todo, List.length_append, List.length_cons, List.length_nil]
      omega
end Go.Vc
namespace Go.Vc
open Go
/-- One place after the other is looked at, the last one first. -/
def loopK (p : PG) (c : List IN) : Nat → KS → KS
  | 0, k => k
  | n + 1, k => match k.left.getLast? with
    | none => k
    | some i => match stepK p (c.getD i default) i ((PL.at k.pl i).getD default) { k with left := k.left.dropLast } with
      | k' => if k'.odd then k' else loopK p c n k'
def startK (n : Nat) : KS := ⟨(List.replicate n none).set 0 (some ⟨0, []⟩), [0], false⟩
def funcK (p : PG) (c : List IN) : Option PL := if (loopK p c c.length (startK c.length)).odd then none else some (loopK p c c.length (startK c.length)).pl

structure InvX (p : PG) (c : List IN) (e : Option Nat) (k : KS) : Prop where
  len : k.pl.length = c.length
  below : Below p c k.pl
  lf : ∀ i ∈ k.left, ∃ s, PL.at k.pl i = some s
  done : k.odd = false → ∀ i s, PL.at k.pl i = some s → some i = e ∨ i ∈ k.left ∨ DoneAt p c k.pl i s
  odd : k.odd = true → ¬ Sure p c
  zero : PL.at k.pl 0 = some ⟨0, []⟩
theorem comeK_grow {k : KS} {t : Int × HS} {i : Nat} {s : HS} (_ : 0 ≤ t.1) (h : PL.at k.pl i = some s) : PL.at (comeK k t).pl i = some s := by
  unfold comeK
  split
  · exact h
  · split
    · exact h
    · rename_i h1 h2
      rw [PL.at_set]
      split
      · rename_i h3
        rw [h3.1] at h2
        rw [h2] at h; cases h
      · exact h
theorem DoneAt.grow {p : PG} {c : List IN} {l l' : PL} {i : Nat} {s : HS} (h : DoneAt p c l i s) (hg : ∀ i s, PL.at l i = some s → PL.at l' i = some s) : DoneAt p c l' i s := by
  obtain ⟨x, m, h1, h2, h3⟩ := h
  exact ⟨x, m, h1, h2, fun t ht => ⟨(h3 t ht).1, hg _ _ (h3 t ht).2⟩⟩
theorem comeK_inv {p : PG} {c : List IN} {e : Option Nat} {k : KS} {t : Int × HS} (hk : InvX p c e k) (h0 : 0 ≤ t.1) (hr : fits c.length t → Reach p c t.1.toNat t.2) (hbad : ¬ fits c.length t → ¬ Sure p c) :
    InvX p c e (comeK k t) ∧ ((comeK k t).odd = false → fits c.length t ∧ PL.at (comeK k t).pl t.1.toNat = some t.2) := by
  have hl := hk.len
  by_cases hf : (k.pl.length : Int) ≤ t.1 ∨ 32 < t.2.h
  · have hn : ¬ fits c.length t := fun h => by rcases hf with h1 | h1 <;> (have := h.2.1; have := h.2.2; omega)
    have e1 : comeK k t = { k with odd := true } := by unfold comeK; rw [if_pos hf]
    rw [e1]
    exact ⟨⟨hk.len, hk.below, hk.lf, fun h => (by cases h), fun _ => hbad hn, hk.zero⟩, fun h => (by cases h)⟩
  · have hft : fits c.length t := ⟨h0, by omega, by omega⟩
    have hre := hr hft
    cases ha : PL.at k.pl t.1.toNat with
    | some s =>
      have e1 : comeK k t = { k with odd := k.odd || decide (s ≠ t.2) } := by unfold comeK; rw [if_neg hf, ha]
      rw [e1]
      refine ⟨⟨hk.len, hk.below, hk.lf, fun h => ?_, fun h => ?_, hk.zero⟩, fun h => ⟨hft, ?_⟩⟩
      · simp only [Bool.or_eq_false_iff] at h
        exact hk.done h.1
      · simp only [Bool.or_eq_true, decide_eq_true_eq] at h
        rcases h with h | h
        · exact hk.odd h
        · exact fun hs => h (hs.one _ _ _ (hk.below _ _ ha) hre)
      · simp only [Bool.or_eq_false_iff, decide_eq_false_iff_not, Decidable.not_not] at h
        rw [← h.2]; exact ha
    | none =>
      have e1 : comeK k t = ⟨k.pl.set t.1.toNat (some t.2), k.left ++ [t.1.toNat], k.odd⟩ := by unfold comeK; rw [if_neg hf, ha]
      have hg : ∀ i s, PL.at k.pl i = some s → PL.at (k.pl.set t.1.toNat (some t.2)) i = some s := fun i s h => by
        rw [PL.at_set]
        split
        · rename_i h3
          rw [← h3.1, ha] at h; cases h
        · exact h
      have hlt : t.1.toNat < k.pl.length := by omega
      rw [e1]
      refine ⟨⟨by simp [hl], fun i s h => ?_, fun i hi => ?_, fun h i s hs => ?_, hk.odd, hg _ _ hk.zero⟩, fun _ => ⟨hft, ?_⟩⟩
      · simp only [PL.at_set] at h
        split at h
        · rename_i h3; cases h; rw [← h3.1]; exact hre
        · exact hk.below _ _ h
      · simp only [List.mem_append, List.mem_singleton] at hi
        rcases hi with hi | rfl
        · obtain ⟨s, hs⟩ := hk.lf i hi; exact ⟨s, hg _ _ hs⟩
        · exact ⟨t.2, by show PL.at (k.pl.set _ _) _ = _; rw [PL.at_set, if_pos ⟨rfl, hlt⟩]⟩
      · simp only [PL.at_set] at hs
        split at hs
        · rename_i h3
          exact .inr (.inl (by simp [← h3.1]))
        · rcases hk.done h i s hs with h4 | h4 | h4
          · exact .inl h4
          · exact .inr (.inl (by simp [h4]))
          · exact .inr (.inr (h4.grow hg))
      · show PL.at (k.pl.set _ _) _ = _
        rw [PL.at_set, if_pos ⟨rfl, hlt⟩]
theorem fold_inv {p : PG} {c : List IN} {e : Option Nat} : ∀ {l : List (Int × HS)} {k : KS}, InvX p c e k → (∀ t ∈ l, 0 ≤ t.1) → (∀ t ∈ l, fits c.length t → Reach p c t.1.toNat t.2) → (∀ t ∈ l, ¬ fits c.length t → ¬ Sure p c) →
    InvX p c e (l.foldl comeK k) ∧ (∀ i s, PL.at k.pl i = some s → PL.at (l.foldl comeK k).pl i = some s) ∧ ((l.foldl comeK k).odd = false → k.odd = false ∧ ∀ t ∈ l, fits c.length t ∧ PL.at (l.foldl comeK k).pl t.1.toNat = some t.2)
  | [], k, hk, _, _, _ => ⟨hk, fun _ _ h => h, fun h => ⟨h, fun t ht => by cases ht⟩⟩
  | t :: r, k, hk, h0, hr, hb => by
    obtain ⟨h1, h2⟩ := comeK_inv hk (h0 t (by simp)) (hr t (by simp)) (hb t (by simp))
    obtain ⟨h3, h4, h5⟩ := fold_inv (l := r) (k := comeK k t) h1 (fun u hu => h0 u (by simp [hu])) (fun u hu => hr u (by simp [hu])) (fun u hu => hb u (by simp [hu]))
    refine ⟨h3, fun i s h => h4 _ _ (comeK_grow (h0 t (by simp)) h), fun h => ?_⟩
    obtain ⟨h6, h7⟩ := h5 h
    refine ⟨?_, fun u hu => ?_⟩
    · cases hk' : k.odd
      · rfl
      · rw [comeK_odd t hk'] at h6; cases h6
    · rcases List.mem_cons.1 hu with rfl | hu
      · exact ⟨(h2 h6).1, h4 _ _ (h2 h6).2⟩
      · exact h7 u hu
/-- Jumps do not go ahead of the code. -/
def Ahead (c : List IN) : Prop := ∀ x ∈ c, (x.op = 24 ∨ x.op = 25 ∨ x.op = 26) → 0 ≤ x.a
theorem next_pos {p : PG} {c : List IN} (hc : Ahead c) {i : Nat} {s : HS} {x : IN} {l : List (Int × HS)} (hx : c[i]? = some x) (h : nextM p x i s = some l) : ∀ t ∈ l, 0 ≤ t.1 := by
  have hm := List.mem_of_getElem? hx
  have ha := hc x hm
  unfold nextM at h
  split at h
  · cases h
  split at h
  · cases h; intro t ht; cases ht
  split at h
  · rename_i h3; cases h; intro t ht; simp only [List.mem_singleton] at ht; subst ht; exact ha (.inl h3)
  split at h
  · rename_i h4; cases h; intro t ht
    simp only [List.mem_cons, List.not_mem_nil, or_false] at ht
    rcases ht with rfl | rfl
    · exact ha (.inr (.inl h4))
    · show (0 : Int) ≤ (i : Int) + 1; omega
  split at h
  · rename_i h5
    split at h
    · cases h
    cases h; intro t ht
    simp only [List.mem_cons, List.not_mem_nil, or_false] at ht
    rcases ht with rfl | rfl
    · exact ha (.inr (.inr h5))
    · show (0 : Int) ≤ (i : Int) + 1; omega
  split at h
  · split at h
    · cases h
    cases h; intro t ht; simp only [List.mem_singleton] at ht; subst ht; show (0 : Int) ≤ (i : Int) + 1; omega
  cases h; intro t ht; simp only [List.mem_singleton] at ht; subst ht; show (0 : Int) ≤ (i : Int) + 1; omega
theorem fold_todo : ∀ {l : List (Int × HS)} {k : KS}, (∀ t ∈ l, 0 ≤ t.1) → (l.foldl comeK k).todo = k.todo
  | [], _, _ => rfl
  | t :: r, k, h => by
    have := fold_todo (l := r) (k := comeK k t) (fun u hu => h u (by simp [hu]))
    rw [List.foldl_cons, this]
    exact (comeK_todo k t (h t (by simp))).1
theorem todo_pop {k : KS} (h : k.left ≠ []) : ({ k with left := k.left.dropLast } : KS).todo + 1 = k.todo := by
  have : 0 < k.left.length := List.length_pos_iff.2 h
  simp only [KS.todo, List.length_dropLast]
  omega
theorem loopK_found {p : PG} {c : List IN} (hc : Ahead c) : ∀ (n : Nat) (k : KS), InvX p c none k → k.odd = false → k.todo ≤ n → Found p c (if (loopK p c n k).odd then none else some (loopK p c n k).pl)
  | 0, k, hk, ho, ht => by
    have hl : k.left = [] := List.eq_nil_of_length_eq_zero (by unfold KS.todo at ht; omega)
    simp only [loopK, ho]
    refine found_of hk.len hk.zero hk.below fun i s h => ?_
    rcases hk.done ho i s h with h4 | h4 | h4
    · cases h4
    · rw [hl] at h4; cases h4
    · exact h4
  | n + 1, k, hk, ho, ht => by
    cases hg : k.left.getLast? with
    | none =>
      have hl : k.left = [] := List.getLast?_eq_none_iff.1 hg
      simp only [loopK, hg, ho]
      refine found_of hk.len hk.zero hk.below fun i s h => ?_
      rcases hk.done ho i s h with h4 | h4 | h4
      · cases h4
      · rw [hl] at h4; cases h4
      · exact h4
    | some i =>
      have hne : k.left ≠ [] := fun h => by rw [h] at hg; cases hg
      have hmem : i ∈ k.left := List.mem_of_getLast? hg
      obtain ⟨s, hs⟩ := hk.lf i hmem
      have hdl : k.left = k.left.dropLast ++ [i] := by
        have := List.dropLast_concat_getLast hne
        rw [List.getLast?_eq_some_getLast hne] at hg
        cases hg
        exact this.symm
      have hlt : i < c.length := by
        rw [← hk.len]
        by_cases h : i < k.pl.length
        · exact h
        · rw [PL.at, List.getElem?_eq_none (by omega)] at hs; cases hs
      have hx : c[i]? = some (c.getD i default) := by rw [List.getD_eq_getElem?_getD, List.getElem?_eq_getElem hlt]; rfl
      have hre := hk.below _ _ hs
      have hpop : InvX p c (some i) { k with left := k.left.dropLast } := by
        refine ⟨hk.len, hk.below, fun j hj => hk.lf j (by rw [hdl]; simp [hj]), fun _ j u hu => ?_, fun h => (by rw [show k.odd = true from h] at ho; cases ho), hk.zero⟩
        rcases hk.done ho j u hu with h4 | h4 | h4
        · cases h4
        · rw [hdl] at h4
          rcases List.mem_append.1 h4 with h5 | h5
          · exact .inr (.inl h5)
          · simp only [List.mem_singleton] at h5; subst h5; exact .inl rfl
        · exact .inr (.inr h4)
      have hlast : c.getD i default = c.getD i default := rfl
      simp only [loopK, hg, hs, Option.getD_some]
      cases hn : nextM p (c.getD i default) i s with
      | none =>
        have h1 := stepK_none (p := p) (x := c.getD i default) (i := i) (s := s) { k with left := k.left.dropLast } hn
        rw [if_pos h1, if_pos h1]
        show ¬ Sure p c
        intro hsu
        obtain ⟨x, l, h2, h3, _⟩ := hsu.ok i s hre
        rw [hx] at h2; cases h2
        rw [hn] at h3; cases h3
      | some l =>
        rw [stepK_some { k with left := k.left.dropLast } hn]
        have hp0 := next_pos hc hx hn
        obtain ⟨h3, h4, h5⟩ := fold_inv (l := l) hpop hp0 (fun t ht hf => .step hre hx hn ht hf) (fun t ht hf hsu => by
          obtain ⟨x, l', h2, h3, h4⟩ := hsu.ok i s hre
          rw [hx] at h2; cases h2
          rw [hn] at h3; cases h3
          exact hf (h4 t ht))
        have htd := fold_todo (l := l) (k := { k with left := k.left.dropLast }) hp0
        have htp := todo_pop hne
        generalize l.foldl comeK { k with left := k.left.dropLast } = k' at h3 h4 h5 htd
        cases ho' : k'.odd
        · obtain ⟨_, h6⟩ := h5 ho'
          show Found p c (if (loopK p c n k').odd = true then none else some (loopK p c n k').pl)
          refine loopK_found hc n k' ⟨h3.len, h3.below, h3.lf, fun _ j u hu => ?_, h3.odd, h3.zero⟩ ho' (by omega)
          rcases h3.done ho' j u hu with h7 | h7 | h7
          · cases h7
            rw [h4 _ _ hs] at hu; cases hu
            exact .inr (.inr ⟨_, l, hx, hn, h6⟩)
          · exact .inr (.inl h7)
          · exact .inr (.inr h7)
        · show Found p c (if k'.odd = true then none else some k'.pl)
          rw [if_pos ho']
          exact h3.odd ho'
theorem at_start (n i : Nat) (h : 0 < n) : PL.at (startK n).pl i = if i = 0 then some ⟨0, []⟩ else none := by
  unfold startK
  simp only [PL.at_set, List.length_replicate]
  by_cases hi : i = 0
  · subst hi; simp [h]
  · rw [if_neg (fun hc => hi hc.1.symm), if_neg hi]
    unfold PL.at
    rw [List.getElem?_replicate]
    split <;> rfl
theorem free_rep : ∀ n, PL.free (List.replicate n none) = n
  | 0 => rfl
  | n + 1 => by rw [List.replicate_succ, PL.free, free_rep n]; omega
theorem start_todo (n : Nat) (h : 0 < n) : (startK n).todo = n := by
  have h1 := PL.free_set (l := List.replicate n none) (i := 0) (s := ⟨0, []⟩) (by simpa using h) (by unfold PL.at; rw [List.getElem?_replicate]; split <;> rfl)
  rw [free_rep] at h1
  simp only [KS.todo, startK, List.length_cons, List.length_nil]
  omega
theorem start_inv (p : PG) (c : List IN) (h : 0 < c.length) : InvX p c none (startK c.length) := by
  refine ⟨by simp [startK], fun i s hs => ?_, fun i hi => ?_, fun _ i s hs => ?_, fun ho => (by cases ho), by rw [at_start _ _ h]; rfl⟩
  · rw [at_start _ _ h] at hs
    split at hs
    · rename_i h1; subst h1; cases hs; exact .zero
    · cases hs
  · simp only [startK, List.mem_singleton] at hi
    subst hi
    exact ⟨_, by rw [at_start _ _ h]; rfl⟩
  · rw [at_start _ _ h] at hs
    split at hs
    · rename_i h1; subst h1; exact .inr (.inl (by simp [startK]))
    · cases hs
/-- The program's way finds it. -/
theorem funcK_found (p : PG) (c : List IN) (hc : Ahead c) (h : 0 < c.length) : Found p c (funcK p c) :=
  loopK_found hc c.length _ (start_inv p c h) rfl (Nat.le_of_eq (start_todo _ h))
end Go.Vc
namespace Go.Vc
open Go
/-- Instructions take off and put on no fewer than none. -/
def Moving (p : PG) (c : List IN) : Prop := ∀ x ∈ c, 0 ≤ (movesM p x).1 ∧ 0 ≤ (movesM p x).2
structure Bnd (p : PG) (c : List IN) (s : HS) : Prop where
  h0 : 0 ≤ s.h
  h1 : s.h ≤ 32
  len : s.ts.length ≤ 8
  ord : s.ts.Pairwise fun a b => a.2 ≤ b.2
  low : ∀ t ∈ s.ts, t.2 ≤ s.h
  lead : ∀ (k : Nat) t, s.ts[k]? = some t → 0 ≤ t.1 ∧ t.1 < c.length ∧ Reach p c t.1.toNat ⟨t.2 + 1, s.ts.take k⟩
theorem low_all {s : HS} (ho : s.ts.Pairwise fun a b => a.2 ≤ b.2) {n : Int} (h : lowOk s n = true) : ∀ t ∈ s.ts, t.2 ≤ n := by
  obtain ⟨h', ts⟩ := s
  simp only at ho ⊢
  intro t ht
  unfold lowOk at h
  cases hl : ts.getLast? with
  | none => rw [List.getLast?_eq_none_iff.1 hl] at ht; cases ht
  | some u =>
    simp only [hl] at h
    have hu : u.2 ≤ n := of_decide_eq_true h
    have hne : ts ≠ [] := fun hc => by rw [hc] at ht; cases ht
    have hd : ts = ts.dropLast ++ [u] := by
      have := List.dropLast_concat_getLast hne
      rw [List.getLast?_eq_some_getLast hne] at hl
      cases hl
      exact this.symm
    rw [hd] at ht ho
    rcases List.mem_append.1 ht with h1 | h1
    · exact Int.le_trans ((List.pairwise_append.1 ho).2.2 t h1 u (by simp)) hu
    · simp only [List.mem_singleton] at h1; subst h1; exact hu
theorem bounds {p : PG} {c : List IN} (hs : Sure p c) (hm : Moving p c) {i : Nat} {s : HS} (h : Reach p c i s) : Bnd p c s := by
  induction h with
  | zero => exact ⟨by decide, by decide, by decide, List.Pairwise.nil, fun t ht => (by cases ht), fun k t ht => (by simp at ht)⟩
  | @step i s x l t hr hx hn ht hf ih =>
    obtain ⟨m0, m1⟩ := hm x (List.mem_of_getElem? hx)
    have hfit : ∀ u ∈ l, fits c.length u := fun u hu => by
      obtain ⟨x', l', h1, h2, h3⟩ := hs.ok _ _ hr
      rw [hx] at h1; cases h1
      rw [hn] at h2; cases h2
      exact h3 u hu
    have hreach : ∀ u ∈ l, Reach p c u.1.toNat u.2 := fun u hu => .step hr hx hn hu (hfit u hu)
    unfold nextM at hn
    split at hn
    · cases hn
    rename_i hb
    have hlow : lowOk s (s.h - (movesM p x).1) = true := by
      cases hc : lowOk s (s.h - (movesM p x).1)
      · exact absurd (.inr (.inr hc)) hb
      · rfl
    have hall := low_all ih.ord hlow
    have hh : ¬ s.h < (movesM p x).1 := fun hc => hb (.inl hc)
    have hg : ¬ 32 < s.h - (movesM p x).1 + (movesM p x).2 := fun hc => hb (.inr (.inl hc))
    generalize hh' : s.h - (movesM p x).1 + (movesM p x).2 = h' at hn hg
    have hall' : ∀ u ∈ s.ts, u.2 ≤ h' := fun u hu => by have := hall u hu; omega
    have base : Bnd p c ⟨h', s.ts⟩ := ⟨by show (0:Int) ≤ h'; omega, by show h' ≤ (32:Int); omega, ih.len, ih.ord, hall', ih.lead⟩
    have up : ∀ (h32 : h' + 1 ≤ 32), Bnd p c ⟨h' + 1, s.ts⟩ := fun h32 => ⟨by show (0:Int) ≤ h' + 1; omega, h32, ih.len, ih.ord, fun u hu => by have := hall' u hu; show u.2 ≤ h' + 1; omega, ih.lead⟩
    split at hn
    · cases hn; cases ht
    split at hn
    · cases hn; simp only [List.mem_singleton] at ht; subst ht; exact base
    split at hn
    · cases hn
      simp only [List.mem_cons, List.not_mem_nil, or_false] at ht
      rcases ht with rfl | rfl <;> exact base
    split at hn
    · split at hn
      · cases hn
      rename_i h8
      cases hn
      have hfa := hfit (x.a, ⟨h' + 1, s.ts⟩) (by simp)
      have hra := hreach (x.a, ⟨h' + 1, s.ts⟩) (by simp)
      simp only [List.mem_cons, List.not_mem_nil, or_false] at ht
      rcases ht with rfl | rfl
      · exact up hf.2.2
      · refine ⟨base.h0, base.h1, ?_, ?_, ?_, ?_⟩
        · show (s.ts ++ [(x.a, h')]).length ≤ 8
          rw [List.length_append, List.length_singleton]; omega
        · show (s.ts ++ [(x.a, h')]).Pairwise _
          rw [List.pairwise_append]
          refine ⟨ih.ord, List.pairwise_singleton _ _, fun a ha b hb => ?_⟩
          simp only [List.mem_singleton] at hb; subst hb
          exact hall' a ha
        · intro u hu
          rcases List.mem_append.1 hu with h1 | h1
          · exact hall' u h1
          · simp only [List.mem_singleton] at h1; subst h1; exact Int.le_refl _
        · intro k u hu
          show 0 ≤ u.1 ∧ u.1 < c.length ∧ Reach p c u.1.toNat ⟨u.2 + 1, (s.ts ++ [(x.a, h')]).take k⟩
          have hu : (s.ts ++ [(x.a, h')])[k]? = some u := hu
          by_cases hk : k < s.ts.length
          · rw [List.getElem?_append_left hk] at hu
            rw [List.take_append_of_le_length (by omega)]
            exact ih.lead k u hu
          · rw [List.getElem?_append_right (by omega)] at hu
            have hk0 : k - s.ts.length = 0 := by
              by_cases h0 : k - s.ts.length = 0
              · exact h0
              · rw [List.getElem?_eq_none (by simp; omega)] at hu; cases hu
            rw [hk0] at hu
            cases hu
            obtain rfl : k = s.ts.length := by omega
            rw [List.take_left']
            · exact ⟨hfa.1, hfa.2.1, hra⟩
            · rfl
    split at hn
    · split at hn
      · cases hn
      cases hn
      simp only [List.mem_singleton] at ht; subst ht
      refine ⟨base.h0, base.h1, ?_, ?_, ?_, ?_⟩
      · show s.ts.dropLast.length ≤ 8
        rw [List.length_dropLast]; have := ih.len; omega
      · exact List.Pairwise.sublist (List.dropLast_sublist _) ih.ord
      · intro u hu; exact hall' u ((List.dropLast_sublist _).subset hu)
      · intro k u hu
        have hu : s.ts.dropLast[k]? = some u := hu
        show 0 ≤ u.1 ∧ u.1 < c.length ∧ Reach p c u.1.toNat ⟨u.2 + 1, s.ts.dropLast.take k⟩
        rw [List.getElem?_dropLast] at hu
        split at hu
        · rename_i hk
          rw [List.dropLast_eq_take, List.take_take, Nat.min_eq_left (by omega)]
          exact ih.lead k u hu
        · cases hu
    · cases hn; simp only [List.mem_singleton] at ht; subst ht; exact base
/-- Instructions do the same in two programs. -/
theorem next_same {p q : PG} {x : IN} (h : movesM p x = movesM q x) (i : Nat) (s : HS) : nextM p x i s = nextM q x i s := by
  unfold nextM
  rw [h]
end Go.Vc
namespace Go.Vc
open Go
structure KI (n : Nat) (k : KS) : Prop where
  len : k.pl.length = n
  lf : ∀ i ∈ k.left, ∃ s, PL.at k.pl i = some s
  q : ∀ i s, PL.at k.pl i = some s → 0 ≤ s.h ∧ s.h ≤ 32 ∧ s.ts.length ≤ 8
theorem comeK_KI {n : Nat} {k : KS} {t : Int × HS} (h : KI n k) (h0 : 0 ≤ t.1) (h1 : 0 ≤ t.2.h) (h2 : t.2.ts.length ≤ 8) : KI n (comeK k t) := by
  refine ⟨by rw [comeK_len]; exact h.len, fun i hi => ?_, fun i s hs => ?_⟩
  · unfold comeK at hi
    split at hi
    · obtain ⟨s, hs⟩ := h.lf i hi; exact ⟨s, comeK_grow h0 hs⟩
    · rename_i hb
      split at hi
      · obtain ⟨s, hs⟩ := h.lf i hi; exact ⟨s, comeK_grow h0 hs⟩
      · rename_i ha
        simp only [List.mem_append, List.mem_singleton] at hi
        rcases hi with hi | rfl
        · obtain ⟨s, hs⟩ := h.lf i hi; exact ⟨s, comeK_grow h0 hs⟩
        · refine ⟨t.2, ?_⟩
          unfold comeK
          rw [if_neg hb, ha]
          show PL.at (k.pl.set _ _) _ = _
          rw [PL.at_set, if_pos ⟨rfl, by omega⟩]
  · unfold comeK at hs
    split at hs
    · exact h.q i s hs
    · rename_i hb
      split at hs
      · exact h.q i s hs
      · rw [PL.at_set] at hs
        split at hs
        · cases hs; exact ⟨h1, by omega, h2⟩
        · exact h.q i s hs
theorem fold_KI {n : Nat} : ∀ {l : List (Int × HS)} {k : KS}, KI n k → (∀ t ∈ l, 0 ≤ t.1 ∧ 0 ≤ t.2.h ∧ t.2.ts.length ≤ 8) → KI n (l.foldl comeK k)
  | [], _, h, _ => h
  | t :: r, k, h, hl => by
    obtain ⟨h0, h1, h2⟩ := hl t (by simp)
    exact fold_KI (l := r) (comeK_KI h h0 h1 h2) fun u hu => hl u (by simp [hu])
theorem next_bound {p : PG} {x : IN} {i : Nat} {s : HS} {l : List (Int × HS)} (h : nextM p x i s = some l) (hon : 0 ≤ (movesM p x).2) (hj : (x.op = 24 ∨ x.op = 25 ∨ x.op = 26) → 0 ≤ x.a) (hs : s.ts.length ≤ 8) :
    ∀ t ∈ l, 0 ≤ t.1 ∧ 0 ≤ t.2.h ∧ t.2.ts.length ≤ 8 := by
  unfold nextM at h
  split at h
  · cases h
  rename_i hb
  have hh : 0 ≤ s.h - (movesM p x).1 + (movesM p x).2 := by
    have : ¬ s.h < (movesM p x).1 := fun hc => hb (.inl hc)
    omega
  generalize s.h - (movesM p x).1 + (movesM p x).2 = v at h hh
  split at h
  · cases h; intro t ht; cases ht
  split at h
  · rename_i h3; cases h; intro t ht; simp only [List.mem_singleton] at ht; subst ht; exact ⟨hj (.inl h3), hh, hs⟩
  split at h
  · rename_i h4; cases h; intro t ht
    simp only [List.mem_cons, List.not_mem_nil, or_false] at ht
    rcases ht with rfl | rfl
    · exact ⟨hj (.inr (.inl h4)), hh, hs⟩
    · exact ⟨by show (0 : Int) ≤ (i : Int) + 1; omega, hh, hs⟩
  split at h
  · rename_i h5
    split at h
    · cases h
    rename_i h8
    cases h; intro t ht
    simp only [List.mem_cons, List.not_mem_nil, or_false] at ht
    rcases ht with rfl | rfl
    · exact ⟨hj (.inr (.inr h5)), by show (0 : Int) ≤ v + 1; omega, hs⟩
    · exact ⟨by show (0 : Int) ≤ (i : Int) + 1; omega, hh, by show (s.ts ++ [(x.a, v)]).length ≤ 8; rw [List.length_append, List.length_singleton]; omega⟩
  split at h
  · split at h
    · cases h
    cases h; intro t ht; simp only [List.mem_singleton] at ht; subst ht
    exact ⟨by show (0 : Int) ≤ (i : Int) + 1; omega, hh, by show s.ts.dropLast.length ≤ 8; rw [List.length_dropLast]; omega⟩
  cases h; intro t ht; simp only [List.mem_singleton] at ht; subst ht
  exact ⟨by show (0 : Int) ≤ (i : Int) + 1; omega, hh, hs⟩
theorem start_KI (n : Nat) (h : 0 < n) : KI n (startK n) := by
  refine ⟨by simp [startK], fun i hi => ?_, fun i s hs => ?_⟩
  · simp only [startK, List.mem_singleton] at hi; subst hi; exact ⟨_, by rw [at_start _ _ h]; rfl⟩
  · rw [at_start _ _ h] at hs
    split at hs
    · cases hs; exact ⟨by decide, by decide, by decide⟩
    · cases hs
theorem stepK_len (p : PG) (x : IN) (i : Nat) (s : HS) (k : KS) : (stepK p x i s k).pl.length = k.pl.length := by
  unfold stepK
  repeat' split
  all_goals first
  | rfl
  | simp only [comeK_len]
/-- A round, whose outcome is not odd. -/
theorem round_KI {p : PG} {x : IN} {i n : Nat} {s : HS} {k : KS} (hk : KI n k) (hs : PL.at k.pl i = some s) (hne : k.left ≠ []) (hon : 0 ≤ (movesM p x).2) (hj : (x.op = 24 ∨ x.op = 25 ∨ x.op = 26) → 0 ≤ x.a)
    (ho : (stepK p x i s { k with left := k.left.dropLast }).odd = false) :
    KI n (stepK p x i s { k with left := k.left.dropLast }) ∧ (stepK p x i s { k with left := k.left.dropLast }).todo + 1 = k.todo := by
  cases hn : nextM p x i s with
  | none => rw [stepK_none _ hn] at ho; cases ho
  | some l =>
    rw [stepK_some _ hn]
    have hb := next_bound hn hon hj (hk.q _ _ hs).2.2
    refine ⟨fold_KI ⟨hk.len, fun j hj => hk.lf j ((List.dropLast_sublist _).subset hj), hk.q⟩ hb, ?_⟩
    rw [fold_todo (fun t ht => (hb t ht).1)]
    exact todo_pop hne
end Go.Vc
