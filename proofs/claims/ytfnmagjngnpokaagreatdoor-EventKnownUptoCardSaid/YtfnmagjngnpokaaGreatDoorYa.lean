/- What is proved here: contracts of functions of the program: of each function what it hands back and what it leaves in memory. Conditions: those that each theorem names. -/
import Derived.Test.YtfnmagjngnpokaaGreatDoorTo
import Derived.Test.YtfnmagjngnpokaaGreatDoorTi
import Derived.Test.YtfnmagjngnpokaaGreatDoorWn
set_option linter.unusedVariables false
set_option linter.unusedSimpArgs false
set_option linter.unusedSectionVars false
namespace Go.Vc
open Go Go.Proofs
set_option maxRecDepth 100000
/-- The event of a kind, with all its fields. -/
def fullE : Nat → EV
  | 0 => ⟨0, 2, 0, 0, [], V0⟩
  | 1 => ⟨1, 2, 5, 7, [112, 97, 121], .mk 1 9 [] [] []⟩
  | 2 => ⟨2, 2, 5, 0, [112, 97, 121], .mk 1 9 [] [] []⟩
  | 3 => ⟨3, 2, 5, 7, [], V0⟩
  | 4 => ⟨4, 2, 5, 7, [], V0⟩
  | 5 => ⟨5, 2, 5, 0, [], .mk 1 9 [] [] []⟩
  | 6 => ⟨6, 2, 5, 7, [], .mk 1 9 [] [] []⟩
  | 7 => ⟨7, 2, 5, 7, [], .mk 1 9 [] [] []⟩
  | 8 => ⟨8, 2, 5, 0, [], V0⟩
  | 9 => ⟨9, 2, 5, 0, [112, 97, 121], V0⟩
  | 10 => ⟨10, 2, 0, 0, [112, 97, 121], .mk 1 9 [] [] []⟩
  | 11 => ⟨11, 2, 5, 7, [112, 97, 121], .mk 1 9 [] [] []⟩
  | 12 => ⟨12, 2, 5, 7, [], V0⟩
  | 13 => ⟨13, 2, 5, 7, [], V0⟩
  | 14 => ⟨14, 2, 0, 0, [], V0⟩
  | 15 => ⟨15, 2, 0, 0, [], .mk 1 9 [] [] []⟩
  | 16 => ⟨16, 2, 0, 0, [], V0⟩
  | _ => ⟨0, 0, 0, 0, [], V0⟩
/-- An event whose value holds no others, of small size. -/
structure EN (e : EV) : Prop where
  l : e.v.l = []
  ns : e.v.ns = []
  n : i64 e.v.n
  b : bulkV e.v ≤ 1000
  s : e.s.length ≤ 1000
  id : i64 e.id
  m : i64 e.n
theorem EN.ea {e : EV} (h : EN e) : EA e 0 [] 0 := ⟨⟨by rw [h.l]; exact rfl, .inr h.l, .inr h.ns, h.n, by have := h.b; omega⟩, by have := h.s; omega, h.id, h.m⟩
/-- Its cells. -/
abbrev en (e : EV) : List PV := [.int .i64 e.kind, .int .i64 e.flow, .int .i64 e.id, .int .i64 e.n, .str e.s, .int .i64 e.v.k, .int .i64 e.v.n, .str e.v.s, .sl 0 [] false true, .sl 0 [] false true]
theorem en_ec {e : EV} (h : EN e) : ec e 0 [] false 0 false = en e := by
  obtain ⟨k, fl, id, n, s, k2, n2, s2, l, ns⟩ := e
  have h1 := h.l
  have h2 := h.ns
  simp only [V.l, V.ns] at h1 h2
  subst h1 h2
  rfl
set_option maxHeartbeats 16000000 in
theorem full_spec (i : Nat) (hi : i < 17) (Post : PV → List (Nat × Blk) → Prop) (h : Post (.agg (en (fullE i))) []) : Spec K 4 [.int .i64 i] [] Post := by
  refine is4.specW K_ok K_mix false (by simp) (by simp [keys]) ?_
  rcases i with _ | _ | _ | _ | _ | _ | _ | _ | _ | _ | _ | _ | _ | _ | _ | _ | _ | i
  · (conv => whnf); repeat ((first | (refine And.intro ?_ ?_; focus exact Cl4) | refine Both.T (by exact rfl) ?_ | refine Both.F (by exact rfl) ?_ | refine Both.GT (by exact rfl) (by exact rfl) ?_ | refine Both.GF (by exact rfl) ?_ | refine Both.GN (by exact rfl) ?_); conv => whnf)
    exact h
  · (conv => whnf); repeat ((first | (refine And.intro ?_ ?_; focus exact Cl4) | refine Both.T (by exact rfl) ?_ | refine Both.F (by exact rfl) ?_ | refine Both.GT (by exact rfl) (by exact rfl) ?_ | refine Both.GF (by exact rfl) ?_ | refine Both.GN (by exact rfl) ?_); conv => whnf)
    exact h
  · (conv => whnf); repeat ((first | (refine And.intro ?_ ?_; focus exact Cl4) | refine Both.T (by exact rfl) ?_ | refine Both.F (by exact rfl) ?_ | refine Both.GT (by exact rfl) (by exact rfl) ?_ | refine Both.GF (by exact rfl) ?_ | refine Both.GN (by exact rfl) ?_); conv => whnf)
    exact h
  · (conv => whnf); repeat ((first | (refine And.intro ?_ ?_; focus exact Cl4) | refine Both.T (by exact rfl) ?_ | refine Both.F (by exact rfl) ?_ | refine Both.GT (by exact rfl) (by exact rfl) ?_ | refine Both.GF (by exact rfl) ?_ | refine Both.GN (by exact rfl) ?_); conv => whnf)
    exact h
  · (conv => whnf); repeat ((first | (refine And.intro ?_ ?_; focus exact Cl4) | refine Both.T (by exact rfl) ?_ | refine Both.F (by exact rfl) ?_ | refine Both.GT (by exact rfl) (by exact rfl) ?_ | refine Both.GF (by exact rfl) ?_ | refine Both.GN (by exact rfl) ?_); conv => whnf)
    exact h
  · (conv => whnf); repeat ((first | (refine And.intro ?_ ?_; focus exact Cl4) | refine Both.T (by exact rfl) ?_ | refine Both.F (by exact rfl) ?_ | refine Both.GT (by exact rfl) (by exact rfl) ?_ | refine Both.GF (by exact rfl) ?_ | refine Both.GN (by exact rfl) ?_); conv => whnf)
    exact h
  · (conv => whnf); repeat ((first | (refine And.intro ?_ ?_; focus exact Cl4) | refine Both.T (by exact rfl) ?_ | refine Both.F (by exact rfl) ?_ | refine Both.GT (by exact rfl) (by exact rfl) ?_ | refine Both.GF (by exact rfl) ?_ | refine Both.GN (by exact rfl) ?_); conv => whnf)
    exact h
  · (conv => whnf); repeat ((first | (refine And.intro ?_ ?_; focus exact Cl4) | refine Both.T (by exact rfl) ?_ | refine Both.F (by exact rfl) ?_ | refine Both.GT (by exact rfl) (by exact rfl) ?_ | refine Both.GF (by exact rfl) ?_ | refine Both.GN (by exact rfl) ?_); conv => whnf)
    exact h
  · (conv => whnf); repeat ((first | (refine And.intro ?_ ?_; focus exact Cl4) | refine Both.T (by exact rfl) ?_ | refine Both.F (by exact rfl) ?_ | refine Both.GT (by exact rfl) (by exact rfl) ?_ | refine Both.GF (by exact rfl) ?_ | refine Both.GN (by exact rfl) ?_); conv => whnf)
    exact h
  · (conv => whnf); repeat ((first | (refine And.intro ?_ ?_; focus exact Cl4) | refine Both.T (by exact rfl) ?_ | refine Both.F (by exact rfl) ?_ | refine Both.GT (by exact rfl) (by exact rfl) ?_ | refine Both.GF (by exact rfl) ?_ | refine Both.GN (by exact rfl) ?_); conv => whnf)
    exact h
  · (conv => whnf); repeat ((first | (refine And.intro ?_ ?_; focus exact Cl4) | refine Both.T (by exact rfl) ?_ | refine Both.F (by exact rfl) ?_ | refine Both.GT (by exact rfl) (by exact rfl) ?_ | refine Both.GF (by exact rfl) ?_ | refine Both.GN (by exact rfl) ?_); conv => whnf)
    exact h
  · (conv => whnf); repeat ((first | (refine And.intro ?_ ?_; focus exact Cl4) | refine Both.T (by exact rfl) ?_ | refine Both.F (by exact rfl) ?_ | refine Both.GT (by exact rfl) (by exact rfl) ?_ | refine Both.GF (by exact rfl) ?_ | refine Both.GN (by exact rfl) ?_); conv => whnf)
    exact h
  · (conv => whnf); repeat ((first | (refine And.intro ?_ ?_; focus exact Cl4) | refine Both.T (by exact rfl) ?_ | refine Both.F (by exact rfl) ?_ | refine Both.GT (by exact rfl) (by exact rfl) ?_ | refine Both.GF (by exact rfl) ?_ | refine Both.GN (by exact rfl) ?_); conv => whnf)
    exact h
  · (conv => whnf); repeat ((first | (refine And.intro ?_ ?_; focus exact Cl4) | refine Both.T (by exact rfl) ?_ | refine Both.F (by exact rfl) ?_ | refine Both.GT (by exact rfl) (by exact rfl) ?_ | refine Both.GF (by exact rfl) ?_ | refine Both.GN (by exact rfl) ?_); conv => whnf)
    exact h
  · (conv => whnf); repeat ((first | (refine And.intro ?_ ?_; focus exact Cl4) | refine Both.T (by exact rfl) ?_ | refine Both.F (by exact rfl) ?_ | refine Both.GT (by exact rfl) (by exact rfl) ?_ | refine Both.GF (by exact rfl) ?_ | refine Both.GN (by exact rfl) ?_); conv => whnf)
    exact h
  · (conv => whnf); repeat ((first | (refine And.intro ?_ ?_; focus exact Cl4) | refine Both.T (by exact rfl) ?_ | refine Both.F (by exact rfl) ?_ | refine Both.GT (by exact rfl) (by exact rfl) ?_ | refine Both.GF (by exact rfl) ?_ | refine Both.GN (by exact rfl) ?_); conv => whnf)
    exact h
  · (conv => whnf); repeat ((first | (refine And.intro ?_ ?_; focus exact Cl4) | refine Both.T (by exact rfl) ?_ | refine Both.F (by exact rfl) ?_ | refine Both.GT (by exact rfl) (by exact rfl) ?_ | refine Both.GF (by exact rfl) ?_ | refine Both.GN (by exact rfl) ?_); conv => whnf)
    exact h
  · exfalso; omega
theorem full_EN (i : Nat) : EN (fullE i) := by
  rcases i with _ | _ | _ | _ | _ | _ | _ | _ | _ | _ | _ | _ | _ | _ | _ | _ | _ | i
  case' succ.succ.succ.succ.succ.succ.succ.succ.succ.succ.succ.succ.succ.succ.succ.succ.succ => show EN ⟨0, 0, 0, 0, [], V0⟩
  all_goals exact ⟨rfl, rfl, ⟨by decide, by decide⟩, by decide, by decide, ⟨by decide, by decide⟩, ⟨by decide, by decide⟩⟩
set_option maxHeartbeats 16000000 in
theorem odd_spec (e : EV) (he : EN e) (i : Nat) (hi : i < 22) (Post : PV → List (Nat × Blk) → Prop) (h : ∀ e', EN e' → Post (.agg (en e')) []) : Spec K 7 [.agg (en e), .int .i64 i] [] Post := by
  obtain ⟨k, fl, id, n, s, k2, n2, s2, l, ns⟩ := e
  obtain ⟨h1, h2, h3, h4, h5, h6, h7⟩ := he
  simp only [V.l, V.ns, V.n] at h1 h2 h3 h5 h6 h7
  subst h1 h2
  refine is7.specW K_ok K_mix false (by simp) (by simp [keys]) ?_
  rcases i with _ | _ | _ | _ | _ | _ | _ | _ | _ | _ | _ | _ | _ | _ | _ | _ | _ | _ | _ | _ | _ | _ | i
  · (conv => whnf); repeat ((first | (refine And.intro ?_ ?_; focus exact Cl4) | refine Both.T (by exact rfl) ?_ | refine Both.F (by exact rfl) ?_ | refine Both.GT (by exact rfl) (by exact rfl) ?_ | refine Both.GF (by exact rfl) ?_ | refine Both.GN (by exact rfl) ?_); conv => whnf)
    exact h ⟨k, 0, id, n, s, .mk k2 n2 s2 [] []⟩ ⟨rfl, rfl, h3, h4, h5, h6, h7⟩
  · (conv => whnf); repeat ((first | (refine And.intro ?_ ?_; focus exact Cl4) | refine Both.T (by exact rfl) ?_ | refine Both.F (by exact rfl) ?_ | refine Both.GT (by exact rfl) (by exact rfl) ?_ | refine Both.GF (by exact rfl) ?_ | refine Both.GN (by exact rfl) ?_); conv => whnf)
    exact h ⟨k, 8, id, n, s, .mk k2 n2 s2 [] []⟩ ⟨rfl, rfl, h3, h4, h5, h6, h7⟩
  · (conv => whnf); repeat ((first | (refine And.intro ?_ ?_; focus exact Cl4) | refine Both.T (by exact rfl) ?_ | refine Both.F (by exact rfl) ?_ | refine Both.GT (by exact rfl) (by exact rfl) ?_ | refine Both.GF (by exact rfl) ?_ | refine Both.GN (by exact rfl) ?_); conv => whnf)
    exact h ⟨k, 9, id, n, s, .mk k2 n2 s2 [] []⟩ ⟨rfl, rfl, h3, h4, h5, h6, h7⟩
  · (conv => whnf); repeat ((first | (refine And.intro ?_ ?_; focus exact Cl4) | refine Both.T (by exact rfl) ?_ | refine Both.F (by exact rfl) ?_ | refine Both.GT (by exact rfl) (by exact rfl) ?_ | refine Both.GF (by exact rfl) ?_ | refine Both.GN (by exact rfl) ?_); conv => whnf)
    exact h ⟨k, fl, 0, n, s, .mk k2 n2 s2 [] []⟩ ⟨rfl, rfl, h3, h4, h5, (show i64 0 from ⟨by decide, by decide⟩), h7⟩
  · (conv => whnf); repeat ((first | (refine And.intro ?_ ?_; focus exact Cl4) | refine Both.T (by exact rfl) ?_ | refine Both.F (by exact rfl) ?_ | refine Both.GT (by exact rfl) (by exact rfl) ?_ | refine Both.GF (by exact rfl) ?_ | refine Both.GN (by exact rfl) ?_); conv => whnf)
    exact h ⟨k, fl, 64, n, s, .mk k2 n2 s2 [] []⟩ ⟨rfl, rfl, h3, h4, h5, (show i64 64 from ⟨by decide, by decide⟩), h7⟩
  · (conv => whnf); repeat ((first | (refine And.intro ?_ ?_; focus exact Cl4) | refine Both.T (by exact rfl) ?_ | refine Both.F (by exact rfl) ?_ | refine Both.GT (by exact rfl) (by exact rfl) ?_ | refine Both.GF (by exact rfl) ?_ | refine Both.GN (by exact rfl) ?_); conv => whnf)
    exact h ⟨k, fl, 65, n, s, .mk k2 n2 s2 [] []⟩ ⟨rfl, rfl, h3, h4, h5, (show i64 65 from ⟨by decide, by decide⟩), h7⟩
  · (conv => whnf); repeat ((first | (refine And.intro ?_ ?_; focus exact Cl4) | refine Both.T (by exact rfl) ?_ | refine Both.F (by exact rfl) ?_ | refine Both.GT (by exact rfl) (by exact rfl) ?_ | refine Both.GF (by exact rfl) ?_ | refine Both.GN (by exact rfl) ?_); conv => whnf)
    exact h ⟨k, fl, 9007199254740991, n, s, .mk k2 n2 s2 [] []⟩ ⟨rfl, rfl, h3, h4, h5, (show i64 9007199254740991 from ⟨by decide, by decide⟩), h7⟩
  · (conv => whnf); repeat ((first | (refine And.intro ?_ ?_; focus exact Cl4) | refine Both.T (by exact rfl) ?_ | refine Both.F (by exact rfl) ?_ | refine Both.GT (by exact rfl) (by exact rfl) ?_ | refine Both.GF (by exact rfl) ?_ | refine Both.GN (by exact rfl) ?_); conv => whnf)
    exact h ⟨k, fl, 9007199254740992, n, s, .mk k2 n2 s2 [] []⟩ ⟨rfl, rfl, h3, h4, h5, (show i64 9007199254740992 from ⟨by decide, by decide⟩), h7⟩
  · (conv => whnf); repeat ((first | (refine And.intro ?_ ?_; focus exact Cl4) | refine Both.T (by exact rfl) ?_ | refine Both.F (by exact rfl) ?_ | refine Both.GT (by exact rfl) (by exact rfl) ?_ | refine Both.GF (by exact rfl) ?_ | refine Both.GN (by exact rfl) ?_); conv => whnf)
    exact h ⟨k, fl, id, 0, s, .mk k2 n2 s2 [] []⟩ ⟨rfl, rfl, h3, h4, h5, h6, (show i64 0 from ⟨by decide, by decide⟩)⟩
  · (conv => whnf); repeat ((first | (refine And.intro ?_ ?_; focus exact Cl4) | refine Both.T (by exact rfl) ?_ | refine Both.F (by exact rfl) ?_ | refine Both.GT (by exact rfl) (by exact rfl) ?_ | refine Both.GF (by exact rfl) ?_ | refine Both.GN (by exact rfl) ?_); conv => whnf)
    exact h ⟨k, fl, id, 8, s, .mk k2 n2 s2 [] []⟩ ⟨rfl, rfl, h3, h4, h5, h6, (show i64 8 from ⟨by decide, by decide⟩)⟩
  · (conv => whnf); repeat ((first | (refine And.intro ?_ ?_; focus exact Cl4) | refine Both.T (by exact rfl) ?_ | refine Both.F (by exact rfl) ?_ | refine Both.GT (by exact rfl) (by exact rfl) ?_ | refine Both.GF (by exact rfl) ?_ | refine Both.GN (by exact rfl) ?_); conv => whnf)
    exact h ⟨k, fl, id, 9, s, .mk k2 n2 s2 [] []⟩ ⟨rfl, rfl, h3, h4, h5, h6, (show i64 9 from ⟨by decide, by decide⟩)⟩
  · (conv => whnf); repeat ((first | (refine And.intro ?_ ?_; focus exact Cl4) | refine Both.T (by exact rfl) ?_ | refine Both.F (by exact rfl) ?_ | refine Both.GT (by exact rfl) (by exact rfl) ?_ | refine Both.GF (by exact rfl) ?_ | refine Both.GN (by exact rfl) ?_); conv => whnf)
    exact h ⟨k, fl, id, (-1), s, .mk k2 n2 s2 [] []⟩ ⟨rfl, rfl, h3, h4, h5, h6, (show i64 (-1) from ⟨by decide, by decide⟩)⟩
  · (conv => whnf); repeat ((first | (refine And.intro ?_ ?_; focus exact Cl4) | refine Both.T (by exact rfl) ?_ | refine Both.F (by exact rfl) ?_ | refine Both.GT (by exact rfl) (by exact rfl) ?_ | refine Both.GF (by exact rfl) ?_ | refine Both.GN (by exact rfl) ?_); conv => whnf)
    exact h ⟨k, fl, id, 9007199254740992, s, .mk k2 n2 s2 [] []⟩ ⟨rfl, rfl, h3, h4, h5, h6, (show i64 9007199254740992 from ⟨by decide, by decide⟩)⟩
  · (conv => whnf); repeat ((first | (refine And.intro ?_ ?_; focus exact Cl4) | refine Both.T (by exact rfl) ?_ | refine Both.F (by exact rfl) ?_ | refine Both.GT (by exact rfl) (by exact rfl) ?_ | refine Both.GF (by exact rfl) ?_ | refine Both.GN (by exact rfl) ?_); conv => whnf)
    exact h ⟨k, fl, id, n, [], .mk k2 n2 s2 [] []⟩ ⟨rfl, rfl, h3, h4, (show List.length ([] : List UInt8) ≤ 1000 by decide), h6, h7⟩
  · (conv => whnf); repeat ((first | (refine And.intro ?_ ?_; focus exact Cl4) | refine Both.T (by exact rfl) ?_ | refine Both.F (by exact rfl) ?_ | refine Both.GT (by exact rfl) (by exact rfl) ?_ | refine Both.GF (by exact rfl) ?_ | refine Both.GN (by exact rfl) ?_); conv => whnf)
    exact h ⟨k, fl, id, n, [48, 97], .mk k2 n2 s2 [] []⟩ ⟨rfl, rfl, h3, h4, (show List.length ([48, 97] : List UInt8) ≤ 1000 by decide), h6, h7⟩
  · (conv => whnf); repeat ((first | (refine And.intro ?_ ?_; focus exact Cl4) | refine Both.T (by exact rfl) ?_ | refine Both.F (by exact rfl) ?_ | refine Both.GT (by exact rfl) (by exact rfl) ?_ | refine Both.GF (by exact rfl) ?_ | refine Both.GN (by exact rfl) ?_); conv => whnf)
    exact h ⟨k, fl, id, n, [97, 98, 99, 100, 101, 102, 103, 104, 105, 106, 107, 108, 109, 110, 111, 112, 113], .mk k2 n2 s2 [] []⟩ ⟨rfl, rfl, h3, h4, (show List.length ([97, 98, 99, 100, 101, 102, 103, 104, 105, 106, 107, 108, 109, 110, 111, 112, 113] : List UInt8) ≤ 1000 by decide), h6, h7⟩
  · (conv => whnf); repeat ((first | (refine And.intro ?_ ?_; focus exact Cl4) | refine Both.T (by exact rfl) ?_ | refine Both.F (by exact rfl) ?_ | refine Both.GT (by exact rfl) (by exact rfl) ?_ | refine Both.GF (by exact rfl) ?_ | refine Both.GN (by exact rfl) ?_); conv => whnf)
    exact h ⟨k, fl, id, n, s, .mk 1 0 [] [] []⟩ ⟨rfl, rfl, (show i64 (V.n (.mk 1 0 [] [] [])) from ⟨by decide, by decide⟩), (show bulkV (.mk 1 0 [] [] []) ≤ 1000 by decide), h5, h6, h7⟩
  · (conv => whnf); repeat ((first | (refine And.intro ?_ ?_; focus exact Cl4) | refine Both.T (by exact rfl) ?_ | refine Both.F (by exact rfl) ?_ | refine Both.GT (by exact rfl) (by exact rfl) ?_ | refine Both.GF (by exact rfl) ?_ | refine Both.GN (by exact rfl) ?_); conv => whnf)
    exact h ⟨k, fl, id, n, s, .mk 7 0 [] [] []⟩ ⟨rfl, rfl, (show i64 (V.n (.mk 7 0 [] [] [])) from ⟨by decide, by decide⟩), (show bulkV (.mk 7 0 [] [] []) ≤ 1000 by decide), h5, h6, h7⟩
  · (conv => whnf); repeat ((first | (refine And.intro ?_ ?_; focus exact Cl4) | refine Both.T (by exact rfl) ?_ | refine Both.F (by exact rfl) ?_ | refine Both.GT (by exact rfl) (by exact rfl) ?_ | refine Both.GF (by exact rfl) ?_ | refine Both.GN (by exact rfl) ?_); conv => whnf)
    exact h ⟨k, fl, id, n, s, .mk 3 0 [116] [] []⟩ ⟨rfl, rfl, (show i64 (V.n (.mk 3 0 [116] [] [])) from ⟨by decide, by decide⟩), (show bulkV (.mk 3 0 [116] [] []) ≤ 1000 by decide), h5, h6, h7⟩
  · (conv => whnf); repeat ((first | (refine And.intro ?_ ?_; focus exact Cl4) | refine Both.T (by exact rfl) ?_ | refine Both.F (by exact rfl) ?_ | refine Both.GT (by exact rfl) (by exact rfl) ?_ | refine Both.GF (by exact rfl) ?_ | refine Both.GN (by exact rfl) ?_); conv => whnf)
    exact h ⟨k, fl, id, n, s, V0⟩ ⟨rfl, rfl, (show i64 (V.n (V0)) from ⟨by decide, by decide⟩), (show bulkV (V0) ≤ 1000 by decide), h5, h6, h7⟩
  · (conv => whnf); repeat ((first | (refine And.intro ?_ ?_; focus exact Cl4) | refine Both.T (by exact rfl) ?_ | refine Both.F (by exact rfl) ?_ | refine Both.GT (by exact rfl) (by exact rfl) ?_ | refine Both.GF (by exact rfl) ?_ | refine Both.GN (by exact rfl) ?_); conv => whnf)
    exact h ⟨k, fl, id, n, [97, 95, 57], .mk k2 n2 s2 [] []⟩ ⟨rfl, rfl, h3, h4, (show List.length ([97, 95, 57] : List UInt8) ≤ 1000 by decide), h6, h7⟩
  · (conv => whnf); repeat ((first | (refine And.intro ?_ ?_; focus exact Cl4) | refine Both.T (by exact rfl) ?_ | refine Both.F (by exact rfl) ?_ | refine Both.GT (by exact rfl) (by exact rfl) ?_ | refine Both.GF (by exact rfl) ?_ | refine Both.GN (by exact rfl) ?_); conv => whnf)
    exact h ⟨k, fl, 0, 0, s, .mk k2 n2 s2 [] []⟩ ⟨rfl, rfl, h3, h4, h5, (show i64 0 from ⟨by decide, by decide⟩), (show i64 0 from ⟨by decide, by decide⟩)⟩
  · exfalso; omega
/-- A law's contract, as its callers take it. -/
theorem FnIs.of_law {f n : Nat} {rs : List ResultVar} {cd : Cd} {args : List PV} (hF : FnIs K f n rs cd) (h : CSpec K f args [] LawPost) (Post : PV → List (Nat × Blk) → Prop) (hP : Post (.bool true) []) : Spec K f args [] Post := by
  obtain ⟨fn, c, h1, h2, h3, _⟩ := hF.is
  refine spec_of_cspec h1 h2 h3 fun w Z φ vs hb => Calls.mono (h w Z φ vs hb) fun e w' ⟨v, he, ha⟩ => ⟨v, he, ?_⟩
  obtain ⟨r, h', φ', Z', ⟨rfl, rfl⟩, rest⟩ := ha
  exact ⟨_, _, φ', Z', hP, rest⟩
theorem law3_x (e : EV) (h : EN e) (Post : PV → List (Nat × Blk) → Prop) (hP : Post (.bool true) []) : Spec K 6 [.agg (en e)] [] Post := by
  have := law3 e 0 0 [] false false h.ea (by have := h.b; omega)
  rw [en_ec h] at this
  exact is6.of_law this Post hP
theorem law7_x (e e' : EV) (h : EN e) (h' : EN e') (Post : PV → List (Nat × Blk) → Prop) (hP : Post (.bool true) []) : Spec K 8 [.agg (en e), .agg (en e')] [] Post := by
  have := law7 e e' 0 0 [] false false 0 0 [] false false h.ea h'.ea
  rw [en_ec h, en_ec h'] at this
  exact is8.of_law this Post hP
theorem law4_x (b : List UInt8) (hb : b.length ≤ 2000000) (Post : PV → List (Nat × Blk) → Prop) (hP : Post (.bool true) []) : Spec K 10 [.sl 1 (bs b) false true] [] Post :=
  is10.of_law (law4 b 1 false (.inl rfl) hb) Post hP
theorem bytes_x (e : EV) (h : EN e) (ho : evOk e = true) (Post : PV → List (Nat × Blk) → Prop) (hP : Post (.tup [.sl 1 (bs (evBytes e)) false true, .int .i64 0]) []) : Spec K 5 [.agg (en e)] [] Post := by
  have := evBytes_spec e 0 0 [] false false Post h.ea (fun _ => hP) (fun hc => by rw [ho] at hc; cases hc)
  rw [en_ec h] at this
  exact this
theorem bytes_y (e : EV) (h : EN e) (ho : evOk e = false) (Post : PV → List (Nat × Blk) → Prop) (hP : Post (.tup [.sl 0 [] false true, .int .i64 2]) []) : Spec K 5 [.agg (en e)] [] Post := by
  have := evBytes_spec e 0 0 [] false false Post h.ea (fun hc => by rw [ho] at hc; cases hc) (fun _ => hP)
  rw [en_ec h] at this
  exact this
theorem copyR_spec (a : List UInt8) (z : Nat) (t : Bool) (ha : a.length ≤ 1000000000) (Post : PV → List (Nat × Blk) → Prop) (h : Post (.ref 1 0 0 a.length) [(0, .row 5 1 (bs a) true)]) : Spec K 9 [.sl z (bs a) t true] [] Post := by
  refine is9.specW K_ok K_mix true (by simp) (by simp [keys]) ?_
  (conv => whnf); repeat ((refine And.intro ?_ ?_; focus exact Cl1); conv => whnf)
  refine ⟨by rw [bs_len]; show a.length * 2 ≤ _; omega, ?_⟩
  (conv => whnf); repeat ((refine And.intro ?_ ?_; focus exact Cl1); conv => whnf)
  rw [bs_len]
  exact h
theorem full_ok : ∀ i, i < 17 → evOk (fullE i) = (decide (1 ≤ i) && decide (i ≤ 15)) := by
  intro i hi
  rcases i with _ | _ | _ | _ | _ | _ | _ | _ | _ | _ | _ | _ | _ | _ | _ | _ | _ | i
  all_goals first
  | rfl
  | decide
  | (exfalso; omega)
theorem full_len : ∀ i, i < 17 → (evBytes (fullE i)).length ≤ 1000 := by
  intro i hi
  rcases i with _ | _ | _ | _ | _ | _ | _ | _ | _ | _ | _ | _ | _ | _ | _ | _ | _ | i
  all_goals first
  | decide
  | (exfalso; omega)
end Go.Vc
namespace Go.Vc
open Go Go.Proofs
set_option maxRecDepth 100000
theorem bytes_z (i : Nat) (hi : i < 17) (Post : PV → List (Nat × Blk) → Prop)
    (h : ∀ z b e, (z = 1 ∨ b = []) → b.length ≤ 1000 → (e == 0) = (decide (1 ≤ i) && decide (i ≤ 15)) → Post (.tup [.sl z (bs b) false true, .int .i64 e]) []) : Spec K 5 [.agg (en (fullE i))] [] Post := by
  have hok := full_ok i hi
  cases ho : evOk (fullE i)
  · exact bytes_y _ (full_EN i) ho _ (h 0 [] 2 (.inr rfl) (by decide) (by rw [← hok, ho]; rfl))
  · exact bytes_x _ (full_EN i) ho _ (h 1 _ 0 (.inl rfl) (full_len i hi) (by rw [← hok, ho]; rfl))
theorem same_i (e i : Int) (n : Nat) (hn : i = n) (he : (e == 0) = (decide (1 ≤ n) && decide (n ≤ 15))) : (!((e == 0) == (cond (decide (1 ≤ i)) (decide (i ≤ 15)) false))) = false := by
  rw [he]
  subst hn
  by_cases h1 : 1 ≤ n
  · rw [decide_eq_true h1, decide_eq_true (show (1 : Int) ≤ n by omega)]
    by_cases h2 : n ≤ 15
    · rw [decide_eq_true h2, decide_eq_true (show (n : Int) ≤ 15 by omega)]; rfl
    · rw [decide_eq_false h2, decide_eq_false (show ¬ (n : Int) ≤ 15 by omega)]; rfl
  · rw [decide_eq_false h1, decide_eq_false (show ¬ (1 : Int) ≤ n by omega)]; rfl
theorem p1 : evParse [1, 16, 3] = .error 4 := rfl
theorem p2 : evParse [1, 14] = .error 3 := rfl
theorem p3 : evParse [1, 14, 0] = .error 2 := rfl
set_option maxHeartbeats 64000000 in
theorem known : CSpec K 3 [] [] LawPost := by
  refine is3.cspec K_ok K_mix false (by simp) (by simp [keys]) ?_
  (conv => whnf); repeat ((first | (refine And.intro ?_ ?_; focus exact Cl4) | refine Both.T (by exact rfl) ?_ | refine Both.F (by exact rfl) ?_ | refine Both.GT (by exact rfl) (by exact rfl) ?_ | refine Both.GF (by exact rfl) ?_ | refine Both.GN (by exact rfl) ?_); conv => whnf)
  refine ⟨Nat, fun i => ⟨113, [(1, .int .i64 i), (0, .bool false)], [], []⟩, fun i => i ≤ 17, fun i => 17 - i, ⟨[], 0, by decide, ?_⟩, fun i hi => ?_⟩
  · simp [meets, ghosts, St.le, St.get, look, keys, PV.labs, labsL]
  · conv => (arg 5; dsimp only)
    (conv => whnf); repeat ((first | (refine And.intro ?_ ?_; focus exact Cl4) | refine Both.T (by exact rfl) ?_ | refine Both.F (by exact rfl) ?_ | refine Both.GT (by exact rfl) (by exact rfl) ?_ | refine Both.GF (by exact rfl) ?_ | refine Both.GN (by exact rfl) ?_); conv => whnf)
    by_cases hi2 : i < 17
    · rw [decide_eq_true (show (i : Int) < 17 by omega)]
      (conv => whnf); repeat ((first | (refine And.intro ?_ ?_; focus exact Cl4) | refine Both.T (by exact rfl) ?_ | refine Both.F (by exact rfl) ?_ | refine Both.GT (by exact rfl) (by exact rfl) ?_ | refine Both.GF (by exact rfl) ?_ | refine Both.GN (by exact rfl) ?_); conv => whnf)
      refine full_spec i hi2 _ ?_
      (conv => whnf); repeat ((first | (refine And.intro ?_ ?_; focus exact Cl4) | refine Both.T (by exact rfl) ?_ | refine Both.F (by exact rfl) ?_ | refine Both.GT (by exact rfl) (by exact rfl) ?_ | refine Both.GF (by exact rfl) ?_ | refine Both.GN (by exact rfl) ?_); conv => whnf)
      refine bytes_z i hi2 _ (fun z b e hz hb he => ?_)
      (conv => whnf); repeat ((first | (refine And.intro ?_ ?_; focus exact Cl4) | refine Both.T (by exact rfl) ?_ | refine Both.F (by exact rfl) ?_ | refine Both.GT (by exact rfl) (by exact rfl) ?_ | refine Both.GF (by exact rfl) ?_ | refine Both.GN (by exact rfl) ?_); conv => whnf)
      refine Both.F (same_i e i i rfl he) ?_
      (conv => whnf); repeat ((first | (refine And.intro ?_ ?_; focus exact Cl4) | refine Both.T (by exact rfl) ?_ | refine Both.F (by exact rfl) ?_ | refine Both.GT (by exact rfl) (by exact rfl) ?_ | refine Both.GF (by exact rfl) ?_ | refine Both.GN (by exact rfl) ?_); conv => whnf)
      refine ⟨Nat, fun k => ⟨113, [(5, .int .i64 k), (3, .sl z (bs b) false true), (2, .ptr 0 0), (1, .int .i64 i), (0, .bool false)], [(0, .box (en (fullE i)))], []⟩, fun k => k ≤ 22, fun k => 22 - k, ⟨[], 0, by decide, ?_⟩, fun k hk => ?_⟩
      · simp [meets, ghosts, St.le, St.get, look, keys, PV.labs, labsL, lookB, Blk.labs]
      · conv => (arg 5; dsimp only)
        (conv => whnf); repeat ((first | (refine And.intro ?_ ?_; focus exact Cl4) | refine Both.T (by exact rfl) ?_ | refine Both.F (by exact rfl) ?_ | refine Both.GT (by exact rfl) (by exact rfl) ?_ | refine Both.GF (by exact rfl) ?_ | refine Both.GN (by exact rfl) ?_); conv => whnf)
        by_cases hk2 : k < 22
        · rw [decide_eq_true (show (k : Int) < 22 by omega)]
          (conv => whnf); repeat ((first | (refine And.intro ?_ ?_; focus exact Cl4) | refine Both.T (by exact rfl) ?_ | refine Both.F (by exact rfl) ?_ | refine Both.GT (by exact rfl) (by exact rfl) ?_ | refine Both.GF (by exact rfl) ?_ | refine Both.GN (by exact rfl) ?_); conv => whnf)
          (conv => whnf); repeat' (first | ((first | (refine And.intro ?_ ?_; focus exact Cl4) | refine Both.T (by exact rfl) ?_ | refine Both.F (by exact rfl) ?_ | refine Both.GT (by exact rfl) (by exact rfl) ?_ | refine Both.GF (by exact rfl) ?_ | refine Both.GN (by exact rfl) ?_); conv => whnf) | (refine odd_spec (fullE i) (full_EN i) k hk2 _ (fun e' he' => ?_); conv => whnf) | (refine law3_x _ (by assumption) _ ?_; conv => whnf) | (refine law7_x _ _ (full_EN i) (by assumption) _ ?_; conv => whnf) | ((refine Both.mk ?_ ?_ <;> fail_if_success (intro _)) <;> conv => whnf))
          all_goals (
            rw [wrap64 (n := (k : Int) + 1) (by omega) (by omega)]
            refine ⟨[], k + 1, hk2, by show 22 - (k + 1) < 22 - k; omega, ?_⟩
            simp [meets, ghosts, St.le, St.get, look, keys, PV.labs, labsL, lookB, Blk.labs])
        · rw [decide_eq_false (show ¬ (k : Int) < 22 by omega)]
          (conv => whnf); repeat ((first | (refine And.intro ?_ ?_; focus exact Cl4) | refine Both.T (by exact rfl) ?_ | refine Both.F (by exact rfl) ?_ | refine Both.GT (by exact rfl) (by exact rfl) ?_ | refine Both.GF (by exact rfl) ?_ | refine Both.GN (by exact rfl) ?_); conv => whnf)
          refine ⟨Nat, fun j => ⟨113, [(6, .int .i64 j), (3, .sl z (bs b) false true), (1, .int .i64 i), (0, .bool false)], [], []⟩, fun j => j ≤ b.length, fun j => b.length - j, ⟨[], 0, Nat.zero_le _, ?_⟩, fun j hj => ?_⟩
          · simp [meets, ghosts, St.le, St.get, look, keys, PV.labs, labsL, lookB, Blk.labs]
          · conv => (arg 5; dsimp only)
            (conv => whnf); repeat ((first | (refine And.intro ?_ ?_; focus exact Cl4) | refine Both.T (by exact rfl) ?_ | refine Both.F (by exact rfl) ?_ | refine Both.GT (by exact rfl) (by exact rfl) ?_ | refine Both.GF (by exact rfl) ?_ | refine Both.GN (by exact rfl) ?_); conv => whnf)
            rw [bs_len]
            by_cases hj2 : j < b.length
            · rw [decide_eq_true (show (j : Int) < (b.length : Int) by omega)]
              (conv => whnf); repeat ((first | (refine And.intro ?_ ?_; focus exact Cl4) | refine Both.T (by exact rfl) ?_ | refine Both.F (by exact rfl) ?_ | refine Both.GT (by exact rfl) (by exact rfl) ?_ | refine Both.GF (by exact rfl) ?_ | refine Both.GN (by exact rfl) ?_); conv => whnf)
              refine copyR_spec b z _ (by omega) _ ?_
              (conv => whnf); repeat ((first | (refine And.intro ?_ ?_; focus exact Cl4) | refine Both.T (by exact rfl) ?_ | refine Both.F (by exact rfl) ?_ | refine Both.GT (by exact rfl) (by exact rfl) ?_ | refine Both.GF (by exact rfl) ?_ | refine Both.GN (by exact rfl) ?_); conv => whnf)
              refine ⟨Nat × List UInt8, fun x => ⟨113, [(8, .int .i64 x.1), (7, .ref 1 0 0 b.length), (6, .int .i64 j), (3, .sl z (bs b) false true), (1, .int .i64 i), (0, .bool false)], [(0, .row 5 1 (bs x.2) true)], []⟩, fun x => x.1 ≤ 20 ∧ x.2.length = b.length, fun x => 20 - x.1,
                ⟨[], (0, b), ⟨Nat.zero_le _, rfl⟩, ?_⟩, fun x hI => ?_⟩
              · simp [meets, ghosts, St.le, St.get, look, keys, PV.labs, labsL, lookB, Blk.labs]
              · obtain ⟨v, c⟩ := x
                obtain ⟨hv, hc⟩ := hI
                simp only at hv hc
                conv => (arg 5; dsimp only)
                (conv => whnf); repeat ((first | (refine And.intro ?_ ?_; focus exact Cl4) | refine Both.T (by exact rfl) ?_ | refine Both.F (by exact rfl) ?_ | refine Both.GT (by exact rfl) (by exact rfl) ?_ | refine Both.GF (by exact rfl) ?_ | refine Both.GN (by exact rfl) ?_); conv => whnf)
                by_cases hv2 : v < 20
                · rw [decide_eq_true (show (v : Int) < 20 by omega)]
                  (conv => whnf); repeat ((first | (refine And.intro ?_ ?_; focus exact Cl4) | refine Both.T (by exact rfl) ?_ | refine Both.F (by exact rfl) ?_ | refine Both.GT (by exact rfl) (by exact rfl) ?_ | refine Both.GF (by exact rfl) ?_ | refine Both.GN (by exact rfl) ?_); conv => whnf)
                  have hset : (bs c).set (0 + ((j : Int)).toNat) (putElem (nth (bs c) (0 + ((j : Int)).toNat)) 0 [.int .u8 (IntKind.u8.wrap (v : Int))]) = bs (c.set j (UInt8.ofNat v)) := by
                    rw [Nat.zero_add, Int.toNat_natCast]
                    exact set_bs (by omega) (wrapB v)
                  rw [hset]
                  have hcl : (c.set j (UInt8.ofNat v)).length = b.length := by rw [List.length_set, hc]
                  generalize c.set j (UInt8.ofNat v) = c' at hcl
                  (conv => whnf); repeat ((first | (refine And.intro ?_ ?_; focus exact Cl4) | refine Both.T (by exact rfl) ?_ | refine Both.F (by exact rfl) ?_ | refine Both.GT (by exact rfl) (by exact rfl) ?_ | refine Both.GF (by exact rfl) ?_ | refine Both.GN (by exact rfl) ?_); conv => whnf)
                  have ht : List.take b.length (List.drop 0 (bs c')) = bs c' := by rw [List.drop_zero, ← hcl, tka]
                  rw [ht]
                  refine law4_x c' (by omega) _ ?_
                  (conv => whnf); repeat ((first | (refine And.intro ?_ ?_; focus exact Cl4) | refine Both.T (by exact rfl) ?_ | refine Both.F (by exact rfl) ?_ | refine Both.GT (by exact rfl) (by exact rfl) ?_ | refine Both.GF (by exact rfl) ?_ | refine Both.GN (by exact rfl) ?_); conv => whnf)
                  have ht2 : List.take (((j : Int)).toNat - 0) (List.drop (0 + 0) (bs c')) = bs (c'.take j) := by
                    rw [Nat.zero_add, List.drop_zero, Nat.sub_zero, Int.toNat_natCast, bs, bs, List.map_take]
                  rw [ht2]
                  refine law4_x (c'.take j) (by rw [List.length_take]; omega) _ ?_
                  (conv => whnf); repeat ((first | (refine And.intro ?_ ?_; focus exact Cl4) | refine Both.T (by exact rfl) ?_ | refine Both.F (by exact rfl) ?_ | refine Both.GT (by exact rfl) (by exact rfl) ?_ | refine Both.GF (by exact rfl) ?_ | refine Both.GN (by exact rfl) ?_); conv => whnf)
                  rw [wrap64 (n := (v : Int) + 1) (by omega) (by omega)]
                  refine ⟨[], (v + 1, c'), ⟨hv2, hcl⟩, by show 20 - (v + 1) < 20 - v; omega, ?_⟩
                  simp [meets, ghosts, St.le, St.get, look, keys, PV.labs, labsL, lookB, Blk.labs]
                · rw [decide_eq_false (show ¬ (v : Int) < 20 by omega)]
                  (conv => whnf); repeat ((first | (refine And.intro ?_ ?_; focus exact Cl4) | refine Both.T (by exact rfl) ?_ | refine Both.F (by exact rfl) ?_ | refine Both.GT (by exact rfl) (by exact rfl) ?_ | refine Both.GF (by exact rfl) ?_ | refine Both.GN (by exact rfl) ?_); conv => whnf)
                  rw [wrap64 (n := (j : Int) + 1) (by omega) (by omega)]
                  refine ⟨[], j + 1, hj2, by show b.length - (j + 1) < b.length - j; omega, ?_⟩
                  simp [meets, ghosts, St.le, St.get, look, keys, PV.labs, labsL, lookB, Blk.labs]
            · rw [decide_eq_false (show ¬ (j : Int) < (b.length : Int) by omega)]
              (conv => whnf); repeat ((first | (refine And.intro ?_ ?_; focus exact Cl4) | refine Both.T (by exact rfl) ?_ | refine Both.F (by exact rfl) ?_ | refine Both.GT (by exact rfl) (by exact rfl) ?_ | refine Both.GF (by exact rfl) ?_ | refine Both.GN (by exact rfl) ?_); conv => whnf)
              rw [wrap64 (n := (i : Int) + 1) (by omega) (by omega)]
              refine ⟨[], i + 1, hi2, by show 17 - (i + 1) < 17 - i; omega, ?_⟩
              simp [meets, ghosts, St.le, St.get, look, keys, PV.labs, labsL]
    · rw [decide_eq_false (show ¬ (i : Int) < 17 by omega)]
      (conv => whnf); repeat ((first | (refine And.intro ?_ ?_; focus exact Cl4) | refine Both.T (by exact rfl) ?_ | refine Both.F (by exact rfl) ?_ | refine Both.GT (by exact rfl) (by exact rfl) ?_ | refine Both.GF (by exact rfl) ?_ | refine Both.GN (by exact rfl) ?_); conv => whnf)
      refine parse_p [1, 16, 3] 1 false (.inl rfl) (by decide) _ (fun e he => ?_) (fun y hy => by rw [p1] at hy; cases hy)
      obtain rfl : 4 = e := by rw [p1] at he; cases he; rfl
      (conv => whnf); repeat ((first | (refine And.intro ?_ ?_; focus exact Cl4) | refine Both.T (by exact rfl) ?_ | refine Both.F (by exact rfl) ?_ | refine Both.GT (by exact rfl) (by exact rfl) ?_ | refine Both.GF (by exact rfl) ?_ | refine Both.GN (by exact rfl) ?_); conv => whnf)
      refine parse_p [1, 14] 1 false (.inl rfl) (by decide) _ (fun e he => ?_) (fun y hy => by rw [p2] at hy; cases hy)
      obtain rfl : 3 = e := by rw [p2] at he; cases he; rfl
      (conv => whnf); repeat ((first | (refine And.intro ?_ ?_; focus exact Cl4) | refine Both.T (by exact rfl) ?_ | refine Both.F (by exact rfl) ?_ | refine Both.GT (by exact rfl) (by exact rfl) ?_ | refine Both.GF (by exact rfl) ?_ | refine Both.GN (by exact rfl) ?_); conv => whnf)
      refine parse_p [1, 14, 0] 1 false (.inl rfl) (by decide) _ (fun e he => ?_) (fun y hy => by rw [p3] at hy; cases hy)
      obtain rfl : 2 = e := by rw [p3] at he; cases he; rfl
      (conv => whnf); repeat ((first | (refine And.intro ?_ ?_; focus exact Cl4) | refine Both.T (by exact rfl) ?_ | refine Both.F (by exact rfl) ?_ | refine Both.GT (by exact rfl) (by exact rfl) ?_ | refine Both.GF (by exact rfl) ?_ | refine Both.GN (by exact rfl) ?_); conv => whnf)
      refine works_spec _ ?_
      (conv => whnf); repeat ((first | (refine And.intro ?_ ?_; focus exact Cl4) | refine Both.T (by exact rfl) ?_ | refine Both.F (by exact rfl) ?_ | refine Both.GT (by exact rfl) (by exact rfl) ?_ | refine Both.GF (by exact rfl) ?_ | refine Both.GN (by exact rfl) ?_); conv => whnf)
      refine law4_x [1, 9, 1, 1, 17, 97] (by decide) _ ?_
      (conv => whnf); repeat ((first | (refine And.intro ?_ ?_; focus exact Cl4) | refine Both.T (by exact rfl) ?_ | refine Both.F (by exact rfl) ?_ | refine Both.GT (by exact rfl) (by exact rfl) ?_ | refine Both.GF (by exact rfl) ?_ | refine Both.GN (by exact rfl) ?_); conv => whnf)
end Go.Vc
