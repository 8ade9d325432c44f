/- What is proved here: contracts of functions of the program: of each function what it hands back and what it leaves in memory. Conditions: those that each theorem names. -/
import Derived.Test.YthhokabbanhllaaDoorTBr
import Derived.Test.YthhokabbanhllaaDoorTBs
set_option linter.unusedVariables false
set_option linter.unusedSimpArgs false
set_option linter.unusedSectionVars false
namespace Go.Vc
open Go Go.Proofs
set_option maxRecDepth 100000
theorem apart {v w : V} (hv : mayV v = true) (hw : mayV w = true) (nv : nV v) (nw : nV w) {n : Nat} (hn : n = min (writeV v).length (writeV w).length) :
  ((writeV v).take n == (writeV w).take n) = sameV v w := by
 have key : ∀ {a b : V}, mayV a = true → mayV b = true → nV a → nV b → (writeV a).length ≤ (writeV b).length → (writeV a).take (writeV a).length = (writeV b).take (writeV a).length → a = b := by
  intro a b ha hb na nb hl he
  rw [List.take_length] at he
  have h1 := (takeV_enc ha na).1 ((writeV b).drop (writeV a).length)
  have h2 := (takeV_enc hb nb).1 []
  have h3 : writeV a ++ (writeV b).drop (writeV a).length = writeV b := by
   conv => lhs; arg 1; rw [he]
   exact List.take_append_drop _ _
  rw [h3] at h1
  rw [List.append_nil, h1] at h2
  exact (Prod.mk.inj (Except.ok.inj h2)).1
 rw [Bool.eq_iff_iff, beq_iff_eq, sameV, beq_iff_eq]
 constructor
 ·intro h
  rcases Nat.le_total (writeV v).length (writeV w).length with hl | hl
  ·rw [hn, Nat.min_eq_left hl] at h
   rw [key hv hw nv nw hl h]; exact cmpV_self _
  ·rw [hn, Nat.min_eq_right hl] at h
   rw [key hw hv nw nv hl h.symm]; exact cmpV_self _
 ·intro h
  rw [cmpV_eq h]
theorem vb_t (v : V) (hm : mayV v = true) (z1 z2 : Nat) (lp : List PV) (t1 t2 : Bool) (Post : PV → List (Nat × Blk) → Prop) (a : VA v z1 lp z2) (h : Post (.tup [.sl 1 (bs (writeV v)) false true, .int .i64 0]) []) : Spec K 16 [.agg (vc v z1 lp t1 z2 t2)] [] Post :=
 valueBytes_spec v z1 z2 lp t1 t2 Post a (fun _ => h) (fun hc => by rw [hm] at hc; cases hc)
theorem vb_f (v : V) (hm : mayV v = false) (z1 z2 : Nat) (lp : List PV) (t1 t2 : Bool) (Post : PV → List (Nat × Blk) → Prop) (a : VA v z1 lp z2) (h : Post (.tup [.sl 0 [] false true, .int .i64 2]) []) : Spec K 16 [.agg (vc v z1 lp t1 z2 t2)] [] Post :=
 valueBytes_spec v z1 z2 lp t1 t2 Post a (fun hc => by rw [hm] at hc; cases hc) (fun _ => h)
theorem eq_v (a b : List UInt8) (v : Bool) (hv : (a == b) = v) (z1 z2 : Nat) (t1 o1 t2 o2 : Bool) (h1 : z1 = 1 ∨ bs a = []) (h2 : z2 = 1 ∨ bs b = []) (ha : a.length ≤ 1000000000) (Post : PV → List (Nat × Blk) → Prop) (h : Post (.bool v) []) :
  Spec K 17 [.sl z1 (bs a) t1 o1, .sl z2 (bs b) t2 o2] [] Post := eq_spec a b z1 z2 t1 o1 t2 o2 h1 h2 ha Post (by rw [hv]; exact h)
set_option maxHeartbeats 16000000 in
theorem apart_law (a b : V) (z1 z2 : Nat) (lp : List PV) (t1 t2 : Bool) (x1 x2 : Nat) (mp : List PV) (u1 u2 : Bool) (ha : VA a z1 lp z2) (hb : VA b x1 mp x2) (h1 : bulkV a ≤ 2000000) (h2 : bulkV b ≤ 2000000) : CSpec K 5 [.agg (vc a z1 lp t1 z2 t2), .agg (vc b x1 mp u1 x2 u2)] [] LawPost := by
 refine is5.cspec K_ok K_mix false (by simp) (by simp [keys]) ?_
 have hla := writeV_len a
 have hlb := writeV_len b
 (conv => whnf); repeat ((first | (apply And.intro;· exact Cl4) | apply T1 | apply T2 | apply T3 | apply T4 | apply T6 | apply T5); conv => whnf)
 refine works_spec _ ?_
 (conv => whnf); repeat ((first | (apply And.intro;· exact Cl4) | apply T1 | apply T2 | apply T3 | apply T4 | apply T6 | apply T5); conv => whnf)
 cases hma : mayV a
 ·refine vb_f a hma z1 z2 lp _ _ _ ha ?_
  (conv => whnf); repeat ((first | (apply And.intro;· exact Cl4) | apply T1 | apply T2 | apply T3 | apply T4 | apply T6 | apply T5); conv => whnf)
  cases hmb : mayV b
  ·refine vb_f b hmb x1 x2 mp _ _ _ hb ?_
   (conv => whnf); repeat ((first | (apply And.intro;· exact Cl4) | apply T1 | apply T2 | apply T3 | apply T4 | apply T6 | apply T5); conv => whnf)
  ·refine vb_t b hmb x1 x2 mp _ _ _ hb ?_
   (conv => whnf); repeat ((first | (apply And.intro;· exact Cl4) | apply T1 | apply T2 | apply T3 | apply T4 | apply T6 | apply T5); conv => whnf)
 ·refine vb_t a hma z1 z2 lp _ _ _ ha ?_
  (conv => whnf); repeat ((first | (apply And.intro;· exact Cl4) | apply T1 | apply T2 | apply T3 | apply T4 | apply T6 | apply T5); conv => whnf)
  cases hmb : mayV b
  ·refine vb_f b hmb x1 x2 mp _ _ _ hb ?_
   (conv => whnf); repeat ((first | (apply And.intro;· exact Cl4) | apply T1 | apply T2 | apply T3 | apply T4 | apply T6 | apply T5); conv => whnf)
  ·refine vb_t b hmb x1 x2 mp _ _ _ hb ?_
   (conv => whnf); repeat ((first | (apply And.intro;· exact Cl4) | apply T1 | apply T2 | apply T3 | apply T4 | apply T6 | apply T5); conv => whnf)
   have hs := apart hma hmb ha.nV hb.nV (n := min (writeV a).length (writeV b).length) rfl
   have hN : (if (((bs (writeV b)).length : Nat) : Int) < (((bs (writeV a)).length : Nat) : Int) then (((bs (writeV b)).length : Nat) : Int) else (((bs (writeV a)).length : Nat) : Int)).toNat = min (writeV a).length (writeV b).length := by
    rw [bs_len, bs_len]; split <;> omega
   have hA : List.drop 0 (List.take (min (writeV a).length (writeV b).length) (bs (writeV a))) = bs ((writeV a).take (min (writeV a).length (writeV b).length)) := by rw [List.drop_zero, bs_take]
   have hB : List.drop 0 (List.take (min (writeV a).length (writeV b).length) (bs (writeV b))) = bs ((writeV b).take (min (writeV a).length (writeV b).length)) := by rw [List.drop_zero, bs_take]
   rw [hN, hA, hB]
   obtain ⟨v, hv⟩ : ∃ v, sameV a b = v := ⟨_, rfl⟩
   rw [hv] at hs
   cases v
   ·(conv => whnf); repeat' (first | ((first | (apply And.intro;· exact Cl4) | apply T1 | apply T2 | apply T3 | apply T4 | apply T6 | apply T5); conv => whnf) | (refine eq_v _ _ false hs 1 1 _ _ _ _ (.inl rfl) (.inl rfl) (by simp only [List.length_take]; omega) _ ?_; conv => whnf) | (refine sameR_x a b _ hv z1 z2 lp _ _ x1 x2 mp _ _ _ ha hb ?_; conv => whnf) | ((refine Both.mk ?_ ?_ <;> fail_if_success (intro _)) <;> conv => whnf))
   ·(conv => whnf); repeat' (first | ((first | (apply And.intro;· exact Cl4) | apply T1 | apply T2 | apply T3 | apply T4 | apply T6 | apply T5); conv => whnf) | (refine eq_v _ _ true hs 1 1 _ _ _ _ (.inl rfl) (.inl rfl) (by simp only [List.length_take]; omega) _ ?_; conv => whnf) | (refine sameR_x a b _ hv z1 z2 lp _ _ x1 x2 mp _ _ _ ha hb ?_; conv => whnf) | ((refine Both.mk ?_ ?_ <;> fail_if_success (intro _)) <;> conv => whnf))
end Go.Vc
