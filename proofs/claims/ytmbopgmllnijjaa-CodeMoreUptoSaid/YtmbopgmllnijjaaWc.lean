/- What is proved here: contracts of functions of the program: of each function what it hands back and what it leaves in memory. Conditions: those that each theorem names. -/
import Derived.Test.YtmbopgmllnijjaaWb
import Derived.Test.YtmbopgmllnijjaaFx
set_option linter.unusedVariables false
set_option linter.unusedSimpArgs false
set_option linter.unusedSectionVars false
namespace Go.Vc
open Go Go.Proofs
set_option maxRecDepth 100000
theorem allV_of {v : V} (h : mayV v = true) : allV v = true := (okV_iff.1 h).2
theorem valueBytes_spec (v : V) (z1 z2 : Nat) (lp : List PV) (t1 t2 : Bool) (Post : PV → List (Nat × Blk) → Prop) (a : VA v z1 lp z2)
    (h1 : mayV v = true → Post (.tup [.sl 1 (bs (writeV v)) false true, .int .i64 0]) []) (h2 : mayV v = false → Post (.tup [.sl 0 [] false true, .int .i64 2]) []) :
    Spec K 54 [.agg (vc v z1 lp t1 z2 t2)] [] Post := by
  refine is54.specW K_ok K_mix false (by simp) (by simp [keys]) ?_
  (conv => whnf); repeat ((refine And.intro ?_ ?_; focus exact Cl1); conv => whnf)
  refine check_spec v z1 z2 lp t1 t2 _ a ?_
  (conv => whnf); repeat ((refine And.intro ?_ ?_; focus exact Cl1); conv => whnf)
  refine ⟨fun hc => ?_, fun hc => ?_⟩
  · have hm : mayV v = false := by cases hm : mayV v with
      | false => rfl
      | true => rw [hm] at hc; cases hc
    (conv => whnf); repeat ((refine And.intro ?_ ?_; focus exact Cl1); conv => whnf)
    rw [hm]
    exact h2 hm
  · have hm : mayV v = true := by cases hm : mayV v with
      | true => rfl
      | false => rw [hm] at hc; cases hc
    (conv => whnf); repeat ((refine And.intro ?_ ?_; focus exact Cl1); conv => whnf)
    refine write_spec 100000000000 v.k v.n v.s v.l v.ns (by rw [V.eta]; exact a.b) (by omega) z1 z2 lp t1 t2 _ a.l a.z1 a.z2 a.n (by rw [V.eta]; exact allV_of hm) ?_
    rw [V.eta]
    (conv => whnf); repeat ((refine And.intro ?_ ?_; focus exact Cl1); conv => whnf)
    exact h1 hm
theorem u8all {p : UInt8 → Prop} (h : ∀ n, n < 256 → p (UInt8.ofNat n)) (c : UInt8) : p c := by
  have := h c.toNat c.toNat_lt
  rwa [UInt8.ofNat_toNat] at this
theorem i0 (i : Nat) : ((i : Int) == 0) = (i == 0) := by cases i <;> simp; omega
theorem isName_false {s : List UInt8} (h : inNames true s = false) : isName s = false := by simp [isName, h]
theorem inName_letter : ∀ c : UInt8, inName true c = true → inName false c = true := u8all (by decide +kernel)
end Go.Vc
namespace Go.Vc
open Go Go.Proofs
set_option maxRecDepth 100000
theorem nsLen_take {ns : List (List UInt8)} {i : Nat} (hi : i < ns.length) : nsLen (ns.take (i + 1)) = nsLen (ns.take i) + ns[i].length := by
  induction ns generalizing i with
  | nil => simp at hi
  | cons a r ih =>
    cases i with
    | zero => simp [nsLen]
    | succ i => simp only [List.take_succ_cons, nsLen, ih (by simpa using hi), List.getElem_cons_succ]; omega
theorem nsLen_take_le (ns : List (List UInt8)) (i : Nat) : nsLen (ns.take i) ≤ nsLen ns := by
  induction ns generalizing i with
  | nil => simp
  | cons a r ih => cases i with
    | zero => simp [nsLen]
    | succ i => simp only [List.take_succ_cons, nsLen]; have := ih i; omega
theorem sizeVs_take {l : List V} {i : Nat} (hi : i < l.length) : sizeVs (l.take (i + 1)) = sizeVs (l.take i) + sizeV l[i] := by
  induction l generalizing i with
  | nil => simp at hi
  | cons a r ih =>
    cases i with
    | zero => simp [sizeVs]
    | succ i => simp only [List.take_succ_cons, sizeVs, ih (by simpa using hi), List.getElem_cons_succ]; omega
theorem sizeVs_take_le (l : List V) (i : Nat) : sizeVs (l.take i) ≤ sizeVs l := by
  induction l generalizing i with
  | nil => simp
  | cons a r ih => cases i with
    | zero => simp [sizeVs]
    | succ i => simp only [List.take_succ_cons, sizeVs]; have := ih i; omega
theorem depthVs_take {l : List V} {i : Nat} (hi : i < l.length) : depthVs (l.take (i + 1)) = max (depthVs (l.take i)) (depthV l[i]) := by
  induction l generalizing i with
  | nil => simp at hi
  | cons a r ih =>
    cases i with
    | zero => simp [depthVs]
    | succ i => simp only [List.take_succ_cons, depthVs, ih (by simpa using hi), List.getElem_cons_succ]; omega
mutual
theorem depthV_le : ∀ v : V, depthV v ≤ bulkV v
  | .mk _ _ s l ns => by
    have := depthVs_le l
    simp only [depthV, bulkV]; omega
theorem depthVs_le : ∀ l : List V, depthVs l ≤ bulkVs l
  | [] => by simp [depthVs]
  | v :: r => by
    have := depthV_le v
    have := depthVs_le r
    simp only [depthVs, bulkVs]; omega
end
theorem depthVs_take_le (l : List V) (i : Nat) : depthVs (l.take i) ≤ depthVs l := by
  induction l generalizing i with
  | nil => simp
  | cons a r ih => cases i with
    | zero => simp [depthVs]
    | succ i => simp only [List.take_succ_cons, depthVs]; have := ih i; omega
theorem rise_head (s : List UInt8) (r : List (List UInt8)) : rise [] (s :: r) = (isName s && rise s r) := by
  cases s with
  | nil => simp [rise, isName]
  | cons c t =>
    have : Op.bytesLess (c :: t) [] = false := rfl
    simp [rise, this]
theorem es_nil (s : List UInt8) : (s == ({ data := #[] } : ByteArray).data.toList) = s.isEmpty := by cases s <;> rfl
theorem el_nil {α : Type} (l : List α) : ((l.length : Int) == 0) = (l.length == 0) := by rw [i0]
theorem mayV_eq (v : V) : mayV v = (decide (depthV v ≤ 8) && decide (sizeV v ≤ 256) && allV v) := by
  unfold mayV okV
  rw [Nat.zero_add]
  congr 2
  exact decide_eq_decide.2 (by omega)
end Go.Vc
namespace Go.Vc
open Go Go.Proofs
set_option maxRecDepth 100000
def cmpI (a b : Int) : Int := if a < b then -1 else if b < a then 1 else 0
def cmpS (a b : List UInt8) : Int := if Op.bytesLess a b = true then -1 else if (Op.bytesLess a b || a == b) = true then 0 else 1
def cmpNs : List (List UInt8) → List (List UInt8) → Int
  | [], [] => 0
  | [], _ :: _ => -1
  | _ :: _, [] => 1
  | a :: r, b :: q => if a = b then cmpNs r q else cmpS a b
mutual
/-- Which of two values is ahead. -/
def cmpV : V → V → Int
  | .mk k n s l ns, w => if k ≠ w.k then cmpI k w.k else if n ≠ w.n then cmpI n w.n else if s ≠ w.s then cmpS s w.s else if cmpNs ns w.ns ≠ 0 then cmpNs ns w.ns else cmpVs l w.l
def cmpVs : List V → List V → Int
  | [], [] => 0
  | [], _ :: _ => -1
  | _ :: _, [] => 1
  | v :: r, w :: q => if cmpV v w ≠ 0 then cmpV v w else cmpVs r q
end
theorem cmpV_mk (k n : Int) (s : List UInt8) (l : List V) (ns : List (List UInt8)) (k' n' : Int) (s' : List UInt8) (l' : List V) (ns' : List (List UInt8)) :
    cmpV (.mk k n s l ns) (.mk k' n' s' l' ns') = if k ≠ k' then cmpI k k' else if n ≠ n' then cmpI n n' else if s ≠ s' then cmpS s s' else if cmpNs ns ns' ≠ 0 then cmpNs ns ns' else cmpVs l l' := by
  rw [cmpV]; rfl
theorem cmpS_ne {a b : List UInt8} (h : a ≠ b) : cmpS a b ≠ 0 := by
  unfold cmpS
  split
  · simp
  · rename_i h1
    rw [if_neg (by simp [h1, h])]; simp
theorem number_spec2 (a b : Int) (Post : PV → List (Nat × Blk) → Prop) (h : Post (.int .i64 (cmpI a b)) []) : Spec K 107 [.int .i64 a, .int .i64 b] [] Post := by
  refine is107.specW K_ok K_mix false (by simp) (by simp [keys]) ?_
  (conv => whnf); repeat ((refine And.intro ?_ ?_; focus exact Cl2); conv => whnf)
  refine ⟨fun h1 => ?_, fun h1 => ?_⟩
  · have h1' : a < b := of_decide_eq_true h1
    (conv => whnf); repeat ((refine And.intro ?_ ?_; focus exact Cl2); conv => whnf)
    rwa [cmpI, if_pos h1'] at h
  · have h1' : ¬ a < b := of_decide_eq_false h1
    (conv => whnf); repeat ((refine And.intro ?_ ?_; focus exact Cl2); conv => whnf)
    refine ⟨fun h2 => ?_, fun h2 => ?_⟩
    · have h2' : b < a := of_decide_eq_true h2
      (conv => whnf); repeat ((refine And.intro ?_ ?_; focus exact Cl2); conv => whnf)
      rwa [cmpI, if_neg h1', if_pos h2'] at h
    · have h2' : ¬ b < a := of_decide_eq_false h2
      (conv => whnf); repeat ((refine And.intro ?_ ?_; focus exact Cl2); conv => whnf)
      rwa [cmpI, if_neg h1', if_neg h2'] at h
theorem textC_spec (a b : List UInt8) (Post : PV → List (Nat × Blk) → Prop) (h : Post (.int .i64 (cmpS a b)) []) : Spec K 108 [.str a, .str b] [] Post := by
  refine is108.specW K_ok K_mix false (by simp) (by simp [keys]) ?_
  (conv => whnf); repeat ((refine And.intro ?_ ?_; focus exact Cl2); conv => whnf)
  refine ⟨fun h1 => ?_, fun h1 => ?_⟩
  · (conv => whnf); repeat ((refine And.intro ?_ ?_; focus exact Cl2); conv => whnf)
    rwa [cmpS, if_pos h1] at h
  · have h1' : ¬ Op.bytesLess a b = true := by rw [h1]; simp
    (conv => whnf); repeat ((refine And.intro ?_ ?_; focus exact Cl2); conv => whnf)
    refine ⟨fun h2 => ?_, fun h2 => ?_⟩
    · have h2' : ¬ (Op.bytesLess a b || a == b) = true := fun hh => by rw [hh] at h2; cases h2
      (conv => whnf); repeat ((refine And.intro ?_ ?_; focus exact Cl2); conv => whnf)
      rwa [cmpS, if_neg h1', if_neg h2'] at h
    · have h2' : (Op.bytesLess a b || a == b) = true := by
        cases hh : (Op.bytesLess a b || a == b) with
        | true => rfl
        | false => rw [hh] at h2; cases h2
      (conv => whnf); repeat ((refine And.intro ?_ ?_; focus exact Cl2); conv => whnf)
      rwa [cmpS, if_neg h1', if_pos h2'] at h
theorem cmpNs_end {a b : List (List UInt8)} {i : Nat} (hi : i ≤ a.length) (hj : i ≤ b.length) (h : ¬ (i < a.length ∧ i < b.length)) : cmpNs (a.drop i) (b.drop i) = cmpI a.length b.length := by
  rcases Nat.lt_or_ge i a.length with h1 | h1
  · have h2 : i = b.length := by omega
    rw [h2, List.drop_length, List.drop_eq_getElem_cons (by omega), cmpNs, cmpI, if_neg (by omega), if_pos (by omega)]
  · have h2 : i = a.length := by omega
    rcases Nat.lt_or_ge i b.length with h3 | h3
    · rw [h2, List.drop_length, List.drop_eq_getElem_cons (by omega), cmpNs, cmpI, if_pos (by omega)]
    · rw [h2, List.drop_length, List.drop_eq_nil_of_le (by omega), cmpNs, cmpI, if_neg (by omega), if_neg (by omega)]
theorem cmpVs_end {a b : List V} {i : Nat} (hi : i ≤ a.length) (hj : i ≤ b.length) (h : ¬ (i < a.length ∧ i < b.length)) : cmpVs (a.drop i) (b.drop i) = cmpI a.length b.length := by
  rcases Nat.lt_or_ge i a.length with h1 | h1
  · have h2 : i = b.length := by omega
    rw [h2, List.drop_length, List.drop_eq_getElem_cons (by omega), cmpVs, cmpI, if_neg (by omega), if_pos (by omega)]
  · have h2 : i = a.length := by omega
    rcases Nat.lt_or_ge i b.length with h3 | h3
    · rw [h2, List.drop_length, List.drop_eq_getElem_cons (by omega), cmpVs, cmpI, if_pos (by omega)]
    · rw [h2, List.drop_length, List.drop_eq_nil_of_le (by omega), cmpVs, cmpI, if_neg (by omega), if_neg (by omega)]
theorem cmpI_ne {a b : Int} (h : a ≠ b) : cmpI a b ≠ 0 := by
  unfold cmpI
  split
  · simp
  · split
    · simp
    · omega
set_option maxHeartbeats 16000000 in
theorem compare_spec (N : Nat) : ∀ (k n : Int) (s : List UInt8) (l : List V) (ns : List (List UInt8)) (w : V), bulkV (.mk k n s l ns) ≤ N → N ≤ 100000000000 → bulkV w ≤ 100000000000 → ∀ (z1 z2 : Nat) (lp : List PV) (t1 t2 : Bool) (x1 x2 : Nat) (mp : List PV) (u1 u2 : Bool) (Post : PV → List (Nat × Blk) → Prop),
    VPs l lp → (z1 = 5 ∨ l = []) → (z2 = 1 ∨ ns = []) → VPs w.l mp → (x1 = 5 ∨ w.l = []) → (x2 = 1 ∨ w.ns = []) → Post (.int .i64 (cmpV (.mk k n s l ns) w)) [] →
    Spec K 94 [.agg [.int .i64 k, .int .i64 n, .str s, .sl z1 lp t1 true, .sl z2 (strs ns) t2 true], .agg [.int .i64 w.k, .int .i64 w.n, .str w.s, .sl x1 mp u1 true, .sl x2 (strs w.ns) u2 true]] [] Post := by
  induction N with
  | zero => intro k n s l ns w h; exact absurd (bulkV_pos (.mk k n s l ns)) (by omega)
  | succ N ih =>
    intro k n s l ns w hs hN hw z1 z2 lp t1 t2 x1 x2 mp u1 u2 Post hl hz1 hz2 hm hx1 hx2 h
    obtain ⟨k', n', s', l', ns'⟩ := w
    simp only [V.k, V.n, V.s, V.l, V.ns] at *
    have hlp := VPs_len hl
    have hmp := VPs_len hm
    have hz1' : z1 = 5 ∨ lp = [] := hz1.imp (fun h => h) fun h => by rw [h] at hlp; exact List.length_eq_zero_iff.1 hlp
    have hx1' : x1 = 5 ∨ mp = [] := hx1.imp (fun h => h) fun h => by rw [h] at hmp; exact List.length_eq_zero_iff.1 hmp
    have hz2' : z2 = 1 ∨ strs ns = [] := hz2.imp (fun h => h) fun h => by rw [h]; rfl
    have hx2' : x2 = 1 ∨ strs ns' = [] := hx2.imp (fun h => h) fun h => by rw [h]; rfl
    have hs' := hs
    have hw' := hw
    simp only [bulkV] at hs' hw'
    have hnb := nsBulk_le ns
    have hlb := len_sizeVs l
    have hsb := sizes_bulk l
    have hnb' := nsBulk_le ns'
    have hlb' := len_sizeVs l'
    have hsb' := sizes_bulk l'
    refine is94.specW K_ok K_mix false (by simp) (by simp [keys]) ?_
    rw [cmpV_mk] at h
    (conv => whnf); repeat ((refine And.intro ?_ ?_; focus exact Cl2); conv => whnf)
    refine ⟨fun h1 => ?_, fun h1 => ?_⟩
    · have h1' : k ≠ k' := by simpa using h1
      rw [if_pos h1'] at h
      (conv => whnf); repeat ((refine And.intro ?_ ?_; focus exact Cl2); conv => whnf)
      refine number_spec2 _ _ _ ?_
      (conv => whnf); repeat ((refine And.intro ?_ ?_; focus exact Cl2); conv => whnf)
      exact h
    · have h1' : ¬ k ≠ k' := by simpa using h1
      rw [if_neg h1'] at h
      (conv => whnf); repeat ((refine And.intro ?_ ?_; focus exact Cl2); conv => whnf)
      refine ⟨fun h2 => ?_, fun h2 => ?_⟩
      · have h2' : n ≠ n' := by simpa using h2
        rw [if_pos h2'] at h
        (conv => whnf); repeat ((refine And.intro ?_ ?_; focus exact Cl2); conv => whnf)
        refine number_spec2 _ _ _ ?_
        (conv => whnf); repeat ((refine And.intro ?_ ?_; focus exact Cl2); conv => whnf)
        exact h
      · have h2' : ¬ n ≠ n' := by simpa using h2
        rw [if_neg h2'] at h
        (conv => whnf); repeat ((refine And.intro ?_ ?_; focus exact Cl2); conv => whnf)
        refine ⟨fun h3 => ?_, fun h3 => ?_⟩
        · have h3' : s ≠ s' := by simpa using h3
          rw [if_pos h3'] at h
          (conv => whnf); repeat ((refine And.intro ?_ ?_; focus exact Cl2); conv => whnf)
          refine textC_spec _ _ _ ?_
          (conv => whnf); repeat ((refine And.intro ?_ ?_; focus exact Cl2); conv => whnf)
          exact h
        · have h3' : ¬ s ≠ s' := by simpa using h3
          rw [if_neg h3'] at h
          (conv => whnf); repeat ((refine And.intro ?_ ?_; focus exact Cl2); conv => whnf)
          refine ⟨Nat, fun i => ⟨123, [(5, .int .i64 i), (4, .int .i64 0), (3, .ptr 1 0), (2, .ptr 0 0)], [(0, .box [.int .i64 k, .int .i64 n, .str s, .sl z1 lp t1 true, .sl z2 (strs ns) t2 true]), (1, .box [.int .i64 k', .int .i64 n', .str s', .sl x1 mp u1 true, .sl x2 (strs ns') u2 true])], []⟩,
            fun i => i ≤ ns.length ∧ i ≤ ns'.length ∧ cmpNs ns ns' = cmpNs (ns.drop i) (ns'.drop i), fun i => ns.length - i, ⟨[], 0, ⟨Nat.zero_le _, Nat.zero_le _, rfl⟩, ?_⟩, fun i hI => ?_⟩
          · simp [meets, ghosts, St.le, St.get, look, keys, PV.labs, labsL, lookB, Blk.labs]
          · obtain ⟨hi, hi2, hin⟩ := hI
            conv => (arg 5; dsimp only)
            (conv => whnf); repeat ((refine And.intro ?_ ?_; focus exact Cl2); conv => whnf)
            rw [strs_len, strs_len]
            refine ⟨fun h4 => ?_, fun h4 => ?_⟩
            · have h5 : i < ns.length ∧ i < ns'.length := by
                by_cases h6 : (i : Int) < ns.length
                · simp [h6] at h4; omega
                · simp [h6] at h4
              have hix := h5.1
              have hix' := h5.2
              have hdr : ns.drop i = ns[i] :: ns.drop (i + 1) := List.drop_eq_getElem_cons hix
              have hdr' : ns'.drop i = ns'[i] :: ns'.drop (i + 1) := List.drop_eq_getElem_cons hix'
              rw [hdr, hdr', cmpNs] at hin
              have hb1 : True → (0 : Int) ≤ (i : Int) ∧ (i : Int) < ((strs ns).length : Int) := fun _ => ⟨by omega, by rw [strs_len]; omega⟩
              have hb2 : True → (0 : Int) ≤ (i : Int) ∧ (i : Int) < ((strs ns').length : Int) := fun _ => ⟨by omega, by rw [strs_len]; omega⟩
              have hn1 : nth (strs ns) ((i : Int)).toNat = .str ns[i] := by rw [Int.toNat_natCast, nth_strs hix]
              have hn2 : nth (strs ns') ((i : Int)).toNat = .str ns'[i] := by rw [Int.toNat_natCast, nth_strs hix']
              (conv => whnf); repeat' (first | ((refine And.intro ?_ ?_; focus exact Cl2); conv => whnf) | (rw [hn1]; conv => whnf) | (rw [hn2]; conv => whnf) | ((refine Both.mk ?_ ?_ <;> fail_if_success (intro _)) <;> conv => whnf))
              all_goals (
                refine ⟨fun h6 => ?_, fun h6 => ?_⟩
                · have h6' : ¬ ns[i] = ns'[i] := by simpa using h6
                  rw [if_neg h6'] at hin
                  have hne := cmpS_ne h6'
                  rw [if_pos (by rw [hin]; exact hne), hin] at h
                  (conv => whnf); repeat' (first | ((refine And.intro ?_ ?_; focus exact Cl2); conv => whnf) | (rw [hn1]; conv => whnf) | (rw [hn2]; conv => whnf) | ((refine Both.mk ?_ ?_ <;> fail_if_success (intro _)) <;> conv => whnf))
                  all_goals (
                    refine textC_spec _ _ _ ?_
                    (conv => whnf); repeat ((refine And.intro ?_ ?_; focus exact Cl2); conv => whnf)
                    exact h)
                · have h6' : ns[i] = ns'[i] := by simpa using h6
                  rw [if_pos h6'] at hin
                  (conv => whnf); repeat ((refine And.intro ?_ ?_; focus exact Cl2); conv => whnf)
                  rw [wrap64 (by omega) (by omega)]
                  refine ⟨[], i + 1, ⟨hix, hix', hin⟩, by show ns.length - (i + 1) < ns.length - i; omega, ?_⟩
                  simp [meets, ghosts, St.le, St.get, look, keys, PV.labs, labsL, lookB, Blk.labs])
            · have h5 : ¬ (i < ns.length ∧ i < ns'.length) := by
                by_cases h6 : (i : Int) < ns.length
                · simp [h6] at h4; omega
                · omega
              have he := cmpNs_end hi hi2 h5
              rw [← hin] at he
              rw [he] at h
              (conv => whnf); repeat ((refine And.intro ?_ ?_; focus exact Cl2); conv => whnf)
              rw [strs_len, strs_len]
              clear hin hi hi2 h4 h5
              refine ⟨fun h7 => ?_, fun h7 => ?_⟩
              · have h7' : (ns.length : Int) ≠ ns'.length := by simpa using h7
                rw [if_pos (cmpI_ne h7')] at h
                (conv => whnf); repeat ((refine And.intro ?_ ?_; focus exact Cl2); conv => whnf)
                rw [strs_len, strs_len]
                refine number_spec2 _ _ _ ?_
                (conv => whnf); repeat ((refine And.intro ?_ ?_; focus exact Cl2); conv => whnf)
                exact h
              · have h7' : (ns.length : Int) = ns'.length := by simpa using h7
                have h8 : cmpI ns.length ns'.length = 0 := by rw [h7', cmpI, if_neg (by omega), if_neg (by omega)]
                rw [if_neg (by rw [h8]; simp)] at h
                (conv => whnf); repeat ((refine And.intro ?_ ?_; focus exact Cl2); conv => whnf)
                clear he
                refine ⟨Nat, fun i => ⟨123, [(6, .int .i64 i), (4, .int .i64 0), (3, .ptr 1 0), (2, .ptr 0 0)], [(0, .box [.int .i64 k, .int .i64 n, .str s, .sl z1 lp t1 true, .sl z2 (strs ns) t2 true]), (1, .box [.int .i64 k', .int .i64 n', .str s', .sl x1 mp u1 true, .sl x2 (strs ns') u2 true])], []⟩,
                  fun i => i ≤ l.length ∧ i ≤ l'.length ∧ cmpVs l l' = cmpVs (l.drop i) (l'.drop i), fun i => l.length - i, ⟨[], 0, ⟨Nat.zero_le _, Nat.zero_le _, rfl⟩, ?_⟩, fun i hI => ?_⟩
                · simp [meets, ghosts, St.le, St.get, look, keys, PV.labs, labsL, lookB, Blk.labs]
                · obtain ⟨hi, hi2, hin⟩ := hI
                  conv => (arg 5; dsimp only)
                  (conv => whnf); repeat ((refine And.intro ?_ ?_; focus exact Cl2); conv => whnf)
                  rw [hlp, hmp]
                  refine ⟨fun h4 => ?_, fun h4 => ?_⟩
                  · have h5 : i < l.length ∧ i < l'.length := by
                      by_cases h6 : (i : Int) < l.length
                      · simp [h6] at h4; omega
                      · simp [h6] at h4
                    have hix := h5.1
                    have hix' := h5.2
                    have hdr : l.drop i = l[i] :: l.drop (i + 1) := List.drop_eq_getElem_cons hix
                    have hdr' : l'.drop i = l'[i] :: l'.drop (i + 1) := List.drop_eq_getElem_cons hix'
                    rw [hdr, hdr', cmpVs] at hin
                    obtain ⟨y1, lp2, v1, o1, y2, v2, o2, hp, hq, g1, g2, g3⟩ := (VPs_nth hl hix).out
                    obtain ⟨y1', mp2, v1', o1', y2', v2', o2', hp', hq', g1', g2', g3'⟩ := (VPs_nth hm hix').out
                    have hbm := bulkVs_mem hix
                    have hbm' := bulkVs_mem hix'
                    have hb1 : True → (0 : Int) ≤ (i : Int) ∧ (i : Int) < (lp.length : Int) := fun _ => ⟨by omega, by omega⟩
                    have hb2 : True → (0 : Int) ≤ (i : Int) ∧ (i : Int) < (mp.length : Int) := fun _ => ⟨by omega, by omega⟩
                    have hn1 := (congrArg (nth lp) (Int.toNat_natCast i)).trans hp
                    have hn2 := (congrArg (nth mp) (Int.toNat_natCast i)).trans hp'
                    (conv => whnf); repeat' (first | ((refine And.intro ?_ ?_; focus exact Cl2); conv => whnf) | (rw [hn1]; conv => whnf) | (rw [hn2]; conv => whnf) | ((refine Both.mk ?_ ?_ <;> fail_if_success (intro _)) <;> conv => whnf))
                    all_goals (
                      refine ih l[i].k l[i].n l[i].s l[i].l l[i].ns l'[i] (by rw [V.eta]; omega) (by omega) (by omega) y1 y2 lp2 v1 v2 y1' y2' mp2 v1' v2' _ hq g1 g2 hq' g1' g2' ?_
                      rw [V.eta]
                      (conv => whnf); repeat ((refine And.intro ?_ ?_; focus exact Cl2); conv => whnf)
                      refine ⟨fun h6 => ?_, fun h6 => ?_⟩
                      · have h6' : cmpV l[i] l'[i] ≠ 0 := by simpa using h6
                        rw [if_pos h6'] at hin
                        rw [hin] at h
                        (conv => whnf); repeat ((refine And.intro ?_ ?_; focus exact Cl2); conv => whnf)
                        exact h
                      · have h6' : ¬ cmpV l[i] l'[i] ≠ 0 := by simpa using h6
                        rw [if_neg h6'] at hin
                        (conv => whnf); repeat ((refine And.intro ?_ ?_; focus exact Cl2); conv => whnf)
                        rw [wrap64 (by omega) (by omega)]
                        refine ⟨[], i + 1, ⟨hix, hix', hin⟩, by show l.length - (i + 1) < l.length - i; omega, ?_⟩
                        simp [meets, ghosts, St.le, St.get, look, keys, PV.labs, labsL, lookB, Blk.labs])
                  · have h5 : ¬ (i < l.length ∧ i < l'.length) := by
                      by_cases h6 : (i : Int) < l.length
                      · simp [h6] at h4; omega
                      · omega
                    have he := cmpVs_end hi hi2 h5
                    rw [← hin] at he
                    rw [he] at h
                    (conv => whnf); repeat ((refine And.intro ?_ ?_; focus exact Cl2); conv => whnf)
                    rw [hlp, hmp]
                    refine number_spec2 _ _ _ ?_
                    (conv => whnf); repeat ((refine And.intro ?_ ?_; focus exact Cl2); conv => whnf)
                    exact h
/-- Are two values the same? -/
def sameV (a b : V) : Bool := cmpV a b == 0
set_option maxHeartbeats 8000000 in
theorem sameR_spec (v w : V) (z1 z2 : Nat) (lp : List PV) (t1 t2 : Bool) (x1 x2 : Nat) (mp : List PV) (u1 u2 : Bool) (Post : PV → List (Nat × Blk) → Prop) (a : VA v z1 lp z2) (b : VA w x1 mp x2)
    (h : Post (.bool (sameV v w)) []) : Spec K 77 [.agg (vc v z1 lp t1 z2 t2), .agg (vc w x1 mp u1 x2 u2)] [] Post := by
  refine is77.specW K_ok K_mix false (by simp) (by simp [keys]) ?_
  (conv => whnf); repeat ((refine And.intro ?_ ?_; focus exact Cl2); conv => whnf)
  refine compare_spec 100000000000 v.k v.n v.s v.l v.ns w (by rw [V.eta]; exact a.b) (by omega) b.b z1 z2 lp t1 t2 x1 x2 mp u1 u2 _ a.l a.z1 a.z2 b.l b.z1 b.z2 ?_
  rw [V.eta]
  (conv => whnf); repeat ((refine And.intro ?_ ?_; focus exact Cl2); conv => whnf)
  exact h
def V0 : V := .mk 0 0 [] [] []
theorem V0_VA : VA V0 0 [] 0 := ⟨rfl, .inr rfl, .inr rfl, ⟨by decide, by decide⟩, by decide⟩
end Go.Vc
namespace Go.Vc
open Go Go.Proofs
set_option maxRecDepth 100000
/-- An event. -/
structure EV where
  kind : Int
  flow : Int
  id : Int
  n : Int
  s : List UInt8
  v : V
def ec (e : EV) (z1 : Nat) (lp : List PV) (t1 : Bool) (z2 : Nat) (t2 : Bool) : List PV :=
  [.int .i64 e.kind, .int .i64 e.flow, .int .i64 e.id, .int .i64 e.n, .str e.s, .int .i64 e.v.k, .int .i64 e.v.n, .str e.v.s, .sl z1 lp t1 true, .sl z2 (strs e.v.ns) t2 true]
/-- What is asked of an event that is handed over. -/
structure EA (e : EV) (z1 : Nat) (lp : List PV) (z2 : Nat) : Prop where
  v : VA e.v z1 lp z2
  s : e.s.length ≤ 100000000000
  id : i64 e.id
  n : i64 e.n
def wi (n a b : Int) : Bool := decide (a ≤ n) && decide (n ≤ b)
/-- May the numbers be? -/
def numB : Int → Int → Int → Bool := fun k id n =>
  if k = 1 then ((id == 0) == (n == 0)) && wi id 0 64 && wi n 0 8
  else if k = 2 ∨ k = 5 ∨ k = 8 then wi id 1 64
  else if k = 3 ∨ k = 4 ∨ k = 6 then wi id 1 64 && wi n 1 9007199254740991
  else if k = 7 then wi id 1 64 && wi n 0 9007199254740991
  else if k = 9 then wi id 1 9007199254740991
  else if k = 11 then wi id 1 64 && wi n 1 8
  else if k = 12 ∨ k = 13 then wi id 1 9007199254740991 && wi n 0 9007199254740991
  else true
theorem kinds {k : Int} (h : wi k 1 15 = true) : k = 1 ∨ k = 2 ∨ k = 3 ∨ k = 4 ∨ k = 5 ∨ k = 6 ∨ k = 7 ∨ k = 8 ∨ k = 9 ∨ k = 10 ∨ k = 11 ∨ k = 12 ∨ k = 13 ∨ k = 14 ∨ k = 15 := by
  simp [wi] at h; omega
end Go.Vc
namespace Go.Vc
open Go Go.Proofs
set_option maxRecDepth 100000
theorem es_nil' (s : List UInt8) : (s == []) = s.isEmpty := by cases s <;> rfl
theorem b15_1 : (bitsI BinOp.and IntKind.i64 15 1 != 0) = true := rfl
theorem eb15_1 : (bitsI BinOp.and IntKind.i64 15 1 == 0) = false := rfl
theorem gb15_1 : decide (0 < bitsI BinOp.and IntKind.i64 15 1) = true := rfl
theorem b15_2 : (bitsI BinOp.and IntKind.i64 15 2 != 0) = true := rfl
theorem eb15_2 : (bitsI BinOp.and IntKind.i64 15 2 == 0) = false := rfl
theorem gb15_2 : decide (0 < bitsI BinOp.and IntKind.i64 15 2) = true := rfl
theorem b15_4 : (bitsI BinOp.and IntKind.i64 15 4 != 0) = true := rfl
theorem eb15_4 : (bitsI BinOp.and IntKind.i64 15 4 == 0) = false := rfl
theorem gb15_4 : decide (0 < bitsI BinOp.and IntKind.i64 15 4) = true := rfl
theorem b15_8 : (bitsI BinOp.and IntKind.i64 15 8 != 0) = true := rfl
theorem eb15_8 : (bitsI BinOp.and IntKind.i64 15 8 == 0) = false := rfl
theorem gb15_8 : decide (0 < bitsI BinOp.and IntKind.i64 15 8) = true := rfl
theorem b13_1 : (bitsI BinOp.and IntKind.i64 13 1 != 0) = true := rfl
theorem eb13_1 : (bitsI BinOp.and IntKind.i64 13 1 == 0) = false := rfl
theorem gb13_1 : decide (0 < bitsI BinOp.and IntKind.i64 13 1) = true := rfl
theorem b13_2 : (bitsI BinOp.and IntKind.i64 13 2 != 0) = false := rfl
theorem eb13_2 : (bitsI BinOp.and IntKind.i64 13 2 == 0) = true := rfl
theorem gb13_2 : decide (0 < bitsI BinOp.and IntKind.i64 13 2) = false := rfl
theorem b13_4 : (bitsI BinOp.and IntKind.i64 13 4 != 0) = true := rfl
theorem eb13_4 : (bitsI BinOp.and IntKind.i64 13 4 == 0) = false := rfl
theorem gb13_4 : decide (0 < bitsI BinOp.and IntKind.i64 13 4) = true := rfl
theorem b13_8 : (bitsI BinOp.and IntKind.i64 13 8 != 0) = true := rfl
theorem eb13_8 : (bitsI BinOp.and IntKind.i64 13 8 == 0) = false := rfl
theorem gb13_8 : decide (0 < bitsI BinOp.and IntKind.i64 13 8) = true := rfl
theorem b3_1 : (bitsI BinOp.and IntKind.i64 3 1 != 0) = true := rfl
theorem eb3_1 : (bitsI BinOp.and IntKind.i64 3 1 == 0) = false := rfl
theorem gb3_1 : decide (0 < bitsI BinOp.and IntKind.i64 3 1) = true := rfl
theorem b3_2 : (bitsI BinOp.and IntKind.i64 3 2 != 0) = true := rfl
theorem eb3_2 : (bitsI BinOp.and IntKind.i64 3 2 == 0) = false := rfl
theorem gb3_2 : decide (0 < bitsI BinOp.and IntKind.i64 3 2) = true := rfl
theorem b3_4 : (bitsI BinOp.and IntKind.i64 3 4 != 0) = false := rfl
theorem eb3_4 : (bitsI BinOp.and IntKind.i64 3 4 == 0) = true := rfl
theorem gb3_4 : decide (0 < bitsI BinOp.and IntKind.i64 3 4) = false := rfl
theorem b3_8 : (bitsI BinOp.and IntKind.i64 3 8 != 0) = false := rfl
theorem eb3_8 : (bitsI BinOp.and IntKind.i64 3 8 == 0) = true := rfl
theorem gb3_8 : decide (0 < bitsI BinOp.and IntKind.i64 3 8) = false := rfl
theorem b9_1 : (bitsI BinOp.and IntKind.i64 9 1 != 0) = true := rfl
theorem eb9_1 : (bitsI BinOp.and IntKind.i64 9 1 == 0) = false := rfl
theorem gb9_1 : decide (0 < bitsI BinOp.and IntKind.i64 9 1) = true := rfl
theorem b9_2 : (bitsI BinOp.and IntKind.i64 9 2 != 0) = false := rfl
theorem eb9_2 : (bitsI BinOp.and IntKind.i64 9 2 == 0) = true := rfl
theorem gb9_2 : decide (0 < bitsI BinOp.and IntKind.i64 9 2) = false := rfl
theorem b9_4 : (bitsI BinOp.and IntKind.i64 9 4 != 0) = false := rfl
theorem eb9_4 : (bitsI BinOp.and IntKind.i64 9 4 == 0) = true := rfl
theorem gb9_4 : decide (0 < bitsI BinOp.and IntKind.i64 9 4) = false := rfl
theorem b9_8 : (bitsI BinOp.and IntKind.i64 9 8 != 0) = true := rfl
theorem eb9_8 : (bitsI BinOp.and IntKind.i64 9 8 == 0) = false := rfl
theorem gb9_8 : decide (0 < bitsI BinOp.and IntKind.i64 9 8) = true := rfl
theorem b11_1 : (bitsI BinOp.and IntKind.i64 11 1 != 0) = true := rfl
theorem eb11_1 : (bitsI BinOp.and IntKind.i64 11 1 == 0) = false := rfl
theorem gb11_1 : decide (0 < bitsI BinOp.and IntKind.i64 11 1) = true := rfl
theorem b11_2 : (bitsI BinOp.and IntKind.i64 11 2 != 0) = true := rfl
theorem eb11_2 : (bitsI BinOp.and IntKind.i64 11 2 == 0) = false := rfl
theorem gb11_2 : decide (0 < bitsI BinOp.and IntKind.i64 11 2) = true := rfl
theorem b11_4 : (bitsI BinOp.and IntKind.i64 11 4 != 0) = false := rfl
theorem eb11_4 : (bitsI BinOp.and IntKind.i64 11 4 == 0) = true := rfl
theorem gb11_4 : decide (0 < bitsI BinOp.and IntKind.i64 11 4) = false := rfl
theorem b11_8 : (bitsI BinOp.and IntKind.i64 11 8 != 0) = true := rfl
theorem eb11_8 : (bitsI BinOp.and IntKind.i64 11 8 == 0) = false := rfl
theorem gb11_8 : decide (0 < bitsI BinOp.and IntKind.i64 11 8) = true := rfl
theorem b1_1 : (bitsI BinOp.and IntKind.i64 1 1 != 0) = true := rfl
theorem eb1_1 : (bitsI BinOp.and IntKind.i64 1 1 == 0) = false := rfl
theorem gb1_1 : decide (0 < bitsI BinOp.and IntKind.i64 1 1) = true := rfl
theorem b1_2 : (bitsI BinOp.and IntKind.i64 1 2 != 0) = false := rfl
theorem eb1_2 : (bitsI BinOp.and IntKind.i64 1 2 == 0) = true := rfl
theorem gb1_2 : decide (0 < bitsI BinOp.and IntKind.i64 1 2) = false := rfl
theorem b1_4 : (bitsI BinOp.and IntKind.i64 1 4 != 0) = false := rfl
theorem eb1_4 : (bitsI BinOp.and IntKind.i64 1 4 == 0) = true := rfl
theorem gb1_4 : decide (0 < bitsI BinOp.and IntKind.i64 1 4) = false := rfl
theorem b1_8 : (bitsI BinOp.and IntKind.i64 1 8 != 0) = false := rfl
theorem eb1_8 : (bitsI BinOp.and IntKind.i64 1 8 == 0) = true := rfl
theorem gb1_8 : decide (0 < bitsI BinOp.and IntKind.i64 1 8) = false := rfl
theorem b5_1 : (bitsI BinOp.and IntKind.i64 5 1 != 0) = true := rfl
theorem eb5_1 : (bitsI BinOp.and IntKind.i64 5 1 == 0) = false := rfl
theorem gb5_1 : decide (0 < bitsI BinOp.and IntKind.i64 5 1) = true := rfl
theorem b5_2 : (bitsI BinOp.and IntKind.i64 5 2 != 0) = false := rfl
theorem eb5_2 : (bitsI BinOp.and IntKind.i64 5 2 == 0) = true := rfl
theorem gb5_2 : decide (0 < bitsI BinOp.and IntKind.i64 5 2) = false := rfl
theorem b5_4 : (bitsI BinOp.and IntKind.i64 5 4 != 0) = true := rfl
theorem eb5_4 : (bitsI BinOp.and IntKind.i64 5 4 == 0) = false := rfl
theorem gb5_4 : decide (0 < bitsI BinOp.and IntKind.i64 5 4) = true := rfl
theorem b5_8 : (bitsI BinOp.and IntKind.i64 5 8 != 0) = false := rfl
theorem eb5_8 : (bitsI BinOp.and IntKind.i64 5 8 == 0) = true := rfl
theorem gb5_8 : decide (0 < bitsI BinOp.and IntKind.i64 5 8) = false := rfl
theorem b12_1 : (bitsI BinOp.and IntKind.i64 12 1 != 0) = false := rfl
theorem eb12_1 : (bitsI BinOp.and IntKind.i64 12 1 == 0) = true := rfl
theorem gb12_1 : decide (0 < bitsI BinOp.and IntKind.i64 12 1) = false := rfl
theorem b12_2 : (bitsI BinOp.and IntKind.i64 12 2 != 0) = false := rfl
theorem eb12_2 : (bitsI BinOp.and IntKind.i64 12 2 == 0) = true := rfl
theorem gb12_2 : decide (0 < bitsI BinOp.and IntKind.i64 12 2) = false := rfl
theorem b12_4 : (bitsI BinOp.and IntKind.i64 12 4 != 0) = true := rfl
theorem eb12_4 : (bitsI BinOp.and IntKind.i64 12 4 == 0) = false := rfl
theorem gb12_4 : decide (0 < bitsI BinOp.and IntKind.i64 12 4) = true := rfl
theorem b12_8 : (bitsI BinOp.and IntKind.i64 12 8 != 0) = true := rfl
theorem eb12_8 : (bitsI BinOp.and IntKind.i64 12 8 == 0) = false := rfl
theorem gb12_8 : decide (0 < bitsI BinOp.and IntKind.i64 12 8) = true := rfl
theorem b0_1 : (bitsI BinOp.and IntKind.i64 0 1 != 0) = false := rfl
theorem eb0_1 : (bitsI BinOp.and IntKind.i64 0 1 == 0) = true := rfl
theorem gb0_1 : decide (0 < bitsI BinOp.and IntKind.i64 0 1) = false := rfl
theorem b0_2 : (bitsI BinOp.and IntKind.i64 0 2 != 0) = false := rfl
theorem eb0_2 : (bitsI BinOp.and IntKind.i64 0 2 == 0) = true := rfl
theorem gb0_2 : decide (0 < bitsI BinOp.and IntKind.i64 0 2) = false := rfl
theorem b0_4 : (bitsI BinOp.and IntKind.i64 0 4 != 0) = false := rfl
theorem eb0_4 : (bitsI BinOp.and IntKind.i64 0 4 == 0) = true := rfl
theorem gb0_4 : decide (0 < bitsI BinOp.and IntKind.i64 0 4) = false := rfl
theorem b0_8 : (bitsI BinOp.and IntKind.i64 0 8 != 0) = false := rfl
theorem eb0_8 : (bitsI BinOp.and IntKind.i64 0 8 == 0) = true := rfl
theorem gb0_8 : decide (0 < bitsI BinOp.and IntKind.i64 0 8) = false := rfl
theorem b10_1 : (bitsI BinOp.and IntKind.i64 10 1 != 0) = false := rfl
theorem eb10_1 : (bitsI BinOp.and IntKind.i64 10 1 == 0) = true := rfl
theorem gb10_1 : decide (0 < bitsI BinOp.and IntKind.i64 10 1) = false := rfl
theorem b10_2 : (bitsI BinOp.and IntKind.i64 10 2 != 0) = true := rfl
theorem eb10_2 : (bitsI BinOp.and IntKind.i64 10 2 == 0) = false := rfl
theorem gb10_2 : decide (0 < bitsI BinOp.and IntKind.i64 10 2) = true := rfl
theorem b10_4 : (bitsI BinOp.and IntKind.i64 10 4 != 0) = false := rfl
theorem eb10_4 : (bitsI BinOp.and IntKind.i64 10 4 == 0) = true := rfl
theorem gb10_4 : decide (0 < bitsI BinOp.and IntKind.i64 10 4) = false := rfl
theorem b10_8 : (bitsI BinOp.and IntKind.i64 10 8 != 0) = true := rfl
theorem eb10_8 : (bitsI BinOp.and IntKind.i64 10 8 == 0) = false := rfl
theorem gb10_8 : decide (0 < bitsI BinOp.and IntKind.i64 10 8) = true := rfl

def evB (k id n : Int) (s : List UInt8) (v : V) : Bool :=
  (if k = 1 ∨ k = 11 then isName s
  else if k = 2 then n == 0 && isName s
  else if k = 3 ∨ k = 4 ∨ k = 12 ∨ k = 13 then s.isEmpty && v.k == 0
  else if k = 5 then n == 0 && s.isEmpty
  else if k = 6 then s.isEmpty && v.k == 1 && v.n != 0
  else if k = 7 then s.isEmpty && v.k == 1
  else if k = 8 then n == 0 && s.isEmpty && v.k == 0
  else if k = 9 then n == 0 && v.k == 0 && isName s
  else if k = 10 then id == 0 && n == 0 && isName s
  else if k = 14 then id == 0 && n == 0 && s.isEmpty && v.k == 0
  else id == 0 && s.isEmpty && (n == 0 || v.k == 0)) && numB k id n
/-- May an event be? -/
def evOk (e : EV) : Bool := wi e.kind 1 15 && wi e.flow 1 8 && mayV e.v && evB e.kind e.id e.n e.s e.v
theorem check_c (v : V) (z1 z2 : Nat) (lp : List PV) (t1 t2 : Bool) (Post : PV → List (Nat × Blk) → Prop) (a : VA v z1 lp z2) (h1 : mayV v = true → Post (.int .i64 0) []) (h2 : mayV v = false → Post (.int .i64 2) []) :
    Spec K 47 [.agg (vc v z1 lp t1 z2 t2)] [] Post := by
  refine check_spec v z1 z2 lp t1 t2 _ a ?_
  cases h : mayV v
  · exact h2 h
  · exact h1 h
end Go.Vc
