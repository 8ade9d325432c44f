/- What is proved here: contracts of functions of the program: of each function what it hands back and what it leaves in memory. Conditions: those that each theorem names. -/
import Derived.Test.YtmbopgmllnijjaaGreatTAw
import Derived.Test.YtmbopgmllnijjaaGreatTAo
import Derived.Test.YtmbopgmllnijjaaGreatTAr
set_option linter.unusedVariables false
set_option linter.unusedSimpArgs false
set_option linter.unusedSectionVars false
namespace Go.Vc
open Go Go.Proofs
set_option maxRecDepth 100000
def OutN {α : Type} (p : Except Int (α × List UInt8)) (a : α) (b : List UInt8) (e : Int) : Prop := p = .ok (a, b) ∧ e = 0 ∨ p = .error e ∧ e ≠ 0
theorem OutN.err {α : Type} {p : Except Int (α × List UInt8)} {a : α} {b : List UInt8} {e : Int} (h : OutN p a b e) (he : e ≠ 0) : p = .error e := by
 rcases h with ⟨_, h⟩ | ⟨h, _⟩
 ·exact absurd h he
 ·exact h
theorem OutN.ok {α : Type} {p : Except Int (α × List UInt8)} {a : α} {b : List UInt8} (h : OutN p a b 0) : p = .ok (a, b) := by
 rcases h with ⟨h, _⟩ | ⟨_, h⟩
 ·exact h
 ·exact absurd rfl h
set_option maxHeartbeats 4000000 in
theorem off2 (z : Nat) (b : List UInt8) (t : Bool) (e : Int) (n : Nat) (hz : z = 1 ∨ b = []) (hb : b.length ≤ 1000000000) (hn : n ≤ 1000) (Post : PV → List (Nat × Blk) → Prop)
  (h : ∀ s b' e', OutN (lift e (takeP n b)) s b' e' → s.length ≤ n → (e' ≠ 0 → s = []) → b'.length ≤ b.length → (z = 1 ∨ b' = []) → ∀ z' t', (z' = 1 ∨ s = []) → Post (.sl z' (bs s) false true) (tp z b' t' e')) : Spec K 82 [.ptr 0 0, .int .i64 n] (tp z b t e) Post := by
 refine is82.specW K_ok K_mix false (by simp) (by simp [keys]) ?_
 by_cases he : e = 0
 ·subst he
  (conv => whnf); repeat ((first | (apply And.intro;· exact Cl4) | apply T1 | apply T2 | apply T3 | apply T4 | apply T6 | apply T5); conv => whnf)
  rw [bs_len]
  by_cases hl : b.length < n
  ·rw [decide_eq_true (show (b.length : Int) < (n : Int) by omega)]
   (conv => whnf); repeat ((first | (apply And.intro;· exact Cl4) | apply T1 | apply T2 | apply T3 | apply T4 | apply T6 | apply T5); conv => whnf)
   exact h [] b 3 (.inr ⟨by rw [lift0, takeP, if_pos hl], by decide⟩) (Nat.zero_le _) (fun _ => rfl) (Nat.le_refl _) hz 0 t (.inr rfl)
  ·rw [decide_eq_false (show ¬ (b.length : Int) < (n : Int) by omega)]
   have hz2 : z = 1 ∨ bs b = [] := hz.imp id fun h => by rw [h]; rfl
   have hb1 : True → (0 : Int) ≤ (n : Int) ∧ (n : Int) ≤ ((bs b).length : Int) := fun _ => ⟨by omega, by rw [bs_len]; omega⟩
   (conv => whnf); repeat ((first | (apply And.intro;· exact Cl4) | apply T1 | apply T2 | apply T3 | apply T4 | apply T6 | apply T5); conv => whnf)
   rw [Int.toNat_natCast, List.drop_zero, List.take_of_length_le (l := bs b) (i := (bs b).length) (Nat.le_refl _), bs_take, bs_drop]
   exact h (b.take n) (b.drop n) 0 (.inl ⟨by rw [lift0, takeP, if_neg hl], rfl⟩) (by simp; omega) (fun h => absurd rfl h) (by simp) (hz.imp id fun h => by rw [h]; simp) z _ (hz.imp id fun h => by rw [h]; simp)
 ·have h1 : (e == 0) = false := by simpa using he
  have h2 : (e != 0) = true := by simpa using he
  (conv => whnf); repeat ((first | (apply And.intro;· exact Cl4) | apply T1 | apply T2 | apply T3 | apply T4 | apply T6 | apply T5); conv => whnf)
  rw [h1]
  (conv => whnf); repeat ((first | (apply And.intro;· exact Cl4) | apply T1 | apply T2 | apply T3 | apply T4 | apply T6 | apply T5); conv => whnf)
  rw [h2]
  (conv => whnf); repeat ((first | (apply And.intro;· exact Cl4) | apply T1 | apply T2 | apply T3 | apply T4 | apply T6 | apply T5); conv => whnf)
  exact h [] b e (.inr ⟨liftE he _, he⟩) (Nat.zero_le _) (fun _ => rfl) (Nat.le_refl _) hz 0 t (.inr rfl)
def numP (size most : Nat) (b : List UInt8) : Except Int (Int × List UInt8) :=
 match takeP size b with
 | .error e => .error e
 | .ok (s, r) => if (most : Int) < n8 s then .error 5 else .ok (n8 s, r)
theorem n8_small (s : List UInt8) (h : s.length ≤ 2) : 0 ≤ n8 s ∧ n8 s ≤ 65535 := by
 have key : n8 s = IntKind.i64.wrap ((horner 0 s : Nat) : Int) := n8_go s 0
 have : horner 0 s ≤ 65535 := by
  match s, h with
  | [], _ => decide
  | [a], _ =>
   have := a.toNat_lt
   simp [horner]; omega
  | [a, b], _ =>
   have := a.toNat_lt
   have := b.toNat_lt
   simp [horner]; omega
 rw [key, wrap64 (by omega) (by omega)]
 omega
set_option maxHeartbeats 8000000 in
theorem num_m (z : Nat) (b : List UInt8) (t : Bool) (e : Int) (size most : Nat) (hs : size ≤ 2) (hm : most ≤ 100000) (hz : z = 1 ∨ b = []) (hb : b.length ≤ 1000000000) (Post : PV → List (Nat × Blk) → Prop)
  (h : ∀ n b' e', OutN (lift e (numP size most b)) n b' e' → 0 ≤ n → n ≤ most → b'.length ≤ b.length → (z = 1 ∨ b' = []) → (e' ≠ 0 → n = 0) → ∀ t', Post (.int .i64 n) (tp z b' t' e')) : Spec K 53 [.ptr 0 0, .int .i64 size, .int .i64 most] (tp z b t e) Post := by
 refine is53.specW K_ok K_mix false (by simp) (by simp [keys]) ?_
 (conv => whnf); repeat ((first | (apply And.intro;· exact Cl4) | apply T1 | apply T2 | apply T3 | apply T4 | apply T6 | apply T5); conv => whnf)
 refine off2 z b t e size hz hb (by omega) _ (fun s b' e' ho hsl hse hb' hz' z' t' hz2 => ?_)
 have hz3 : z' = 1 ∨ bs s = [] := hz2.imp id fun h => by rw [h]; rfl
 obtain ⟨k0, k1⟩ := n8_small s (by omega)
 (conv => whnf); repeat ((first | (apply And.intro;· exact Cl4) | apply T1 | apply T2 | apply T3 | apply T4 | apply T6 | apply T5); conv => whnf)
 rw [bs_len]
 refine ⟨Nat, fun i => ⟨37, [(6, .int .i64 (n8 (s.take i))), (13, .int .i64 i), (12, .int .i64 s.length), (11, .sl z' (bs s) false true), (2, .int .i64 most), (0, .ptr 0 0)], tp z b' t' e', [0]⟩, fun i => i ≤ s.length, fun i => s.length - i, ⟨[], 0, Nat.zero_le _, ?_⟩, fun i hi => ?_⟩
 ·simp [meets, ghosts, St.le, St.get, look, keys, PV.labs, labsL, lookB, Blk.labs, n8]
 ·conv => (arg 5; dsimp only)
  (conv => whnf); repeat ((first | (apply And.intro;· exact Cl4) | apply T1 | apply T2 | apply T3 | apply T4 | apply T6 | apply T5); conv => whnf)
  by_cases hix : i < s.length
  ·rw [decide_eq_true (show (i : Int) < (s.length : Int) by omega)]
   have hi2 : i < (bs s).length := by rw [bs_len]; exact hix
   (conv => whnf); repeat ((first | (apply And.intro;· exact Cl4) | apply T1 | apply T2 | apply T3 | apply T4 | apply T6 | apply T5); conv => whnf)
   rw [Int.toNat_natCast, nth_bs hix]
   (conv => whnf); repeat ((first | (apply And.intro;· exact Cl4) | apply T1 | apply T2 | apply T3 | apply T4 | apply T6 | apply T5); conv => whnf)
   rw [wrap64 (n := (i : Int) + 1) (by omega) (by omega)]
   refine ⟨[], i + 1, hix, by show s.length - (i + 1) < s.length - i; omega, ?_⟩
   have hw : IntKind.i64.wrap (s[i].toNat : Int) = s[i].toNat := wrap64 (by omega) (by have := s[i].toNat_lt; omega)
   have hsn : bitsI BinOp.or IntKind.i64 (IntKind.i64.wrap (n8 (List.take i s) * 2 ^ min 8 IntKind.i64.bits)) (s[i].toNat : Int) = n8 (List.take (i + 1) s) := (n8_snoc s i hix).symm
   simp [meets, ghosts, St.le, St.get, look, keys, PV.labs, labsL, lookB, Blk.labs, hw, hsn]
  ·obtain rfl : i = s.length := by omega
   rw [decide_eq_false (show ¬ (s.length : Int) < (s.length : Int) by omega), List.take_length]
   (conv => whnf); repeat ((first | (apply And.intro;· exact Cl4) | apply T1 | apply T2 | apply T3 | apply T4 | apply T6 | apply T5); conv => whnf)
   by_cases he' : e' = 0
   ·subst he'
    have hok := ho.ok
    have hlt : lift e (numP size most b) = if (most : Int) < n8 s then .error 5 else .ok (n8 s, b') := by
     by_cases h0 : e = 0
     ·subst h0
      rw [lift0] at hok ⊢
      unfold numP
      rw [hok]
     ·rw [liftE h0] at hok; cases hok
    by_cases hgt : (most : Int) < n8 s
    ·rw [decide_eq_true hgt]
     (conv => whnf); repeat ((first | (apply And.intro;· exact Cl4) | apply T1 | apply T2 | apply T3 | apply T4 | apply T6 | apply T5); conv => whnf)
     exact h 0 b' 5 (.inr ⟨by rw [hlt, if_pos hgt], by decide⟩) (by omega) (by omega) hb' hz' (fun _ => rfl) t'
    ·rw [decide_eq_false hgt]
     (conv => whnf); repeat ((first | (apply And.intro;· exact Cl4) | apply T1 | apply T2 | apply T3 | apply T4 | apply T6 | apply T5); conv => whnf)
     exact h (n8 s) b' 0 (.inl ⟨by rw [hlt, if_neg hgt], rfl⟩) k0 (by omega) hb' hz' (fun h => absurd rfl h) t'
   ·have h1 : (e' == 0) = false := by simpa using he'
    obtain rfl := hse he'
    rw [h1]
    (conv => whnf); repeat ((first | (apply And.intro;· exact Cl4) | apply T1 | apply T2 | apply T3 | apply T4 | apply T6 | apply T5); conv => whnf)
    refine h 0 b' e' (.inr ⟨?_, he'⟩) (by omega) (by omega) hb' hz' (fun _ => rfl) t'
    have hoe := ho.err he'
    by_cases h0 : e = 0
    ·subst h0
     rw [lift0] at hoe ⊢
     unfold numP
     rw [hoe]
    ·rw [liftE h0] at hoe ⊢
     cases hoe
     rfl
end Go.Vc
namespace Go.Vc
open Go Go.Proofs
set_option maxRecDepth 100000
def bindP {α β : Type} (p : Except Int (α × List UInt8)) (f : α → List UInt8 → Except Int (β × List UInt8)) : Except Int (β × List UInt8) :=
 match p with
 | .error e => .error e
 | .ok (a, b) => f a b
theorem lift_bind {α β : Type} (e : Int) (p : Except Int (α × List UInt8)) (f : α → List UInt8 → Except Int (β × List UInt8)) : lift e (bindP p f) = bindP (lift e p) f := by
 unfold lift
 split <;> rfl
theorem OutN.bind {α β : Type} {p : Except Int (α × List UInt8)} {f : α → List UInt8 → Except Int (β × List UInt8)} {a : α} {b1 : List UInt8} {e1 : Int} {c : β} {b2 : List UInt8} {e2 : Int} (h : OutN p a b1 e1) (h2 : OutN (lift e1 (f a b1)) c b2 e2) : OutN (bindP p f) c b2 e2 := by
 rcases h with ⟨rfl, rfl⟩ | ⟨rfl, h1⟩
 ·exact h2
 ·rw [liftE h1] at h2
  rcases h2 with ⟨h, _⟩ | ⟨h, h3⟩
  ·cases h
  ·cases h; exact .inr ⟨rfl, h3⟩
theorem OutN.ret {α : Type} (x : α) (b : List UInt8) (e : Int) : OutN (lift e (.ok (x, b))) x b e := by
 by_cases h : e = 0
 ·subst h; exact .inl ⟨rfl, rfl⟩
 ·exact .inr ⟨liftE h _, h⟩
def listG {α : Type} (f : List UInt8 → Except Int (α × List UInt8)) : Nat → List UInt8 → Except Int (List α × List UInt8)
 | 0, b => .ok ([], b)
 | n + 1, b => bindP (f b) fun v b => bindP (listG f n b) fun l b => .ok (v :: l, b)
def insP (b : List UInt8) : Except Int (IN × List UInt8) := bindP (numP 1 256 b) fun op b => bindP (numP 2 65536 b) fun a b => bindP (numP 2 65536 b) fun c b => .ok (⟨op, a, c⟩, b)
structure ListI {α : Type} (f : List UInt8 → Except Int (α × List UInt8)) (many : Nat) (b0 : List UInt8) (e0 : Int) (l : List α) (b : List UInt8) (e : Int) : Prop where
 le : l.length ≤ many
 eq : lift e0 (listG f many b0) = bindP (lift e (listG f (many - l.length) b)) fun r b => .ok (l ++ r, b)
theorem ListI.zero {α : Type} (f : List UInt8 → Except Int (α × List UInt8)) (many : Nat) (b : List UInt8) (e : Int) : ListI f many b e [] b e := by
 refine ⟨Nat.zero_le _, ?_⟩
 show _ = bindP (lift e (listG f many b)) _
 generalize lift e (listG f many b) = p
 rcases p with _ | ⟨_, _⟩ <;> rfl
theorem ListI.step {α : Type} {f : List UInt8 → Except Int (α × List UInt8)} {many : Nat} {b0 : List UInt8} {e0 : Int} {l : List α} {b : List UInt8} {v : α} {b' : List UInt8} {e' : Int} (h : ListI f many b0 e0 l b 0) (hl : l.length < many) (ho : OutN (f b) v b' e') : ListI f many b0 e0 (l ++ [v]) b' e' := by
 refine ⟨by simp; omega, ?_⟩
 rw [h.eq, show many - l.length = (many - (l ++ [v]).length) + 1 by simp; omega, lift0]
 generalize many - (l ++ [v]).length = n
 rcases ho with ⟨ho, rfl⟩ | ⟨ho, he⟩
 ·rw [lift0, listG, ho]
  show bindP (bindP (listG f n b') _) _ = _
  generalize listG f n b' = p
  rcases p with _ | ⟨r, b2⟩
  ·rfl
  ·show Except.ok (l ++ v :: r, b2) = Except.ok (l ++ [v] ++ r, b2)
   rw [List.append_assoc]; rfl
 ·rw [liftE he, listG, ho]; rfl
theorem ListI.out {α : Type} {f : List UInt8 → Except Int (α × List UInt8)} {many : Nat} {b0 : List UInt8} {e0 : Int} {l : List α} {b : List UInt8} {e : Int} (h : ListI f many b0 e0 l b e) (hd : e ≠ 0 ∨ l.length = many) : OutN (lift e0 (listG f many b0)) l b e := by
 rw [h.eq]
 by_cases he : e = 0
 ·subst he
  have hl := hd.resolve_left (by simp)
  rw [hl, Nat.sub_self, lift0]
  refine .inl ⟨?_, rfl⟩
  show Except.ok (l ++ [], b) = _
  rw [List.append_nil]
 ·rw [liftE he]
  exact .inr ⟨rfl, he⟩
set_option maxHeartbeats 4000000 in
theorem instr_m (z : Nat) (b : List UInt8) (t : Bool) (e : Int) (hz : z = 1 ∨ b = []) (hb : b.length ≤ 1000000000) (Post : PV → List (Nat × Blk) → Prop)
  (h : ∀ x b' e', OutN (lift e (insP b)) x b' e' → i64 x.op ∧ i64 x.a ∧ i64 x.b → b'.length ≤ b.length → (z = 1 ∨ b' = []) → ∀ t', Post (INP x) (tp z b' t' e')) : Spec K 85 [.ptr 0 0] (tp z b t e) Post := by
 refine is85.specW K_ok K_mix false (by simp) (by simp [keys]) ?_
 (conv => whnf); repeat ((first | (apply And.intro;· exact Cl4) | apply T1 | apply T2 | apply T3 | apply T4 | apply T6 | apply T5); conv => whnf)
 refine num_m z b t e 1 256 (by decide) (by decide) hz hb _ (fun n1 b1 e1 o1 p1 q1 hb1 hz1 _ t1 => ?_)
 (conv => whnf); repeat ((first | (apply And.intro;· exact Cl4) | apply T1 | apply T2 | apply T3 | apply T4 | apply T6 | apply T5); conv => whnf)
 refine num_m z b1 t1 e1 2 65536 (by decide) (by decide) hz1 (by omega) _ (fun n2 b2 e2 o2 p2 q2 hb2 hz2 _ t2 => ?_)
 (conv => whnf); repeat ((first | (apply And.intro;· exact Cl4) | apply T1 | apply T2 | apply T3 | apply T4 | apply T6 | apply T5); conv => whnf)
 refine num_m z b2 t2 e2 2 65536 (by decide) (by decide) hz2 (by omega) _ (fun n3 b3 e3 o3 p3 q3 hb3 hz3 _ t3 => ?_)
 (conv => whnf); repeat ((first | (apply And.intro;· exact Cl4) | apply T1 | apply T2 | apply T3 | apply T4 | apply T6 | apply T5); conv => whnf)
 refine h ⟨n1, n2, n3⟩ b3 e3 ?_ (by unfold i64; show (_ ∧ _) ∧ (_ ∧ _) ∧ (_ ∧ _); dsimp only; omega) (by omega) hz3 t3
 unfold insP
 rw [lift_bind]
 refine o1.bind ?_
 rw [lift_bind]
 refine o2.bind ?_
 rw [lift_bind]
 exact o3.bind (.ret _ _ _)
set_option maxHeartbeats 8000000 in
theorem instrs_m (z : Nat) (b : List UInt8) (t : Bool) (e : Int) (many : Nat) (hm : many ≤ 100000) (hz : z = 1 ∨ b = []) (hb : b.length ≤ 1000000000) (Post : PV → List (Nat × Blk) → Prop)
  (h : ∀ l b' e', OutN (lift e (listG insP many b)) l b' e' → l.length ≤ many → (∀ x ∈ l, i64 x.op ∧ i64 x.a ∧ i64 x.b) → b'.length ≤ b.length → (z = 1 ∨ b' = []) → ∀ z' t', (z' = 3 ∨ l = []) → Post (.sl z' (l.map INP) false false) (tp z b' t' e')) :
  Spec K 84 [.ptr 0 0, .int .i64 many, .fn (.func 85) [.ptr 0 0] []] (tp z b t e) Post := by
 refine is84.specN K_ok K_mix false (by simp) (by simp [keys]) ?_
 (conv => whnf); repeat ((first | (apply And.intro;· exact Cl4) | apply T1 | apply T2 | apply T3 | apply T4 | apply T6 | apply T5); conv => whnf)
 refine ⟨List IN × List UInt8 × Int × Bool, fun x => ⟨26, [(7, .int .i64 x.1.length), (6, .ref 3 1 0 x.1.length), (2, .fn (.func 85) [.ptr 0 0] []), (1, .int .i64 many), (0, .ptr 0 0)], [(0, .box [.sl z (bs x.2.1) x.2.2.2 true, .int .i64 x.2.2.1]), (1, .row 69 3 (x.1.map INP) false)], [0]⟩,
  fun x => ListI insP many b e x.1 x.2.1 x.2.2.1 ∧ (∀ y ∈ x.1, i64 y.op ∧ i64 y.a ∧ i64 y.b) ∧ x.2.1.length ≤ b.length ∧ (z = 1 ∨ x.2.1 = []), fun x => many - x.1.length, ⟨[.slot 6 69], ([], b, e, t), ⟨.zero _ _ _ _, fun y hy => (by cases hy), Nat.le_refl _, hz⟩, ?_⟩, fun x hI => ?_⟩
 ·simp [meets, ghosts, ghost, St.le, St.get, St.put, look, keys, PV.labs, labsL, lookB, Blk.labs, fresh]
  exact rfl
 ·obtain ⟨l, b1, e1, t1⟩ := x
  obtain ⟨hI, hx, hb1, hz1⟩ := hI
  have hle := hI.le
  simp only at hI hx hb1 hz1 hle
  have hlm : (l.map INP).length = l.length := List.length_map _
  conv => (arg 5; dsimp only)
  (conv => whnf); repeat ((first | (apply And.intro;· exact Cl4) | apply T1 | apply T2 | apply T3 | apply T4 | apply T6 | apply T5); conv => whnf)
  by_cases hgo : l.length < many ∧ e1 = 0
  ·obtain ⟨hlt, rfl⟩ := hgo
   rw [decide_eq_true (show (l.length : Int) < (many : Int) by omega)]
   (conv => whnf); repeat ((first | (apply And.intro;· exact Cl4) | apply T1 | apply T2 | apply T3 | apply T4 | apply T6 | apply T5); conv => whnf)
   refine instr_m z b1 t1 0 hz1 (by omega) _ (fun x b2 e2 o2 hx2 hb2 hz2 t2 => ?_)
   (conv => whnf); repeat ((first | (apply And.intro;· exact Cl4) | apply T1 | apply T2 | apply T3 | apply T4 | apply T6 | apply T5); conv => whnf)
   refine ⟨by show (l.length + 1) * 25 ≤ _; omega, ?_⟩
   (conv => whnf); repeat ((first | (apply And.intro;· exact Cl4) | apply T1 | apply T2 | apply T3 | apply T4 | apply T6 | apply T5); conv => whnf)
   rw [wrap64 (n := (l.length : Int) + 1) (by omega) (by omega)]
   refine ⟨[], (l ++ [x], b2, e2, t2), ⟨hI.step hlt o2, fun y hy => ?_, by show b2.length ≤ b.length; omega, hz2⟩, by show many - (l ++ [x]).length < many - l.length; rw [List.length_append, List.length_singleton]; omega, ?_⟩
   ·rcases List.mem_append.1 hy with hy | hy
    ·exact hx y hy
    ·obtain rfl := List.mem_singleton.1 hy
     exact hx2
   ·simp [meets, ghosts, St.le, St.get, look, keys, PV.labs, labsL, lookB, Blk.labs, INP]
    exact List.take_of_length_le (by rw [List.length_map]; omega)
  ·have htk : List.take l.length (List.drop 0 (l.map INP)) = l.map INP := by rw [List.drop_zero, List.take_of_length_le (by omega)]
   have hd : e1 ≠ 0 ∨ l.length = many := by
    by_cases he : e1 = 0
    ·exact .inr (by have := fun h => hgo ⟨h, he⟩; omega)
    ·exact .inl he
   by_cases hlt : l.length < many
   ·have he : (e1 == 0) = false := by simpa using hd.resolve_right (by omega)
    rw [decide_eq_true (show (l.length : Int) < (many : Int) by omega)]
    (conv => whnf); repeat ((first | (apply And.intro;· exact Cl4) | apply T1 | apply T2 | apply T3 | apply T4 | apply T6 | apply T5); conv => whnf)
    rw [he]
    (conv => whnf); repeat ((first | (apply And.intro;· exact Cl4) | apply T1 | apply T2 | apply T3 | apply T4 | apply T6 | apply T5); conv => whnf)
    rw [htk]
    exact h l b1 e1 (hI.out hd) hle hx hb1 hz1 3 t1 (.inl rfl)
   ·rw [decide_eq_false (show ¬ (l.length : Int) < (many : Int) by omega)]
    (conv => whnf); repeat ((first | (apply And.intro;· exact Cl4) | apply T1 | apply T2 | apply T3 | apply T4 | apply T6 | apply T5); conv => whnf)
    rw [htk]
    exact h l b1 e1 (hI.out hd) hle hx hb1 hz1 3 t1 (.inl rfl)
end Go.Vc
namespace Go.Vc
open Go Go.Proofs
set_option maxRecDepth 100000
def nameP (b : List UInt8) : Except Int (List UInt8 × List UInt8) := bindP (numP 1 16 b) fun n b => takeP n.toNat b
def codeP (b : List UInt8) : Except Int (List IN × List UInt8) := bindP (numP 2 512 b) fun n b => listG insP n.toNat b
def funP (b : List UInt8) : Except Int (FD × List UInt8) := bindP (nameP b) fun nm b => bindP (numP 1 256 b) fun a b => bindP (numP 1 256 b) fun l b => bindP (codeP b) fun c b => .ok (⟨nm, a, l, c⟩, b)
def fdcN (f : FD) (z : Nat) : List PV := [.str f.name, .int .i64 f.args, .int .i64 f.locals, .sl z (f.code.map INP) false false]
set_option maxHeartbeats 8000000 in
theorem fn_m (z : Nat) (b : List UInt8) (t : Bool) (e : Int) (hz : z = 1 ∨ b = []) (hb : b.length ≤ 1000000000) (Post : PV → List (Nat × Blk) → Prop)
  (h : ∀ f b' e' z' t', OutN (lift e (funP b)) f b' e' → FB f → (z' = 3 ∨ f.code = []) → b'.length ≤ b.length → (z = 1 ∨ b' = []) → Post (.agg (fdcN f z')) (tp z b' t' e')) : Spec K 57 [.ptr 0 0] (tp z b t e) Post := by
 refine is57.specN K_ok K_mix false (by simp) (by simp [keys]) ?_
 (conv => whnf); repeat ((first | (apply And.intro;· exact Cl4) | apply T1 | apply T2 | apply T3 | apply T4 | apply T6 | apply T5); conv => whnf)
 refine num_m z b t e 1 16 (by decide) (by decide) hz hb _ (fun n1 b1 e1 o1 p1 q1 hb1 hz1 _ t1 => ?_)
 obtain ⟨k1, rfl⟩ : ∃ k : Nat, n1 = k := ⟨n1.toNat, by omega⟩
 (conv => whnf); repeat ((first | (apply And.intro;· exact Cl4) | apply T1 | apply T2 | apply T3 | apply T4 | apply T6 | apply T5); conv => whnf)
 refine off2 z b1 t1 e1 k1 hz1 (by omega) (by omega) _ (fun nm b2 e2 o2 hnl _ hb2 hz2 zz t2 hzz => ?_)
 (conv => whnf); repeat ((first | (apply And.intro;· exact Cl4) | apply T1 | apply T2 | apply T3 | apply T4 | apply T6 | apply T5); conv => whnf)
 refine ⟨bs_int _, ?_⟩
 rw [str_bs]
 (conv => whnf); repeat ((first | (apply And.intro;· exact Cl4) | apply T1 | apply T2 | apply T3 | apply T4 | apply T6 | apply T5); conv => whnf)
 refine num_m z b2 t2 e2 1 256 (by decide) (by decide) hz2 (by omega) _ (fun n3 b3 e3 o3 p3 q3 hb3 hz3 _ t3 => ?_)
 (conv => whnf); repeat ((first | (apply And.intro;· exact Cl4) | apply T1 | apply T2 | apply T3 | apply T4 | apply T6 | apply T5); conv => whnf)
 refine num_m z b3 t3 e3 1 256 (by decide) (by decide) hz3 (by omega) _ (fun n4 b4 e4 o4 p4 q4 hb4 hz4 _ t4 => ?_)
 (conv => whnf); repeat ((first | (apply And.intro;· exact Cl4) | apply T1 | apply T2 | apply T3 | apply T4 | apply T6 | apply T5); conv => whnf)
 refine num_m z b4 t4 e4 2 512 (by decide) (by decide) hz4 (by omega) _ (fun n5 b5 e5 o5 p5 q5 hb5 hz5 _ t5 => ?_)
 obtain ⟨k5, rfl⟩ : ∃ k : Nat, n5 = k := ⟨n5.toNat, by omega⟩
 (conv => whnf); repeat ((first | (apply And.intro;· exact Cl4) | apply T1 | apply T2 | apply T3 | apply T4 | apply T6 | apply T5); conv => whnf)
 refine instrs_m z b5 t5 e5 k5 (by omega) hz5 (by omega) _ (fun c b6 e6 o6 hcl hc hb6 hz6 z6 t6 hz6c => ?_)
 (conv => whnf); repeat ((first | (apply And.intro;· exact Cl4) | apply T1 | apply T2 | apply T3 | apply T4 | apply T6 | apply T5); conv => whnf)
 refine h ⟨nm, n3, n4, c⟩ b6 e6 z6 t6 ?_ ⟨by show nm.length ≤ _; omega, by show i64 n3; unfold i64; omega, by show i64 n4; unfold i64; omega, by show c.length ≤ _; omega, hc⟩ hz6c (by omega) hz6
 unfold funP
 rw [lift_bind]
 refine OutN.bind (a := nm) (b1 := b2) (e1 := e2) ?_ ?_
 ·unfold nameP
  rw [lift_bind]
  exact o1.bind (by rw [Int.toNat_natCast]; exact o2)
 rw [lift_bind]
 refine o3.bind ?_
 rw [lift_bind]
 refine o4.bind ?_
 rw [lift_bind]
 refine OutN.bind (a := c) (b1 := b6) (e1 := e6) ?_ (.ret _ _ _)
 unfold codeP
 rw [lift_bind]
 exact o5.bind (by rw [Int.toNat_natCast]; exact o6)
theorem FPs_snoc : ∀ {l : List FD} {lp : List PV} {v : FD} {p : PV}, FPs l lp → FP v p → FPs (l ++ [v]) (lp ++ [p])
 | [], lp, v, p, h, hv => by
  simp only [FPs] at h
  subst h
  exact ⟨p, [], rfl, hv, rfl⟩
 | w :: r, lp, v, p, h, hv => by
  simp only [FPs] at h
  obtain ⟨q, lq, rfl, h1, h2⟩ := h
  exact ⟨q, lq ++ [p], rfl, h1, FPs_snoc h2 hv⟩
set_option maxHeartbeats 8000000 in
theorem funs_m (z : Nat) (b : List UInt8) (t : Bool) (e : Int) (many : Nat) (hm : many ≤ 100000) (hz : z = 1 ∨ b = []) (hb : b.length ≤ 1000000000) (Post : PV → List (Nat × Blk) → Prop)
  (h : ∀ l L b' e', OutN (lift e (listG funP many b)) l b' e' → l.length ≤ many → FPs l L → (∀ f ∈ l, FB f) → b'.length ≤ b.length → (z = 1 ∨ b' = []) → ∀ z' t', (z' = 4 ∨ l = []) → Post (.sl z' L false false) (tp z b' t' e')) :
  Spec K 56 [.ptr 0 0, .int .i64 many, .fn (.func 57) [.ptr 0 0] []] (tp z b t e) Post := by
 refine is56.specN K_ok K_mix false (by simp) (by simp [keys]) ?_
 (conv => whnf); repeat ((first | (apply And.intro;· exact Cl4) | apply T1 | apply T2 | apply T3 | apply T4 | apply T6 | apply T5); conv => whnf)
 refine ⟨List FD × List PV × List UInt8 × Int × Bool, fun x => ⟨26, [(7, .int .i64 x.1.length), (6, .ref 4 1 0 x.1.length), (2, .fn (.func 57) [.ptr 0 0] []), (1, .int .i64 many), (0, .ptr 0 0)], [(0, .box [.sl z (bs x.2.2.1) x.2.2.2.2 true, .int .i64 x.2.2.2.1]), (1, .row 55 4 x.2.1 false)], [0]⟩,
  fun x => ListI funP many b e x.1 x.2.2.1 x.2.2.2.1 ∧ FPs x.1 x.2.1 ∧ (∀ y ∈ x.1, FB y) ∧ x.2.2.1.length ≤ b.length ∧ (z = 1 ∨ x.2.2.1 = []), fun x => many - x.1.length, ⟨[.slot 6 55], ([], [], b, e, t), ⟨.zero _ _ _ _, rfl, fun y hy => (by cases hy), Nat.le_refl _, hz⟩, ?_⟩, fun x hI => ?_⟩
 ·simp [meets, ghosts, ghost, St.le, St.get, St.put, look, keys, PV.labs, labsL, lookB, Blk.labs, fresh, updB]
  exact rfl
 ·obtain ⟨l, L, b1, e1, t1⟩ := x
  obtain ⟨hI, hL, hx, hb1, hz1⟩ := hI
  have hle := hI.le
  simp only at hI hL hx hb1 hz1 hle
  have hlm := FPs_len hL
  conv => (arg 5; dsimp only)
  (conv => whnf); repeat ((first | (apply And.intro;· exact Cl4) | apply T1 | apply T2 | apply T3 | apply T4 | apply T6 | apply T5); conv => whnf)
  by_cases hgo : l.length < many ∧ e1 = 0
  ·obtain ⟨hlt, rfl⟩ := hgo
   rw [decide_eq_true (show (l.length : Int) < (many : Int) by omega)]
   (conv => whnf); repeat ((first | (apply And.intro;· exact Cl4) | apply T1 | apply T2 | apply T3 | apply T4 | apply T6 | apply T5); conv => whnf)
   refine fn_m z b1 t1 0 hz1 (by omega) _ (fun f b2 e2 z2 t2 o2 hf2 hzc2 hb2 hz2 => ?_)
   (conv => whnf); repeat ((first | (apply And.intro;· exact Cl4) | apply T1 | apply T2 | apply T3 | apply T4 | apply T6 | apply T5); conv => whnf)
   refine ⟨by show (l.length + 1) * 57 ≤ _; omega, ?_⟩
   (conv => whnf); repeat ((first | (apply And.intro;· exact Cl4) | apply T1 | apply T2 | apply T3 | apply T4 | apply T6 | apply T5); conv => whnf)
   rw [wrap64 (n := (l.length : Int) + 1) (by omega) (by omega)]
   refine ⟨[], (l ++ [f], L ++ [.agg (fdcN f z2)], b2, e2, t2), ⟨hI.step hlt o2, FPs_snoc hL ⟨z2, false, false, rfl, hzc2⟩, fun y hy => ?_, by show b2.length ≤ b.length; omega, hz2⟩, by show many - (l ++ [f]).length < many - l.length; rw [List.length_append, List.length_singleton]; omega, ?_⟩
   ·rcases List.mem_append.1 hy with hy | hy
    ·exact hx y hy
    ·obtain rfl := List.mem_singleton.1 hy
     exact hf2
   ·have htk : List.take l.length L = L := List.take_of_length_le (by omega)
    simp [meets, ghosts, St.le, St.get, look, keys, PV.labs, labsL, lookB, Blk.labs, fdcN, htk]
  ·have htk : List.take l.length (List.drop 0 L) = L := by rw [List.drop_zero, List.take_of_length_le (by omega)]
   have hd : e1 ≠ 0 ∨ l.length = many := by
    by_cases he : e1 = 0
    ·exact .inr (by have := fun h => hgo ⟨h, he⟩; omega)
    ·exact .inl he
   by_cases hlt : l.length < many
   ·have he : (e1 == 0) = false := by simpa using hd.resolve_right (by omega)
    rw [decide_eq_true (show (l.length : Int) < (many : Int) by omega)]
    (conv => whnf); repeat ((first | (apply And.intro;· exact Cl4) | apply T1 | apply T2 | apply T3 | apply T4 | apply T6 | apply T5); conv => whnf)
    rw [he]
    (conv => whnf); repeat ((first | (apply And.intro;· exact Cl4) | apply T1 | apply T2 | apply T3 | apply T4 | apply T6 | apply T5); conv => whnf)
    rw [htk]
    exact h l L b1 e1 (hI.out hd) hle hL hx hb1 hz1 4 t1 (.inl rfl)
   ·rw [decide_eq_false (show ¬ (l.length : Int) < (many : Int) by omega)]
    (conv => whnf); repeat ((first | (apply And.intro;· exact Cl4) | apply T1 | apply T2 | apply T3 | apply T4 | apply T6 | apply T5); conv => whnf)
    rw [htk]
    exact h l L b1 e1 (hI.out hd) hle hL hx hb1 hz1 4 t1 (.inl rfl)
theorem take_len {b : List UInt8} {v : V} {r : List UInt8} (h : takeV b = .ok (v, r)) : bulkV v + r.length ≤ b.length := by
 unfold takeV at h
 split at h
 ·cases h
 ·rename_i v' r' hp
  split at h
  ·cases h; exact parse_bulk _ _ _ _ hp
  ·cases h
set_option maxHeartbeats 8000000 in
theorem value_m (z : Nat) (b : List UInt8) (t : Bool) (hz : z = 1 ∨ b = []) (hb : b.length ≤ 1000000000) (Post : PV → List (Nat × Blk) → Prop)
  (h : ∀ v b' e' t' z1 lp z2 z', OutN (takeV b) v b' e' → VO v z1 lp z2 → bulkV v ≤ b.length + 10 → b'.length ≤ b.length → (z' = 1 ∨ b' = []) → Post (.agg (vcN v z1 lp z2)) (tp z' b' t' e')) : Spec K 55 [.ptr 0 0] (tp z b t 0) Post := by
 refine is55.specN K_ok K_mix false (by simp) (by simp [keys]) ?_
 (conv => whnf); repeat ((first | (apply And.intro;· exact Cl4) | apply T1 | apply T2 | apply T3 | apply T4 | apply T6 | apply T5); conv => whnf)
 refine takeV_p b z t hz hb _ (fun v r e z1 lp z2 z' hv hz' ho => ?_)
 (conv => whnf); repeat ((first | (apply And.intro;· exact Cl4) | apply T1 | apply T2 | apply T3 | apply T4 | apply T6 | apply T5); conv => whnf)
 rcases ho with ⟨ho, rfl⟩ | ⟨ho, he, rfl, rfl⟩
 ·have := take_len ho
  exact h v r 0 false z1 lp z2 z' (.inl ⟨ho, rfl⟩) hv (by omega) (by omega) hz'
 ·exact h V0 [] e false z1 lp z2 z' (.inr ⟨ho, he⟩) hv (Nat.le_trans (show bulkV V0 ≤ 10 by decide) (by omega)) (by simp) hz'
set_option maxHeartbeats 8000000 in
theorem values_m (z : Nat) (b : List UInt8) (t : Bool) (e : Int) (many : Nat) (hm : many ≤ 100000) (hz : z = 1 ∨ b = []) (hb : b.length ≤ 1000000000) (Post : PV → List (Nat × Blk) → Prop)
  (h : ∀ l L b' e', OutN (lift e (listG takeV many b)) l b' e' → l.length ≤ many → VPs l L → (∀ v ∈ l, i64 v.n ∧ bulkV v ≤ b.length + 10) → b'.length ≤ b.length → ∀ z' z2 t', (z' = 5 ∨ l = []) → (z2 = 1 ∨ b' = []) → Post (.sl z' L false false) (tp z2 b' t' e')) :
  Spec K 54 [.ptr 0 0, .int .i64 many, .fn (.func 55) [.ptr 0 0] []] (tp z b t e) Post := by
 refine is54.specN K_ok K_mix false (by simp) (by simp [keys]) ?_
 (conv => whnf); repeat ((first | (apply And.intro;· exact Cl4) | apply T1 | apply T2 | apply T3 | apply T4 | apply T6 | apply T5); conv => whnf)
 refine ⟨List V × List PV × List UInt8 × Int × Bool × Nat, fun x => ⟨26, [(7, .int .i64 x.1.length), (6, .ref 5 1 0 x.1.length), (2, .fn (.func 55) [.ptr 0 0] []), (1, .int .i64 many), (0, .ptr 0 0)], [(0, .box [.sl x.2.2.2.2.2 (bs x.2.2.1) x.2.2.2.2.1 true, .int .i64 x.2.2.2.1]), (1, .row 58 5 x.2.1 false)], [0]⟩,
  fun x => ListI takeV many b e x.1 x.2.2.1 x.2.2.2.1 ∧ VPs x.1 x.2.1 ∧ (∀ y ∈ x.1, i64 y.n ∧ bulkV y ≤ b.length + 10) ∧ x.2.2.1.length ≤ b.length ∧ (x.2.2.2.2.2 = 1 ∨ x.2.2.1 = []), fun x => many - x.1.length, ⟨[.slot 6 58], ([], [], b, e, t, z), ⟨.zero _ _ _ _, rfl, fun y hy => (by cases hy), Nat.le_refl _, hz⟩, ?_⟩, fun x hI => ?_⟩
 ·simp [meets, ghosts, ghost, St.le, St.get, St.put, look, keys, PV.labs, labsL, lookB, Blk.labs, fresh, updB]
  exact rfl
 ·obtain ⟨l, L, b1, e1, t1, z1⟩ := x
  obtain ⟨hI, hL, hx, hb1, hz1⟩ := hI
  have hle := hI.le
  simp only at hI hL hx hb1 hz1 hle
  have hlm := VPs_len hL
  conv => (arg 5; dsimp only)
  (conv => whnf); repeat ((first | (apply And.intro;· exact Cl4) | apply T1 | apply T2 | apply T3 | apply T4 | apply T6 | apply T5); conv => whnf)
  by_cases hgo : l.length < many ∧ e1 = 0
  ·obtain ⟨hlt, rfl⟩ := hgo
   rw [decide_eq_true (show (l.length : Int) < (many : Int) by omega)]
   (conv => whnf); repeat ((first | (apply And.intro;· exact Cl4) | apply T1 | apply T2 | apply T3 | apply T4 | apply T6 | apply T5); conv => whnf)
   refine value_m z1 b1 t1 hz1 (by omega) _ (fun v b2 e2 t2 y1 lp y2 z2 o2 hv hbv hb2 hz2 => ?_)
   (conv => whnf); repeat ((first | (apply And.intro;· exact Cl4) | apply T1 | apply T2 | apply T3 | apply T4 | apply T6 | apply T5); conv => whnf)
   refine ⟨by show (l.length + 1) * 81 ≤ _; omega, ?_⟩
   (conv => whnf); repeat ((first | (apply And.intro;· exact Cl4) | apply T1 | apply T2 | apply T3 | apply T4 | apply T6 | apply T5); conv => whnf)
   rw [wrap64 (n := (l.length : Int) + 1) (by omega) (by omega)]
   refine ⟨[], (l ++ [v], L ++ [.agg (vcN v y1 lp y2)], b2, e2, t2, z2), ⟨hI.step hlt o2, VPs_snoc hL hv.vpN, fun y hy => ?_, by show b2.length ≤ b.length; omega, hz2⟩, by show many - (l ++ [v]).length < many - l.length; rw [List.length_append, List.length_singleton]; omega, ?_⟩
   ·rcases List.mem_append.1 hy with hy | hy
    ·exact hx y hy
    ·obtain rfl := List.mem_singleton.1 hy
     exact ⟨hv.n, by omega⟩
   ·have htk : List.take l.length L = L := List.take_of_length_le (by omega)
    simp [meets, ghosts, St.le, St.get, look, keys, PV.labs, labsL, lookB, Blk.labs, vcN, htk]
  ·have htk : List.take l.length (List.drop 0 L) = L := by rw [List.drop_zero, List.take_of_length_le (by omega)]
   have hd : e1 ≠ 0 ∨ l.length = many := by
    by_cases he : e1 = 0
    ·exact .inr (by have := fun h => hgo ⟨h, he⟩; omega)
    ·exact .inl he
   by_cases hlt : l.length < many
   ·have he : (e1 == 0) = false := by simpa using hd.resolve_right (by omega)
    rw [decide_eq_true (show (l.length : Int) < (many : Int) by omega)]
    (conv => whnf); repeat ((first | (apply And.intro;· exact Cl4) | apply T1 | apply T2 | apply T3 | apply T4 | apply T6 | apply T5); conv => whnf)
    rw [he]
    (conv => whnf); repeat ((first | (apply And.intro;· exact Cl4) | apply T1 | apply T2 | apply T3 | apply T4 | apply T6 | apply T5); conv => whnf)
    rw [htk]
    exact h l L b1 e1 (hI.out hd) hle hL hx hb1 5 z1 t1 (.inl rfl) hz1
   ·rw [decide_eq_false (show ¬ (l.length : Int) < (many : Int) by omega)]
    (conv => whnf); repeat ((first | (apply And.intro;· exact Cl4) | apply T1 | apply T2 | apply T3 | apply T4 | apply T6 | apply T5); conv => whnf)
    rw [htk]
    exact h l L b1 e1 (hI.out hd) hle hL hx hb1 5 z1 t1 (.inl rfl) hz1
end Go.Vc
namespace Go.Vc
open Go Go.Proofs
set_option maxRecDepth 100000
def verP (b : List UInt8) : Except Int (Unit × List UInt8) := bindP (numP 1 256 b) fun n b => if n = 1 then .ok ((), b) else .error 4
def valsP (b : List UInt8) : Except Int (List V × List UInt8) := bindP (numP 2 256 b) fun n b => listG takeV n.toNat b
def funsP (b : List UInt8) : Except Int (List FD × List UInt8) := bindP (numP 1 16 b) fun n b => listG funP n.toNat b
def partsP (b : List UInt8) : Except Int ((List V × List FD) × List UInt8) := bindP (verP b) fun _ b => bindP (valsP b) fun cs b => bindP (funsP b) fun fs b => .ok ((cs, fs), b)
def progP (b : List UInt8) : Except Int PG :=
 match partsP b with
 | .error e => .error e
 | .ok ((cs, fs), r) => if r ≠ [] then .error 4 else if chkM ⟨fs, cs⟩ ≠ 0 then .error (chkM ⟨fs, cs⟩) else .ok ⟨fs, cs⟩
set_option maxHeartbeats 16000000 in
theorem parse_specN (hF : FitsC) (b : List UInt8) (z : Nat) (t : Bool) (hz : z = 1 ∨ b = []) (hb : b.length ≤ 100000000) (Post : PV → List (Nat × Blk) → Prop)
  (h0 : ∀ e, progP b = .error e → e ≠ 0 → Post (.tup [.agg [.sl 0 [] false false, .sl 0 [] false false], .int .i64 e]) [])
  (h1 : ∀ p lf lc z1 z2, progP b = .ok p → PGA p z1 lf z2 lc → Post (.tup [.agg [.sl z1 lf false false, .sl z2 lc false false], .int .i64 0]) []) : Spec K 23 [.sl z (bs b) t true] [] Post := by
 refine is23.specCN [18, 48, 56, 67] K_ok K_mix false (by simp) (by simp [keys]) ?_
 (conv => whnf); repeat ((first | (apply And.intro;· exact Cl4) | apply T1 | apply T2 | apply T3 | apply T4 | apply T6 | apply T5); conv => whnf)
 refine num_m z b t 0 1 256 (by decide) (by decide) hz (by omega) _ (fun n1 b1 e1 o1 p1 q1 hb1 hz1 _ t1 => ?_)
 have hver : ∃ e2, OutN (verP b) () b1 e2 ∧ e2 = (if e1 = 0 ∧ n1 ≠ 1 then 4 else e1) := by
  refine ⟨_, ?_, rfl⟩
  unfold verP
  refine OutN.bind o1 ?_
  by_cases he : e1 = 0
  ·subst he
   rw [lift0]
   by_cases hn : n1 = 1
   ·subst hn; exact .inl ⟨rfl, rfl⟩
   ·rw [if_neg hn, if_pos ⟨rfl, hn⟩]; exact .inr ⟨rfl, by decide⟩
  ·rw [liftE he, if_neg (fun h => he h.1)]; exact .inr ⟨rfl, he⟩
 obtain ⟨e2, o2, he2⟩ := hver
 (conv => whnf); repeat ((first | (apply And.intro;· exact Cl4) | apply T1 | apply T2 | apply T3 | apply T4 | apply T6 | apply T5); conv => whnf)
 refine ⟨Unit, fun _ => ⟨73, [(4, .ptr 1 0), (5, .ptr 2 0), (2, .ptr 0 0)], [(1, .box [.sl z (bs b1) t1 true, .int .i64 e2]), (2, .box [.sl 0 [] true false, .sl 0 [] true false]), (0, .box [.sl 0 [] true false, .sl 0 [] true false])], []⟩, fun _ => True, ?_, fun _ _ => ?_⟩
 ·by_cases hc : e1 = 0 ∧ n1 ≠ 1
  ·rw [if_pos hc] at he2
   obtain ⟨rfl, hn⟩ := hc
   subst he2
   refine Both.T (by simp [hn]) ?_
   (conv => whnf); repeat ((first | (apply And.intro;· exact Cl4) | apply T1 | apply T2 | apply T3 | apply T4 | apply T6 | apply T5); conv => whnf)
   refine ⟨[], (), trivial, ?_⟩
   simp [meets, ghosts, St.le, St.get, look, keys, PV.labs, labsL, lookB, Blk.labs]
  ·rw [if_neg hc] at he2
   subst he2
   refine Both.F (by
    by_cases hn : n1 = 1
    ·simp [hn]
    ·have : e2 ≠ 0 := fun h => hc ⟨h, hn⟩
     simp [this]) ?_
   (conv => whnf); repeat ((first | (apply And.intro;· exact Cl4) | apply T1 | apply T2 | apply T3 | apply T4 | apply T6 | apply T5); conv => whnf)
   refine ⟨[], (), trivial, ?_⟩
   simp [meets, ghosts, St.le, St.get, look, keys, PV.labs, labsL, lookB, Blk.labs]
 conv => (arg 4; dsimp only)
 (conv => whnf); repeat ((first | (apply And.intro;· exact Cl4) | apply T1 | apply T2 | apply T3 | apply T4 | apply T6 | apply T5); conv => whnf)
 refine num_m z b1 t1 e2 2 256 (by decide) (by decide) hz1 (by omega) _ (fun n3 b3 e3 o3 p3 q3 hb3 hz3 _ t3 => ?_)
 obtain ⟨k3, rfl⟩ : ∃ k : Nat, n3 = k := ⟨n3.toNat, by omega⟩
 (conv => whnf); repeat ((first | (apply And.intro;· exact Cl4) | apply T1 | apply T2 | apply T3 | apply T4 | apply T6 | apply T5); conv => whnf)
 refine values_m z b3 t3 e3 k3 (by omega) hz3 (by omega) _ (fun cs lc b4 e4 o4 hl4 hcs hcb hb4 zc z4 t4 hzc hz4 => ?_)
 (conv => whnf); repeat ((first | (apply And.intro;· exact Cl4) | apply T1 | apply T2 | apply T3 | apply T4 | apply T6 | apply T5); conv => whnf)
 refine num_m z4 b4 t4 e4 1 16 (by decide) (by decide) hz4 (by omega) _ (fun n5 b5 e5 o5 p5 q5 hb5 hz5 _ t5 => ?_)
 obtain ⟨k5, rfl⟩ : ∃ k : Nat, n5 = k := ⟨n5.toNat, by omega⟩
 (conv => whnf); repeat ((first | (apply And.intro;· exact Cl4) | apply T1 | apply T2 | apply T3 | apply T4 | apply T6 | apply T5); conv => whnf)
 refine funs_m z4 b5 t5 e5 k5 (by omega) hz5 (by omega) _ (fun fs lf b6 e6 o6 hl6 hfs hfb hb6 hz6 zf t6 hzf => ?_)
 have hparts : OutN (partsP b) (cs, fs) b6 e6 := by
  unfold partsP
  refine o2.bind ?_
  rw [lift_bind]
  refine OutN.bind (a := cs) (b1 := b4) (e1 := e4) ?_ ?_
  ·unfold valsP
   rw [lift_bind]
   exact o3.bind (by rw [Int.toNat_natCast]; exact o4)
  ·rw [lift_bind]
   refine OutN.bind (a := fs) (b1 := b6) (e1 := e6) ?_ (.ret _ _ _)
   unfold funsP
   rw [lift_bind]
   exact o5.bind (by rw [Int.toNat_natCast]; exact o6)
 have hp : PGA ⟨fs, cs⟩ zf lf zc lc := ⟨hfs, hcs, hzf, hzc, by show fs.length ≤ _; omega, by show cs.length ≤ _; omega, hfb, fun v hv => ⟨(hcb v hv).1, by have := (hcb v hv).2; omega⟩⟩
 obtain ⟨e7, he7⟩ : ∃ e7, e7 = if e6 = 0 ∧ b6 ≠ [] then 4 else e6 := ⟨_, rfl⟩
 obtain ⟨e8, he8⟩ : ∃ e8, e8 = if e7 = 0 then chkM ⟨fs, cs⟩ else e7 := ⟨_, rfl⟩
 have hprog : (e8 ≠ 0 → progP b = .error e8) ∧ (e8 = 0 → progP b = .ok ⟨fs, cs⟩) := by
  unfold progP
  by_cases h6 : e6 = 0
  ·subst h6
   rw [hparts.ok]
   by_cases hb6e : b6 = []
   ·rw [if_neg (fun h => h.2 hb6e)] at he7
    subst he7
    rw [if_pos rfl] at he8
    subst he8
    dsimp only
    rw [if_neg (fun h => h hb6e)]
    exact ⟨fun h => if_pos h, fun h => if_neg (fun hc => hc h)⟩
   ·rw [if_pos ⟨rfl, hb6e⟩] at he7
    subst he7
    rw [if_neg (by decide)] at he8
    subst he8
    dsimp only
    rw [if_pos hb6e]
    exact ⟨fun _ => rfl, fun h => by cases h⟩
  ·rw [hparts.err h6]
   rw [if_neg (fun h => h6 h.1)] at he7
   subst he7
   rw [if_neg h6] at he8
   subst he8
   exact ⟨fun _ => rfl, fun h => absurd h h6⟩
 (conv => whnf); repeat ((first | (apply And.intro;· exact Cl4) | apply T1 | apply T2 | apply T3 | apply T4 | apply T6 | apply T5); conv => whnf)
 refine ⟨Unit, fun _ => ⟨73, [(4, .ptr 1 0), (5, .ptr 2 0), (2, .ptr 0 0)], [(1, .box [.sl z4 (bs b6) t6 true, .int .i64 e7]), (2, .box [.sl zf lf false false, .sl zc lc false false]), (0, .box [.sl 0 [] true false, .sl 0 [] true false])], []⟩, fun _ => True, ?_, fun _ _ => ?_⟩
 ·rw [bs_len]
  by_cases hc : e6 = 0 ∧ b6 ≠ []
  ·rw [if_pos hc] at he7
   obtain ⟨rfl, hn⟩ := hc
   have hpos : 0 < b6.length := List.length_pos_iff.2 hn
   rw [decide_eq_true (show (0 : Int) < (b6.length : Int) by omega)]
   (conv => whnf); repeat ((first | (apply And.intro;· exact Cl4) | apply T1 | apply T2 | apply T3 | apply T4 | apply T6 | apply T5); conv => whnf)
   refine ⟨[], (), trivial, ?_⟩
   subst he7
   simp [meets, ghosts, St.le, St.get, look, keys, PV.labs, labsL, lookB, Blk.labs]
  ·rw [if_neg hc] at he7
   refine Both.F (by
    by_cases h6 : e6 = 0
    ·have : b6 = [] := by
      by_cases hbe : b6 = []
      ·exact hbe
      ·exact absurd ⟨h6, hbe⟩ hc
     subst this
     simp
    ·simp [h6]) ?_
   (conv => whnf); repeat ((first | (apply And.intro;· exact Cl4) | apply T1 | apply T2 | apply T3 | apply T4 | apply T6 | apply T5); conv => whnf)
   refine ⟨[], (), trivial, ?_⟩
   subst he7
   simp [meets, ghosts, St.le, St.get, look, keys, PV.labs, labsL, lookB, Blk.labs]
 conv => (arg 4; dsimp only)
 (conv => whnf); repeat ((first | (apply And.intro;· exact Cl4) | apply T1 | apply T2 | apply T3 | apply T4 | apply T6 | apply T5); conv => whnf)
 refine ⟨Unit, fun _ => ⟨73, [(4, .ptr 1 0), (5, .ptr 2 0), (2, .ptr 0 0)], [(1, .box [.sl z4 (bs b6) t6 true, .int .i64 e8]), (2, .box [.sl zf lf false false, .sl zc lc false false]), (0, .box [.sl 0 [] true false, .sl 0 [] true false])], []⟩, fun _ => True, ?_, fun _ _ => ?_⟩
 ·by_cases h7 : e7 = 0
  ·rw [if_pos h7] at he8
   refine Both.T (by simp [h7]) ?_
   (conv => whnf); repeat ((first | (apply And.intro;· exact Cl4) | apply T1 | apply T2 | apply T3 | apply T4 | apply T6 | apply T5); conv => whnf)
   refine chk_spec hF ⟨fs, cs⟩ zf lf _ zc lc _ hp _ ?_
   (conv => whnf); repeat ((first | (apply And.intro;· exact Cl4) | apply T1 | apply T2 | apply T3 | apply T4 | apply T6 | apply T5); conv => whnf)
   refine ⟨[], (), trivial, ?_⟩
   rw [← he8]
   simp [meets, ghosts, St.le, St.get, look, keys, PV.labs, labsL, lookB, Blk.labs]
  ·rw [if_neg h7] at he8
   refine Both.F (by simp [h7]) ?_
   (conv => whnf); repeat ((first | (apply And.intro;· exact Cl4) | apply T1 | apply T2 | apply T3 | apply T4 | apply T6 | apply T5); conv => whnf)
   refine ⟨[], (), trivial, ?_⟩
   subst he8
   simp [meets, ghosts, St.le, St.get, look, keys, PV.labs, labsL, lookB, Blk.labs]
 conv => (arg 4; dsimp only)
 (conv => whnf); repeat ((first | (apply And.intro;· exact Cl4) | apply T1 | apply T2 | apply T3 | apply T4 | apply T6 | apply T5); conv => whnf)
 by_cases h8 : e8 = 0
 ·refine Both.F (by simp [h8]) ?_
  (conv => whnf); repeat ((first | (apply And.intro;· exact Cl4) | apply T1 | apply T2 | apply T3 | apply T4 | apply T6 | apply T5); conv => whnf)
  exact h1 ⟨fs, cs⟩ lf lc zf zc (hprog.2 h8) hp
 ·refine Both.T (by simp [h8]) ?_
  (conv => whnf); repeat ((first | (apply And.intro;· exact Cl4) | apply T1 | apply T2 | apply T3 | apply T4 | apply T6 | apply T5); conv => whnf)
  refine ⟨Unit, fun _ => ⟨73, [(3, .int .i64 e8), (2, .ptr 0 0)], [(0, .box [.sl 0 [] true false, .sl 0 [] true false])], []⟩, fun _ => True, ?_, fun _ _ => ?_⟩
  ·(conv => whnf); repeat' (first | ((first | (apply And.intro;· exact Cl4) | apply T1 | apply T2 | apply T3 | apply T4 | apply T6 | apply T5); conv => whnf) | (fail; conv => whnf) | ((refine Both.mk ?_ ?_ <;> fail_if_success (intro _)) <;> conv => whnf))
   all_goals (
    refine ⟨[], (), trivial, ?_⟩
    simp [meets, ghosts, St.le, St.get, look, keys, PV.labs, labsL, lookB, Blk.labs])
  conv => (arg 4; dsimp only)
  (conv => whnf); repeat ((first | (apply And.intro;· exact Cl4) | apply T1 | apply T2 | apply T3 | apply T4 | apply T6 | apply T5); conv => whnf)
  exact h0 e8 (hprog.1 h8) h8
theorem parse_spec (hF : FitsC) (b : List UInt8) (z : Nat) (t : Bool) (hz : z = 1 ∨ b = []) (hb : b.length ≤ 100000000) (Post : PV → List (Nat × Blk) → Prop)
  (h0 : ∀ e, progP b = .error e → e ≠ 0 → Post (.tup [.agg [.sl 0 [] false true, .sl 0 [] false true], .int .i64 e]) [])
  (h1 : ∀ p lf lc z1 z2, progP b = .ok p → PGA p z1 lf z2 lc → Post (.tup [.agg (pgc z1 lf false z2 lc false), .int .i64 0]) []) : Spec K 23 [.sl z (bs b) t true] [] Post :=
 Spec.weak (parse_specN hF b z t hz hb _ (fun e he hne => by rw [force2_eq]; exact h0 e he hne) (fun p lf lc z1 z2 hp hpa => by rw [force2_eq]; exact h1 p lf lc z1 z2 hp hpa))
end Go.Vc
