/- What is proved here: contracts of functions of the program: of each function what it hands back and what it leaves in memory. Conditions: those that each theorem names. -/
import Derived.Test.YtmbopgmllnijjaaCg
import Derived.Test.YtmbopgmllnijjaaCc
import Derived.Test.YtmbopgmllnijjaaCb
set_option linter.unusedVariables false
set_option linter.unusedSimpArgs false
set_option linter.unusedSectionVars false
namespace Go.Vc
open Go Go.Proofs
set_option maxRecDepth 100000
/-! What is written is read; what is read is so written. -/
theorem take_small {n : Int} (h0 : 0 ≤ n) (h1 : n ≤ 255) : n8 [ub n] = n := by
  rw [n8_eq]
  have := ub_small h0 (by omega : n < 256)
  have e : ((horner 0 [ub n] : Nat) : Int) = n := by simp [horner]; omega
  rw [e, wrap64 (by omega) (by omega)]
theorem take_two {n : Int} (h0 : 0 ≤ n) (h1 : n ≤ 65535) : n8 (twoB n) = n := by
  rw [n8_eq]
  have a := ub_toNat (n / 256)
  have b := ub_toNat n
  have e : ((horner 0 (twoB n) : Nat) : Int) = n := by
    simp [twoB, horner]
    omega
  rw [e, wrap64 (by omega) (by omega)]
theorem num1_enc {most : Nat} {n : Int} (h0 : 0 ≤ n) (h1 : n ≤ 255) (h2 : n ≤ most) : Enc (numP 1 most) n [ub n] := by
  refine (takeP_enc [ub n]).map (fun b r h => ?_) (fun b h => ?_)
  · unfold numP
    rw [show (1 : Nat) = [ub n].length from rfl, h]
    dsimp only
    rw [take_small h0 h1, if_neg (by omega)]
  · unfold numP
    rw [show (1 : Nat) = [ub n].length from rfl, h]
theorem num2_enc {most : Nat} {n : Int} (h0 : 0 ≤ n) (h1 : n ≤ 65535) (h2 : n ≤ most) : Enc (numP 2 most) n (twoB n) := by
  refine (takeP_enc (twoB n)).map (fun b r h => ?_) (fun b h => ?_)
  · unfold numP
    rw [show (2 : Nat) = (twoB n).length from rfl, h]
    dsimp only
    rw [take_two h0 h1, if_neg (by omega)]
  · unfold numP
    rw [show (2 : Nat) = (twoB n).length from rfl, h]
theorem Enc.bd {α β : Type} {p : List UInt8 → Except Int (α × List UInt8)} {q : List UInt8 → Except Int (β × List UInt8)} (f : α → List UInt8 → Except Int (β × List UInt8)) {a : α} {c : β} {w w' : List UInt8} (hq : ∀ b, q b = bindP (p b) f) (h1 : Enc p a w) (h2 : Enc (f a) c w') : Enc q c (w ++ w') :=
  (h1.bind h2).congr fun b => by
    rw [hq]; unfold bindP thenP
    cases p b <;> rfl
theorem Enc.bd0 {α β : Type} {p : List UInt8 → Except Int (α × List UInt8)} {q : List UInt8 → Except Int (β × List UInt8)} (g : α → β) {a : α} {w : List UInt8} (hq : ∀ b, q b = bindP (p b) fun x b => .ok (g x, b)) (h1 : Enc p a w) : Enc q (g a) w := by
  have := Enc.bd (fun x b => .ok (g x, b)) hq h1 (.pure (g a))
  rwa [List.append_nil] at this
theorem listG_enc {α : Type} {f : List UInt8 → Except Int (α × List UInt8)} {w : α → List UInt8} : ∀ (l : List α), (∀ x ∈ l, Enc f x (w x)) → Enc (listG f l.length) l (l.flatMap w)
  | [], _ => .pure []
  | x :: r, h => Enc.bd (p := f) (fun v b => bindP (listG f r.length b) fun l b => .ok (v :: l, b)) (fun b => rfl) (h x (by simp)) (Enc.bd0 (p := listG f r.length) (fun l => x :: l) (fun b => rfl) (listG_enc r fun y hy => h y (by simp [hy])))
theorem ins_enc {x : IN} (h0 : 0 ≤ x.op ∧ x.op ≤ 255) (h1 : 0 ≤ x.a ∧ x.a ≤ 65535) (h2 : 0 ≤ x.b ∧ x.b ≤ 65535) : Enc insP x (insB x) := by
  have e3 : Enc (fun b => bindP (numP 2 65536 b) fun c b => .ok ((⟨x.op, x.a, c⟩ : IN), b)) x (twoB x.b) := Enc.bd0 (p := numP 2 65536) (fun c => (⟨x.op, x.a, c⟩ : IN)) (fun b => rfl) (num2_enc h2.1 h2.2 (by omega))
  have e2 := Enc.bd (p := numP 2 65536) (q := fun b => bindP (numP 2 65536 b) fun a b => bindP (numP 2 65536 b) fun c b => .ok ((⟨x.op, a, c⟩ : IN), b)) _ (fun b => rfl) (num2_enc h1.1 h1.2 (by omega)) e3
  exact Enc.bd (p := numP 1 256) (q := insP) _ (fun b => rfl) (num1_enc h0.1 h0.2 (by omega)) e2
theorem name_enc {s : List UInt8} (h : s.length ≤ 16) : Enc nameP s (ub s.length :: s) :=
  Enc.bd (p := numP 1 16) (q := nameP) (fun n b => takeP n.toNat b) (fun b => rfl) (num1_enc (n := s.length) (by omega) (by omega) (by omega)) (by rw [Int.toNat_natCast]; exact takeP_enc s)
theorem code_enc {c : List IN} (h : c.length ≤ 512) (hi : ∀ x ∈ c, Enc insP x (insB x)) : Enc codeP c (twoB c.length ++ c.flatMap insB) :=
  Enc.bd (p := numP 2 512) (q := codeP) (fun n b => listG insP n.toNat b) (fun b => rfl) (num2_enc (n := c.length) (by omega) (by omega) (by omega)) (by rw [Int.toNat_natCast]; exact listG_enc c hi)
theorem fun_enc {f : FD} (hn : f.name.length ≤ 16) (ha : 0 ≤ f.args ∧ f.args ≤ 255) (hl : 0 ≤ f.locals ∧ f.locals ≤ 255) (hc : f.code.length ≤ 512) (hi : ∀ x ∈ f.code, Enc insP x (insB x)) : Enc funP f (funB f) := by
  have e4 : Enc (fun b => bindP (codeP b) fun c b => .ok ((⟨f.name, f.args, f.locals, c⟩ : FD), b)) f _ := Enc.bd0 (p := codeP) (fun c => (⟨f.name, f.args, f.locals, c⟩ : FD)) (fun b => rfl) (code_enc hc hi)
  have e3 := Enc.bd (p := numP 1 256) (q := fun b => bindP (numP 1 256 b) fun l b => bindP (codeP b) fun c b => .ok ((⟨f.name, f.args, l, c⟩ : FD), b)) _ (fun b => rfl) (num1_enc hl.1 hl.2 (by omega)) e4
  have e2 := Enc.bd (p := numP 1 256) (q := fun b => bindP (numP 1 256 b) fun a b => bindP (numP 1 256 b) fun l b => bindP (codeP b) fun c b => .ok ((⟨f.name, a, l, c⟩ : FD), b)) _ (fun b => rfl) (num1_enc ha.1 ha.2 (by omega)) e3
  have e1 := Enc.bd (p := nameP) (q := funP) _ (fun b => rfl) (name_enc hn) e2
  have e : funB f = (ub f.name.length :: f.name) ++ ([ub f.args] ++ ([ub f.locals] ++ (twoB f.code.length ++ f.code.flatMap insB))) := by simp [funB, headB]
  rw [e]
  exact e1
theorem parts_enc {p : PG} (hc : p.consts.length ≤ 256) (hf : p.funcs.length ≤ 16) (hv : ∀ v ∈ p.consts, Enc takeV v (writeV v)) (hg : ∀ f ∈ p.funcs, Enc funP f (funB f)) : Enc partsP (p.consts, p.funcs) (bytesM p) := by
  have e0 : Enc verP () ([ub 1] ++ []) := Enc.bd (p := numP 1 256) (q := verP) (fun n b => if n = 1 then .ok ((), b) else .error 4) (fun b => rfl) (num1_enc (n := 1) (by decide) (by decide) (by decide)) (.pure ())
  have e1 : Enc valsP p.consts (twoB p.consts.length ++ p.consts.flatMap writeV) := Enc.bd (p := numP 2 256) (q := valsP) (fun n b => listG takeV n.toNat b) (fun b => rfl) (num2_enc (n := p.consts.length) (by omega) (by omega) (by omega)) (by rw [Int.toNat_natCast]; exact listG_enc _ hv)
  have e2 : Enc funsP p.funcs ([ub p.funcs.length] ++ p.funcs.flatMap funB) := Enc.bd (p := numP 1 16) (q := funsP) (fun n b => listG funP n.toNat b) (fun b => rfl) (num1_enc (n := p.funcs.length) (by omega) (by omega) (by omega)) (by rw [Int.toNat_natCast]; exact listG_enc _ hg)
  have a2 := Enc.bd0 (p := funsP) (q := fun b => bindP (funsP b) fun fs b => .ok ((p.consts, fs), b)) (fun fs => (p.consts, fs)) (fun b => rfl) e2
  have a1 := Enc.bd (p := valsP) (q := fun b => bindP (valsP b) fun cs b => bindP (funsP b) fun fs b => .ok ((cs, fs), b)) _ (fun b => rfl) e1 a2
  have a0 := Enc.bd (p := verP) (q := partsP) _ (fun b => rfl) e0 a1
  have e : bytesM p = [ub 1] ++ [] ++ ((twoB p.consts.length ++ p.consts.flatMap writeV) ++ ([ub p.funcs.length] ++ p.funcs.flatMap funB)) := by simp [bytesM, bytesI, constsB, List.take_length]; rfl
  rw [e]
  exact a0
end Go.Vc
namespace Go.Vc
open Go Go.Proofs
set_option maxRecDepth 100000
theorem textM_b {p : PG} {n : Int} (h : (textM p n).2 = true) : 0 ≤ n ∧ n < p.consts.length := by
  unfold textM at h
  split at h
  · rename_i h0
    split at h
    · rename_i v hv
      have := (List.getElem?_eq_some_iff.1 hv).1
      exact ⟨h0, by omega⟩
    · cases h
  · cases h
theorem namedM_b {p : PG} {n : Int} (h : namedM p n = true) : 0 ≤ n ∧ n < p.consts.length := by
  unfold namedM at h
  rw [Bool.and_eq_true] at h
  exact textM_b h.1
theorem inB_b {n : Int} {m : Nat} (h : inB n m = true) : 0 ≤ n ∧ n < m := by
  unfold inB at h
  simpa using h
theorem ask_b {p : PG} {x : IN} (h : askM p x = true) : (0 ≤ x.a ∧ x.a ≤ 8) ∧ (0 ≤ x.b ∧ (x.b = 0 ∨ x.b < p.consts.length)) := by
  unfold askM at h
  split at h
  · have := namedM_b h
    omega
  · split at h
    · simp only [Bool.and_eq_true] at h
      have := textM_b h.1.1
      omega
    · split at h
      · have : x.b = 0 := by simpa using h
        omega
      · cases h
theorem ins_b {p : PG} {f : FD} {x : IN} (hc : p.consts.length ≤ 256) (hf : p.funcs.length ≤ 16) (hcode : f.code.length ≤ 512) (hl : f.locals ≤ 32) (h : insM p f x = true) : (1 ≤ x.op ∧ x.op ≤ 31) ∧ (0 ≤ x.a ∧ x.a ≤ 600) ∧ (0 ≤ x.b ∧ x.b ≤ 600) := by
  unfold insM at h
  simp only [Bool.and_eq_true, Bool.or_eq_true, decide_eq_true_eq, beq_iff_eq] at h
  obtain ⟨⟨⟨h1, h2⟩, h3⟩, h4⟩ := h
  refine ⟨⟨h1, h2⟩, ?_⟩
  have key : (0 ≤ x.a ∧ x.a ≤ 600) ∧ (x.op = 31 → 0 ≤ x.b ∧ x.b ≤ 600) := by
    unfold operandM at h4
    split at h4
    · have := inB_b h4; exact ⟨by omega, by omega⟩
    split at h4
    · simp only [Bool.and_eq_true, decide_eq_true_eq] at h4; exact ⟨by omega, by omega⟩
    split at h4
    · simp only [Bool.and_eq_true, decide_eq_true_eq] at h4; exact ⟨by omega, by omega⟩
    split at h4
    · simp only [Bool.and_eq_true] at h4; have := inB_b h4.1; exact ⟨by omega, by omega⟩
    split at h4
    · have := namedM_b h4; exact ⟨by omega, by omega⟩
    split at h4
    · simp only [Bool.and_eq_true] at h4; have := textM_b h4.1; exact ⟨by omega, by omega⟩
    split at h4
    · have := inB_b h4; exact ⟨by omega, by omega⟩
    split at h4
    · have := inB_b h4; exact ⟨by omega, by omega⟩
    split at h4
    · have := ask_b h4; exact ⟨by omega, fun _ => by omega⟩
    · have : x.a = 0 := by simpa using h4
      rename_i h31
      exact ⟨by omega, fun h => absurd h h31⟩
  refine ⟨key.1, ?_⟩
  rcases h3 with h3 | h3
  · omega
  · exact key.2 h3
theorem name_b {s : List UInt8} (h : nameM s = true) : s.length ≤ 16 := by
  unfold nameM mayV at h
  have ha := (okV_iff.1 h).2
  simp only [allV, Bool.and_eq_true] at ha
  have ho := ha.1
  simp [ownB] at ho
  exact rise_len (ns := [s]) (last := []) (by simp_all) s (by simp)
theorem head_b {p : PG} {f : FD} (h : headM p f = true) : f.name.length ≤ 16 ∧ (0 ≤ f.args ∧ f.args ≤ 8) ∧ (0 ≤ f.locals ∧ f.locals ≤ 32) ∧ 0 < f.code.length := by
  unfold headM at h
  simp only [Bool.and_eq_true, decide_eq_true_eq] at h
  obtain ⟨⟨⟨⟨⟨⟨_, h1⟩, h2⟩, h3⟩, h4⟩, h5⟩, h6⟩ := h
  exact ⟨name_b h1, ⟨h2, h3⟩, ⟨by omega, h5⟩, h6⟩
theorem prog_enc {p : PG} (hc : chkM p = 0) (hn : nVs p.consts) : Enc partsP (p.consts, p.funcs) (bytesM p) := by
  have hm := chk_may hc
  obtain ⟨h256, hv⟩ := chk_consts hc
  refine parts_enc h256 hm.few (fun v hvm => takeV_enc (hv v hvm) (nVs_mem hn hvm)) (fun f hf => ?_)
  obtain ⟨b1, b2, b3, _⟩ := head_b (hm.head f hf)
  have hcl := hm.len f hf
  refine fun_enc b1 (by omega) (by omega) hcl fun x hx => ?_
  obtain ⟨c1, c2, c3⟩ := ins_b h256 hm.few hcl b3.2 (hm.ins f hf x hx)
  exact ins_enc (by omega) (by omega) (by omega)
/-- What is written is read as it was. -/
theorem prog_back {p : PG} (hc : chkM p = 0) (hn : nVs p.consts) : progP (bytesM p) = .ok p := by
  unfold progP
  rw [(prog_enc hc hn).inv1]
  dsimp only
  rw [if_neg (by simp), if_neg (by simp [hc])]
theorem prog_cut {p : PG} (hc : chkM p = 0) (hn : nVs p.consts) {k : Nat} (hk : k < (bytesM p).length) : progP ((bytesM p).take k) = .error 3 := by
  unfold progP
  rw [(prog_enc hc hn).2 k hk]
theorem prog_more {p : PG} (hc : chkM p = 0) (hn : nVs p.consts) : progP (bytesM p ++ [0]) = .error 4 := by
  unfold progP
  rw [(prog_enc hc hn).1 [0]]
  dsimp only
  rw [if_pos (by simp)]
end Go.Vc
namespace Go.Vc
open Go Go.Proofs
set_option maxRecDepth 100000
theorem bind_ok {α β : Type} {p : Except Int (α × List UInt8)} {f : α → List UInt8 → Except Int (β × List UInt8)} {c : β} {r : List UInt8} (h : bindP p f = .ok (c, r)) : ∃ a r', p = .ok (a, r') ∧ f a r' = .ok (c, r) := by
  unfold bindP at h
  split at h
  · cases h
  · exact ⟨_, _, rfl, h⟩
theorem num_inv15 {size most : Nat} {b : List UInt8} {n : Int} {r : List UInt8} (h : numP size most b = .ok (n, r)) : ∃ s, b = s ++ r ∧ s.length = size ∧ n = n8 s := by
  unfold numP at h
  split at h
  · cases h
  · rename_i s r' ht
    split at h
    · cases h
    · cases h
      obtain ⟨h1, h2⟩ := takeP_ok ht
      exact ⟨s, h1, h2, rfl⟩
theorem num1_inv {most : Nat} {b : List UInt8} {n : Int} {r : List UInt8} (h : numP 1 most b = .ok (n, r)) : b = ub n :: r ∧ 0 ≤ n ∧ n ≤ 255 := by
  obtain ⟨s, hb, hl, hn⟩ := num_inv15 h
  match s, hl with
  | [c], _ =>
    have e : n = c.toNat := by
      have := c.toNat_lt
      rw [hn, n8_eq]
      have e : ((horner 0 [c] : Nat) : Int) = c.toNat := by simp [horner]
      rw [e, wrap64 (by omega) (by omega)]
    have := c.toNat_lt
    subst e
    rw [ub_of]
    exact ⟨hb, by omega, by omega⟩
theorem num2_inv {most : Nat} {b : List UInt8} {n : Int} {r : List UInt8} (h : numP 2 most b = .ok (n, r)) : b = twoB n ++ r ∧ 0 ≤ n ∧ n ≤ 65535 := by
  obtain ⟨s, hb, hl, hn⟩ := num_inv15 h
  match s, hl with
  | [c, d], _ =>
    have hc := c.toNat_lt
    have hd := d.toNat_lt
    have e : n = c.toNat * 256 + d.toNat := by
      rw [hn, n8_eq]
      have e : ((horner 0 [c, d] : Nat) : Int) = c.toNat * 256 + d.toNat := by simp [horner]
      rw [e, wrap64 (by omega) (by omega)]
    have e1 : ub (n / 256) = c := by
      rw [show n / 256 = (c.toNat : Int) by omega, ub_of]
    have e2 : ub n = d := by
      apply UInt8.toNat.inj
      have := ub_toNat n
      omega
    refine ⟨?_, by omega, by omega⟩
    rw [hb, twoB, e1, e2]
theorem listG_inv {α : Type} {f : List UInt8 → Except Int (α × List UInt8)} {w : α → List UInt8} (hf : ∀ b v r, f b = .ok (v, r) → b = w v ++ r) : ∀ (n : Nat) (b : List UInt8) (l : List α) (r : List UInt8), listG f n b = .ok (l, r) → b = l.flatMap w ++ r ∧ l.length = n
  | 0, b, l, r, h => by cases h; exact ⟨rfl, rfl⟩
  | n + 1, b, l, r, h => by
    simp only [listG] at h
    obtain ⟨v, b1, h1, h⟩ := bind_ok h
    obtain ⟨l', b2, h2, h⟩ := bind_ok h
    cases h
    obtain ⟨e, hl⟩ := listG_inv hf n b1 l' r h2
    refine ⟨?_, by simp [hl]⟩
    rw [hf _ _ _ h1, e]
    simp
theorem ins_inv (b : List UInt8) (x : IN) (r : List UInt8) (h : insP b = .ok (x, r)) : b = insB x ++ r := by
  unfold insP at h
  obtain ⟨op, b1, h1, h⟩ := bind_ok h
  obtain ⟨a, b2, h2, h⟩ := bind_ok h
  obtain ⟨c, b3, h3, h⟩ := bind_ok h
  cases h
  rw [(num1_inv h1).1, (num2_inv h2).1, (num2_inv h3).1]
  simp [insB]
theorem fun_inv (b : List UInt8) (f : FD) (r : List UInt8) (h : funP b = .ok (f, r)) : b = funB f ++ r := by
  unfold funP at h
  obtain ⟨nm, b1, h1, h⟩ := bind_ok h
  obtain ⟨a, b2, h2, h⟩ := bind_ok h
  obtain ⟨l, b3, h3, h⟩ := bind_ok h
  obtain ⟨c, b4, h4, h⟩ := bind_ok h
  cases h
  unfold nameP at h1
  obtain ⟨n, b5, h5, h1⟩ := bind_ok h1
  obtain ⟨e5, n0, n1⟩ := num1_inv h5
  obtain ⟨e6, l6⟩ := takeP_ok h1
  unfold codeP at h4
  obtain ⟨m, b7, h7, h4⟩ := bind_ok h4
  obtain ⟨e7, m0, m1⟩ := num2_inv h7
  obtain ⟨e8, l8⟩ := listG_inv ins_inv _ _ _ _ h4
  have en : n = (nm.length : Int) := by omega
  have em : m = (c.length : Int) := by omega
  rw [e5, e6, (num1_inv h2).1, (num1_inv h3).1, e7, e8, en, em]
  simp [funB, headB]
theorem parts_inv {b : List UInt8} {cs : List V} {fs : List FD} {r : List UInt8} (h : partsP b = .ok ((cs, fs), r)) : b = bytesM ⟨fs, cs⟩ ++ r := by
  unfold partsP at h
  obtain ⟨_, b1, h1, h⟩ := bind_ok h
  obtain ⟨cs', b2, h2, h⟩ := bind_ok h
  obtain ⟨fs', b3, h3, h⟩ := bind_ok h
  cases h
  unfold verP at h1
  obtain ⟨v, b4, h4, h1⟩ := bind_ok h1
  split at h1
  · rename_i hv
    subst hv
    cases h1
    unfold valsP at h2
    obtain ⟨n, b5, h5, h2⟩ := bind_ok h2
    obtain ⟨e5, n0, n1⟩ := num2_inv h5
    obtain ⟨e6, l6⟩ := listG_inv (w := writeV) (fun b v r h => takeV_inv h) _ _ _ _ h2
    unfold funsP at h3
    obtain ⟨m, b7, h7, h3⟩ := bind_ok h3
    obtain ⟨e7, m0, m1⟩ := num1_inv h7
    obtain ⟨e8, l8⟩ := listG_inv fun_inv _ _ _ _ h3
    have en : n = (cs.length : Int) := by omega
    have em : m = (fs.length : Int) := by omega
    rw [(num1_inv h4).1, e5, e6, e7, e8, en, em]
    simp [bytesM, bytesI, constsB, List.take_length]
    rfl
  · cases h1
/-- What is read is written so. -/
theorem prog_again {b : List UInt8} {p : PG} (h : progP b = .ok p) : chkM p = 0 ∧ bytesM p = b := by
  unfold progP at h
  split at h
  · cases h
  · rename_i cs fs r hp
    split at h
    · cases h
    · rename_i hr
      have hr : r = [] := by
        by_cases hr' : r = []
        · exact hr'
        · exact absurd hr' hr
      split at h
      · cases h
      · rename_i hc
        cases h
        subst hr
        have := parts_inv hp
        rw [List.append_nil] at this
        refine ⟨?_, this.symm⟩
        by_cases hc' : chkM ⟨fs, cs⟩ = 0
        · exact hc'
        · exact absurd hc' hc
end Go.Vc
