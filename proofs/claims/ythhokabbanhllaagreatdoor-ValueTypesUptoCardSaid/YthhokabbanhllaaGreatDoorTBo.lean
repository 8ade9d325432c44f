/- What is proved here: contracts of functions of the program: of each function what it hands back and what it leaves in memory. Conditions: those that each theorem names. -/
import Derived.Lib.ConvBytes
import Derived.Test.YthhokabbanhllaaGreatDoorTBn
import Derived.Test.YthhokabbanhllaaGreatDoorTBk
set_option linter.unusedVariables false
set_option linter.unusedSimpArgs false
set_option linter.unusedSectionVars false
namespace Go.Proofs
open Go.Shelf Go.RowKit
set_option linter.unusedVariables false
structure Bld (B b : Nat) (bs : List Value) (p v : Value) (w : World) : Prop where
 hB : B ≤ b
 at_ : w.heap[b]? = some (.cells #[p, v] 99 (0, 0))
 own : w.ownsRow B 5 1 v bs.length bs
 ne : v.ownBlock ≠ some b
theorem Bld.lt {B b : Nat} {bs : List Value} {p v : Value} {w : World} (h : Bld B b bs p v w) : b < w.heap.size := by
 rcases Nat.lt_or_ge b w.heap.size with h' | h'
 ·exact h'
 ·have := h.at_; simp [Array.getElem?_eq_none h'] at this
set_option maxHeartbeats 2000000 in
set_option maxRecDepth 100000 in
theorem bld_check {B b : Nat} {bs : List Value} {p v : Value} {w : World} (h : Bld B b bs p v w) (hp : p = .pointer none ∨ p = .pointer (some ⟨b, 0, none⟩)) :
  Calls Tryz.prog 105 #[.pointer (some ⟨b, 0, none⟩)] w fun e w' => e = .returned (.tuple #[]) ∧ Bld B b bs (.pointer (some ⟨b, 0, none⟩)) v w' ∧ Below B w w' ∧ (∀ j, j ≠ b → w'.heap[j]? = w.heap[j]?) ∧ w'.heap.size = w.heap.size := by
 rcases hp with rfl | rfl
 ·have h0 : w.cell? ⟨b, 0, none⟩ = some (.pointer none) := by rw [Lib.cell_of_heap h.at_]; rfl
  have hsh : w.shape? b = some (99, 2) := by simp [World.shape?, h.at_]
  refine (Any.Builder_copyCheck_fresh Tryz.lays240 Tryz.Builder_X72_240 b w h0 hsh (Lib.frozen_of_heap h.at_ 0)).mono ?_
  rintro e w' ⟨rfl, rfl⟩
  have hb2 : (w.setCell ⟨b, 0, none⟩ (.pointer (some ⟨b, 0, none⟩))).heap[b]? = some (.cells #[.pointer (some ⟨b, 0, none⟩), v] 99 (0, 0)) := by
   simp [World.setCell, Array.getElem?_modify, h.at_]
  have ho : ∀ j, j ≠ b → (w.setCell ⟨b, 0, none⟩ (.pointer (some ⟨b, 0, none⟩))).heap[j]? = w.heap[j]? := fun j hj => Below.heap_setCell w _ _ j hj
  refine ⟨rfl, ⟨h.hB, hb2, ?_, h.ne⟩, (Below.refl B w).setCell (p := ⟨b, 0, none⟩) h.hB _, ho, by simp [World.setCell]⟩
  refine ⟨h.own.1, ?_⟩
  rcases h.own.2 with hv | ⟨g, cap, cur, hv, g1, g2, g3, g4, g5, g6⟩
  ·exact .inl hv
  ·refine .inr ⟨g, cap, cur, hv, g1, ?_, g3, g4, g5, g6⟩
   rw [ho g (fun e => h.ne (by rw [hv, ← e]; rfl))]; exact g2
 ·have h0 : w.cell? ⟨b, 0, none⟩ = some (.pointer (some ⟨b, 0, none⟩)) := by rw [Lib.cell_of_heap h.at_]; rfl
  refine (Any.Builder_copyCheck_used Tryz.lays240 Tryz.Builder_X72_240 b w h0).mono ?_
  rintro e w' ⟨rfl, rfl⟩
  exact ⟨rfl, h, Below.refl B _, fun _ _ => rfl, rfl⟩
set_option maxHeartbeats 4000000 in
set_option maxRecDepth 100000 in
theorem bld_write {B b : Nat} {bs : List Value} {p v : Value} {w : World} (h : Bld B b bs p v w) (hp : p = .pointer none ∨ p = .pointer (some ⟨b, 0, none⟩)) (c : Int) (hlen : bs.length ≤ 1000000000) :
  Calls Tryz.prog 93 #[.pointer (some ⟨b, 0, none⟩), .int .u8 c] w fun e w' => e = .returned .nilIface ∧ (∃ v', Bld B b (bs ++ [.int .u8 c]) (.pointer (some ⟨b, 0, none⟩)) v' w' ∧ ∀ k, k < w.heap.size → k ≠ b → v.ownBlock ≠ some k → v'.ownBlock ≠ some k ∧ w'.heap[k]? = w.heap[k]?) ∧ Below B w w' ∧ w.heap.size ≤ w'.heap.size := by
 have hbs : B ≤ w.heap.size := Nat.le_of_lt (Nat.lt_of_le_of_lt h.hB h.lt)
 obtain ⟨i0, hi, hz0, hz1, hz2⟩ := info_parts (P := Tryz.prog) (e := 5) (z := .int .u8 0) (size := 1) (bytes := 1) (by kernel_rfl)
 have e78 : ∀ args w, (callFunc 105 args).run Tryz.prog w = .ok (.enter 105 args) w := enters_of Tryz.func105 (by kernel_rfl) rfl
 go_enter Tryz.func93, Tryz.ntmps93
 go_wp2_with (go_at_call 105; refine (bld_check h hp).mono ?_)
 rintro e w1 ⟨rfl, h1, hb1, hot, hsz⟩
 have HS : Hid (w1.heap.size = w.heap.size) := hsz
 have HO : Hid (∀ j, j ≠ b → w1.heap[j]? = w.heap[j]?) := hot
 clear hsz hot
 have c0 : w1.cell? ⟨b, 0, none⟩ = some (.pointer (some ⟨b, 0, none⟩)) := by rw [Lib.cell_of_heap h1.at_]; rfl
 have c1 : w1.cell? ⟨b, 1, none⟩ = some v := by rw [Lib.cell_of_heap h1.at_]; rfl
 go_wp2_with (at_builtin; refine wpList_append_lies _ rfl _ _ 33 rfl B 5 i0 (.int .u8 0) 1 1 Tryz.underlying33 hi hz0 hz1 hz2 rfl (by decide) v bs.length bs rfl (h1.own.alloc _) ⟨w1.heap.size, 0, none⟩ 1 1 [.int .u8 c] rfl rfl ?c1 ?c2 (by decide) ?c3 ?c4 ?c5 _ rfl ?_)
 case c1 =>
  intro j u hj
  match j, hj with
  | 0, hj => simp at hj; subst hj; simp [Addr.add]
 case c2 => intro u hu; simp at hu; subst hu; rfl
 case c3 => unfold maxLen; omega
 case c4 => omega
 case c5 => have := HS.out; simp; omega
 intro g cap w2 hown' hgrow hlies hgl
 have hsz := HS.out
 have hot := HO.out
 clear HS HO
 have hlt := h1.lt
 have hb2 : w2.heap[b]? = some (.cells #[.pointer (some ⟨b, 0, none⟩), v] 99 (0, 0)) := by
  rw [hgrow.block b (by simp; omega) (fun e => h1.ne e.symm), Lib.alloc_old w1 _ b hlt]
  exact h1.at_
 have hk2 : ∀ k, k < w.heap.size → k ≠ b → v.ownBlock ≠ some k → w2.heap[k]? = w.heap[k]? := fun k hk hkb hnk => by
  rw [hgrow.block k (by simp; omega) (fun e => hnk e.symm), Lib.alloc_old w1 _ k (by omega)]
  exact hot k hkb
 have d0 : w2.cell? ⟨b, 0, none⟩ = some (.pointer (some ⟨b, 0, none⟩)) := by rw [Lib.cell_of_heap hb2]; rfl
 have d1 : w2.cell? ⟨b, 1, none⟩ = some v := by rw [Lib.cell_of_heap hb2]; rfl
 have f1 : w2.frozen? ⟨b, 1, none⟩ = false := Lib.frozen_of_heap hb2 1
 have hg2 := hgrow.size
 simp only [World.size_alloc] at hg2 hlies
 have HG : Hid (w1.heap.size + 1 ≤ w2.heap.size) := hg2
 have HL : Hid (v.ownBlock = some g ∨ g = w1.heap.size + 1) := hlies
 have HK : Hid (∀ k, k < w.heap.size → k ≠ b → v.ownBlock ≠ some k → w2.heap[k]? = w.heap[k]?) := hk2
 have HZ : Hid (w1.heap.size = w.heap.size) := hsz
 clear hg2 hlies hk2 hsz hot
 go_wp2
 go_ret
 have hsz := HZ.out
 have hlies := HL.out
 have hg2 := HG.out
 have hbg : g ≠ b := fun e => by
  rcases hlies with h' | h'
  ·exact h1.ne (by rw [h', e])
  ·omega
 have hot : ∀ j, j ≠ b → (w2.setCell ⟨b, 1, none⟩ (.slice (some ⟨g, 0, none⟩) (bs.length + 1) cap)).heap[j]? = w2.heap[j]? := fun j hj => Below.heap_setCell w2 _ _ j hj
 refine ⟨rfl, ⟨.slice (some ⟨g, 0, none⟩) (bs.length + 1) cap, ⟨h.hB, ?_, ?_, ?_⟩, ?_⟩, ?_, ?_⟩
 ·simp [World.setCell, Array.getElem?_modify, hb2]
 ·rw [show (bs ++ [Value.int .u8 c]).length = bs.length + 1 by simp]
  refine ⟨hown'.1, ?_⟩
  rcases hown'.2 with hv | ⟨g', cap', cur, hv, g1, g2, g3, g4, g5, g6⟩
  ·exact .inl hv
  ·refine .inr ⟨g', cap', cur, hv, g1, ?_, g3, g4, g5, g6⟩
   cases hv
   rw [hot g hbg]; exact g2
 ·intro e; exact hbg (Option.some.inj e)
 ·intro k hk hkb hnk
  refine ⟨fun e => ?_, by rw [hot k hkb]; exact HK.out k hk hkb hnk⟩
  have e : g = k := Option.some.inj e
  rcases hlies with h' | h'
  ·exact hnk (by rw [h', e])
  ·omega
 ·exact ((hb1.alloc (by omega) _).grown hgrow (by simp; omega) (fun j hj => (h1.own.lt j hj).1)).setCell (p := ⟨b, 1, none⟩) h.hB _
 ·simp only [World.setCell, Array.size_modify]; omega
theorem bytes_len (s : ByteArray) : s.data.toList.length = s.size := by rw [Array.length_toList]; rfl
def QLoop (s : ByteArray) (w w1 : World) (s10 : Value) (wr : World) : Prop :=
 ∃ (i : Nat) (v : Value), s10 = .int .i64 i ∧ i ≤ s.data.toList.length ∧ Bld w.heap.size w.heap.size (Lib.byteCells (34 :: (s.data.toList.take i).flatMap Go.Vc.quoC)) (.pointer (some ⟨w.heap.size, 0, none⟩)) v wr ∧ v.ownBlock ≠ some w1.heap.size ∧
  wr.heap[w1.heap.size]? = (Lib.bytesWorld w1 5 s).heap[w1.heap.size]? ∧ w1.heap.size < wr.heap.size ∧ Below w.heap.size w wr
theorem dig : ∀ (n : Nat) (_ : n < 16) (h : n < (ByteArray.mk #[48, 49, 50, 51, 52, 53, 54, 55, 56, 57, 97, 98, 99, 100, 101, 102]).size), (ByteArray.mk #[48, 49, 50, 51, 52, 53, 54, 55, 56, 57, 97, 98, 99, 100, 101, 102])[n] = Go.Vc.hexD n
 | 0, _, _ => rfl | 1, _, _ => rfl | 2, _, _ => rfl | 3, _, _ => rfl | 4, _, _ => rfl | 5, _, _ => rfl | 6, _, _ => rfl | 7, _, _ => rfl
 | 8, _, _ => rfl | 9, _, _ => rfl | 10, _, _ => rfl | 11, _, _ => rfl | 12, _, _ => rfl | 13, _, _ => rfl | 14, _, _ => rfl | 15, _, _ => rfl
 | n + 16, h, _ => absurd h (by omega)
theorem qround {s : ByteArray} {w w1 w' : World} {i : Nat} {v' : Value} {c : UInt8} (hix : i < s.data.toList.length) (hcc : s.data.toList.getD i 0 = c) {x : List Value} (hx : x = Lib.byteCells (34 :: (s.data.toList.take i).flatMap Go.Vc.quoC) ++ Lib.byteCells (Go.Vc.quoC c))
  (h : Bld w.heap.size w.heap.size x (.pointer (some ⟨w.heap.size, 0, none⟩)) v' w') (hv : v'.ownBlock ≠ some w1.heap.size) (hk : w'.heap[w1.heap.size]? = (Lib.bytesWorld w1 5 s).heap[w1.heap.size]?) (hkl : w1.heap.size < w'.heap.size) (hbw : Below w.heap.size w w') :
  QLoop s w w1 (.int .i64 (i + 1)) w' ∧ s.data.toList.length - (intOf (.int .i64 (i + 1))).toNat < s.data.toList.length - (intOf (.int .i64 i)).toNat := by
 refine ⟨⟨i + 1, v', rfl, hix, ?_, hv, hk, hkl, hbw⟩, by simp only [intOf]; omega⟩
 have ht : s.data.toList.take (i + 1) = s.data.toList.take i ++ [c] := by
  rw [List.take_add_one, List.getElem?_eq_getElem hix]
  rw [List.getD_eq_getElem?_getD, List.getElem?_eq_getElem hix] at hcc
  rw [← hcc]; rfl
 rw [ht, List.flatMap_append, show 34 :: (List.flatMap Go.Vc.quoC (s.data.toList.take i) ++ List.flatMap Go.Vc.quoC [c]) = (34 :: List.flatMap Go.Vc.quoC (s.data.toList.take i)) ++ Go.Vc.quoC c by simp, Lib.byteCells_append, ← hx]
 exact h
theorem qcases (c : UInt8) : (32 ≤ (c.toNat : Int) ∧ (c.toNat : Int) ≤ 126 ∧ ((c.toNat : Int) != 34) = true ∧ ((c.toNat : Int) != 92) = true ∧ Go.Vc.escB c = false) ∨ Go.Vc.escB c = true ∧ (¬ 32 ≤ (c.toNat : Int) ∨ 32 ≤ (c.toNat : Int) ∧ ¬ (c.toNat : Int) ≤ 126 ∨ (32 ≤ (c.toNat : Int) ∧ (c.toNat : Int) ≤ 126) ∧ ((c.toNat : Int) != 34) = false ∨ (32 ≤ (c.toNat : Int) ∧ (c.toNat : Int) ≤ 126 ∧ ((c.toNat : Int) != 34) = true) ∧ ((c.toNat : Int) != 92) = false) := by
 have e34 : ((c.toNat : Int) != 34) = !(c.toNat == 34) := by
  have : ((c.toNat : Int) == 34) = (c.toNat == 34) := by rw [Bool.eq_iff_iff]; simp; omega
  rw [bne, this]
 have e92 : ((c.toNat : Int) != 92) = !(c.toNat == 92) := by
  have : ((c.toNat : Int) == 92) = (c.toNat == 92) := by rw [Bool.eq_iff_iff]; simp; omega
  rw [bne, this]
 rw [e34, e92]
 unfold Go.Vc.escB
 by_cases h1 : c.toNat < 32
 ·exact .inr ⟨by simp [h1], .inl (by omega)⟩
 by_cases h2 : 126 < c.toNat
 ·exact .inr ⟨by simp [h2], .inr (.inl ⟨by omega, by omega⟩)⟩
 by_cases h3 : c.toNat = 34
 ·exact .inr ⟨by simp [h3], .inr (.inr (.inl ⟨⟨by omega, by omega⟩, by simp [h3]⟩))⟩
 by_cases h4 : c.toNat = 92
 ·exact .inr ⟨by simp [h4], .inr (.inr (.inr ⟨⟨by omega, by omega, by simp [h3]⟩, by simp [h4]⟩))⟩
 ·exact .inl ⟨by omega, by omega, by simp [h3], by simp [h4], by simp [h1, h2, h3, h4]⟩
theorem quo_len (l : List UInt8) : (l.flatMap Go.Vc.quoC).length ≤ 3 * l.length := by
 induction l with
 | nil => simp
 | cons c r ih =>
  rw [List.flatMap_cons, List.length_append, List.length_cons]
  have : (Go.Vc.quoC c).length ≤ 3 := by unfold Go.Vc.quoC; split <;> simp
  omega
set_option maxHeartbeats 8000000 in
set_option maxRecDepth 100000 in
theorem quoted_walk (s : ByteArray) (w : World) (hs : s.size ≤ 1000000) :
  Calls Tryz.prog 77 #[.string s] w fun e w' => e = .returned (.string ⟨(Go.Vc.quoT s.data.toList).toArray⟩) ∧ Below w.heap.size w w' := by
 go_enter Tryz.func77, Tryz.ntmps77
 have hf : Bld w.heap.size w.heap.size [] (.pointer none) (.slice none 0 0) (w.alloc (.cells #[.pointer none, .slice none 0 0] 99)) :=
  ⟨Nat.le_refl _, heap_alloc_new w _, World.ownsRow_nil _ _ _ _, by simp [Value.ownBlock]⟩
 go_wp2_with (go_at_call 93; refine (bld_write hf (.inl rfl) 34 (by decide)).mono ?_)
 rintro e w1 ⟨rfl, ⟨v1, h1, hk1⟩, hb1, hz1⟩
 go_wp2
 rw [Lib.run_convert_string_bytes w1 9 33 5 s Tryz.underlying9 Tryz.underlying33 Tryz.underlying5]
 simp only [Result.andThen]
 go_wp2
 have hsz := bytes_len s
 have H1 : Hid (Bld w.heap.size w.heap.size ([] ++ [.int .u8 34]) (.pointer (some ⟨w.heap.size, 0, none⟩)) v1 w1) := h1
 have HB1 : Hid (Below w.heap.size (w.alloc (.cells #[.pointer none, .slice none 0 0] 99)) w1) := hb1
 have HZ1 : Hid ((w.alloc (.cells #[.pointer none, .slice none 0 0] 99)).heap.size ≤ w1.heap.size) := hz1
 clear hf hk1 h1 hb1 hz1
 go_loopw [10] (fun s10 wr => QLoop s w w1 s10 wr) (fun s10 _ => s.data.toList.length - (intOf s10).toNat)
 case atStart =>
  have hz := HZ1.out
  simp only [World.size_alloc] at hz
  have ho : ∀ j, j < w1.heap.size → (Lib.bytesWorld w1 5 s).heap[j]? = w1.heap[j]? := fun j hj => Lib.bytesWorld_at_old w1 5 s j hj
  refine ⟨0, v1, rfl, Nat.zero_le _, ⟨Nat.le_refl _, ?_, ?_, H1.out.ne⟩, fun e => ?_, rfl, by rw [Lib.bytesWorld_size]; omega, ?_⟩
  ·rw [ho _ (by omega)]; exact H1.out.at_
  ·have h := H1.out.own
   refine ⟨h.1, ?_⟩
   rcases h.2 with hv | ⟨g, cap, cur, hv, g1, g2, g3, g4, g5, g6⟩
   ·exact .inl hv
   ·refine .inr ⟨g, cap, cur, hv, g1, ?_, g3, g4, g5, g6⟩
    have hlt := (h.lt g (by rw [hv]; rfl)).2
    rw [ho g hlt]; exact g2
  ·have := (H1.out.own.lt _ e).2
   omega
  ·exact (((Below.refl _ w).alloc (Nat.le_refl _) _).trans HB1.out).trans ⟨rfl, rfl, rfl, by rw [Lib.bytesWorld_size]; omega, fun k hk => ho k (by omega)⟩
 case round =>
  obtain ⟨i, v, rfl, hi, hB, hv, hk, hkl, hbw⟩ := hrel
  by_cases hix : i < s.data.toList.length
  ·have hc : wr.cell? ⟨w1.heap.size, i, none⟩ = some (.int .u8 (s.data.toList.getD i 0).toNat) := by
    rw [World.cell?_of_block (w := Lib.bytesWorld w1 5 s) (a := ⟨w1.heap.size, i, none⟩) hk]
    exact Lib.bytesWorld_cell w1 5 s i (by omega)
   have hlen : (Lib.byteCells (34 :: (s.data.toList.take i).flatMap Go.Vc.quoC)).length ≤ 4000000 := by
    have := quo_len (s.data.toList.take i)
    rw [Lib.byteCells_length, List.length_cons]
    rw [List.length_take] at this
    omega
   have HV : Hid (v.ownBlock ≠ some w1.heap.size) := hv
   have HK : Hid (wr.heap[w1.heap.size]? = (Lib.bytesWorld w1 5 s).heap[w1.heap.size]?) := hk
   have HL : Hid (w1.heap.size < wr.heap.size) := hkl
   have HW : Hid (Below w.heap.size w wr) := hbw
   clear hv hk hkl hbw
   generalize hcc : s.data.toList.getD i 0 = c at hc
   have hc256 := c.toNat_lt
   have hcase := qcases c
   rcases hcase with ⟨q1, q2, q3, q4, he⟩ | ⟨he, hq⟩
   ·have HE : Hid (Go.Vc.escB c = false) := he
    clear he
    go_wp2_with (go_at_call 93; refine (bld_write hB (.inr rfl) _ (by omega)).mono ?_)
    (try simp only [and_imp, forall_exists_index])
    rintro e w2 rfl v2 h2 hk2 hb2 hz2
    go_wp2
    have hz1 := HZ1.out
    simp only [World.size_alloc] at hz1
    obtain ⟨f1, f2⟩ := hk2 w1.heap.size HL.out (by omega) HV.out
    have hL := HL.out
    exact qround hix hcc (by rw [Go.Vc.quoC, if_neg (by rw [HE.out]; decide)]; rfl) h2 f1 (f2.trans HK.out) (by omega) (HW.out.trans hb2)
   ·have HE : Hid (Go.Vc.escB c = true) := he
    clear he
    rcases hq with q1 | ⟨q1, q2⟩ | ⟨⟨q1, q2⟩, q3⟩ | ⟨⟨q1, q2, q3⟩, q4⟩
    all_goals (
     go_wp2_with (go_at_call 93; refine (bld_write hB (.inr rfl) _ (by omega)).mono ?_)
     (try simp only [and_imp, forall_exists_index])
     rintro e w2 rfl v2 h2 hk2 hb2 hz2
     have HK2 : Hid (∀ k, k < wr.heap.size → k ≠ w.heap.size → v.ownBlock ≠ some k → v2.ownBlock ≠ some k ∧ w2.heap[k]? = wr.heap[k]?) := hk2
     have HB2 : Hid (Below w.heap.size wr w2) := hb2
     have HZ2 : Hid (wr.heap.size ≤ w2.heap.size) := hz2
     clear hk2 hb2 hz2
     go_wp2_with (go_at_call 93; refine (bld_write h2 (.inr rfl) _ (by rw [List.length_append]; simp only [List.length_cons, List.length_nil]; omega)).mono ?_)
     (try simp only [and_imp, forall_exists_index])
     rintro e w3 rfl v3 h3 hk3 hb3 hz3
     have HK3 : Hid (∀ k, k < w2.heap.size → k ≠ w.heap.size → v2.ownBlock ≠ some k → v3.ownBlock ≠ some k ∧ w3.heap[k]? = w2.heap[k]?) := hk3
     have HB3 : Hid (Below w.heap.size w2 w3) := hb3
     have HZ3 : Hid (w2.heap.size ≤ w3.heap.size) := hz3
     clear hk3 hb3 hz3
     go_wp2_with (go_at_call 93; refine (bld_write h3 (.inr rfl) _ (by rw [List.length_append, List.length_append]; simp only [List.length_cons, List.length_nil]; omega)).mono ?_)
     (try simp only [and_imp, forall_exists_index])
     rintro e w4 rfl v4 h4 hk4 hb4 hz4
     go_wp2
     have hz1 := HZ1.out
     simp only [World.size_alloc] at hz1
     have hL := HL.out
     have hZ2 := HZ2.out
     have hZ3 := HZ3.out
     obtain ⟨f1, f2⟩ := HK2.out w1.heap.size HL.out (by omega) HV.out
     obtain ⟨f3, f4⟩ := HK3.out w1.heap.size (by omega) (by omega) f1
     obtain ⟨f5, f6⟩ := hk4 w1.heap.size (by omega) (by omega) f3
     refine qround hix hcc ?_ h4 f5 (((f6.trans f4).trans f2).trans HK.out) (by omega) (((HW.out.trans HB2.out).trans HB3.out).trans hb4)
     rw [Go.Vc.quoC, if_pos HE.out, List.append_assoc, List.append_assoc]
     refine congrArg _ ?_
     rw [dig _ (by omega), dig _ (by omega)]
     rfl)
  ·obtain rfl : i = s.data.toList.length := by omega
   rw [List.take_length] at hB
   have HW : Hid (Below w.heap.size w wr) := hbw
   clear hv hk hkl hbw
   have hql := quo_len s.data.toList
   go_wp2_with (go_at_call 93; refine (bld_write hB (.inr rfl) _ (by rw [Lib.byteCells_length, List.length_cons]; omega)).mono ?_)
   (try simp only [and_imp, forall_exists_index])
   rintro e w2 rfl v2 h2 hk2 hb2 hz2
   have hB2 : Lib.IsBuilder 99 5 w.heap.size w.heap.size (Lib.byteCells (Go.Vc.quoT s.data.toList)) w2 := by
    refine .inr ⟨h2.hB, v2, h2.at_, ?_, h2.ne⟩
    have e : Lib.byteCells (Go.Vc.quoT s.data.toList) = Lib.byteCells (34 :: List.flatMap Go.Vc.quoC s.data.toList) ++ [.int .u8 34] := by
     rw [Go.Vc.quoT, ← List.cons_append, Lib.byteCells_append]; rfl
    rw [e]; exact h2.own
   have HB2 : Hid (Below w.heap.size wr w2) := hb2
   clear hk2 hb2 h2
   go_wp2_with (go_at_call 94; refine (Tryz.Builder_String_any w.heap.size w.heap.size _ _ hB2 (by have := HW.out.size; omega)).mono ?_)
   (try simp only [and_imp])
   rintro e w3 rfl hb3
   go_wp2
   go_ret
   exact ⟨rfl, (HW.out.trans HB2.out).trans hb3⟩
end Go.Proofs
