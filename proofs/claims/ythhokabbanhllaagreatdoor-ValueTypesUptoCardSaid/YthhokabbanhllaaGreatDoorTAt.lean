/- What is proved here: contracts of functions of the program: of each function what it hands back and what it leaves in memory. Conditions: those that each theorem names. -/
import Derived.Test.YthhokabbanhllaaGreatDoorTAk
set_option linter.unusedVariables false
set_option linter.unusedSimpArgs false
set_option linter.unusedSectionVars false
namespace Go.Vc
open Go
def PV.part1 : PV → PV
 | .sl z l _ o => .sl z l false o
 | v => v
def PV.part2 : PV → PV
 | .agg l => .agg (l.map PV.part1)
 | v => v.part1
def PV.part : PV → PV
 | .tup l => .tup (l.map PV.part2)
 | v => v.part2
theorem Rep.part1 {R : RC} {v : PV} {x : Value} (h : Rep R v x) : Rep R v.part1 x := by
 cases v <;> first | exact h | skip
 case sl z l t o =>
  cases h with
  | sl _ _ _ _ _ h =>
   cases h with
   | sl _ _ _ _ a n c cs hn hc ht hz hm he => exact .sl z l false o _ (.sl z l false o a n c cs hn hc (fun h => by cases h) hz hm he)
theorem Rep.part2 {R : RC} {v : PV} {x : Value} (h : Rep R v x) : Rep R v.part2 x := by
 cases v <;> first | exact h.part1 | skip
 case agg l =>
  cases h with
  | agg _ cs hl h1 =>
   refine .agg _ cs (by rw [List.length_map]; exact hl) fun i u x hu hx => ?_
   rw [List.getElem?_map, Option.map_eq_some_iff] at hu
   obtain ⟨u', hu', rfl⟩ := hu
   exact (h1 i u' x hu' hx).part1
theorem Rep.part {R : RC} {v : PV} {x : Value} (h : Rep R v x) : Rep R v.part x := by
 cases v <;> first | exact h.part2 | skip
 case tup l =>
  cases h with
  | tup _ cs hl h1 =>
   refine .tup _ cs (by rw [List.length_map]; exact hl) fun i u x hu hx => ?_
   rw [List.getElem?_map, Option.map_eq_some_iff] at hu
   obtain ⟨u', hu', rfl⟩ := hu
   exact (h1 i u' x hu' hx).part2
theorem Spec.part {C : Ctx} {f : Nat} {args : List PV} {h : List (Nat × Blk)} {Post : PV → List (Nat × Blk) → Prop} (hs : Spec C f args h fun r h' => force2 r.part fun r => Post r h') : Spec C f args h Post := by
 refine ⟨fun w Z φ vs hb o a next Q hn => hs.run w Z φ vs hb o a next Q fun v w' ⟨r, h', φ', Z', h1, h2, h3⟩ => hn v w' ⟨r.part, h', φ', Z', ?_, h2.part, h3⟩⟩
 simp only [force2_eq] at h1
 exact h1
theorem FnIs.specN {C : Ctx} {f n : Nat} {rs : List ResultVar} {cd : Cd} (hF : FnIs C f n rs cd) (hT : TyOk C) (hmix : C.P.follows .mixedOrders = true) (gv : Bool) {args : List PV} {h : List (Nat × Blk)} {Post : PV → List (Nat × Blk) → Prop}
  (hlen : args.length ≤ n) (hnd : (keys h).Nodup) (hwp : forceSt (St.entry n args h) fun s => forceN (Vc.fresh h) fun n0 => forceNs (boxes h) fun kb => cdWp C (Spec C) cd (bodyF C gv n0 kb rs fun r h' => force2 r.part fun r => Post r h') s) : Spec C f args h Post :=
 Spec.part (hF.spec hT hmix gv hlen hnd hwp)
theorem FnIs.specCN {C : Ctx} {f n : Nat} {rs : List ResultVar} {cd : Cd} (hF : FnIs C f n rs cd) (l : List Nat) (hT : TyOk C) (hmix : C.P.follows .mixedOrders = true) (gv : Bool) {args : List PV} {h : List (Nat × Blk)} {Post : PV → List (Nat × Blk) → Prop}
  (hlen : args.length ≤ n) (hnd : (keys h).Nodup) (hwp : forceSt (St.entry n args h) fun s => forceN (Vc.fresh h) fun n0 => forceNs (boxes h) fun kb => cdWp C (Spec C) (cd.cutAt l) (bodyF C gv n0 kb rs fun r h' => force2 r.part fun r => Post r h') s) : Spec C f args h Post := by
 obtain ⟨fn, c, pl, h1, h2, h3, _⟩ := hF.is
 exact Spec.part (spec_of_cspec h1 h2 h3 (hF.cspecC l hT hmix gv hlen hnd hwp))
def PV.mixd : PV → PV
 | .tup (v :: l) => .tup (v.part2 :: l.map PV.weak2)
 | v => v
theorem Rep.mixd {R : RC} {v : PV} {x : Value} (h : Rep R v x) : Rep R v.mixd x := by
 cases v <;> first | exact h | skip
 case tup l =>
  cases l with
  | nil => exact h
  | cons v l =>
   cases h with
   | tup _ cs hl h1 =>
    refine .tup _ cs (by simp only [List.length_cons, List.length_map] at hl ⊢; exact hl) fun i u x hu hx => ?_
    cases i with
    | zero =>
     obtain rfl := Option.some.inj hu
     exact (h1 0 v x rfl hx).part2
    | succ i =>
     rw [List.getElem?_cons_succ, List.getElem?_map, Option.map_eq_some_iff] at hu
     obtain ⟨u', hu', rfl⟩ := hu
     exact (h1 (i + 1) u' x hu' hx).weak2
theorem Spec.mixd {C : Ctx} {f : Nat} {args : List PV} {h : List (Nat × Blk)} {Post : PV → List (Nat × Blk) → Prop} (hs : Spec C f args h fun r h' => force2 r.mixd fun r => Post r h') : Spec C f args h Post := by
 refine ⟨fun w Z φ vs hb o a next Q hn => hs.run w Z φ vs hb o a next Q fun v w' ⟨r, h', φ', Z', h1, h2, h3⟩ => hn v w' ⟨r.mixd, h', φ', Z', ?_, h2.mixd, h3⟩⟩
 simp only [force2_eq] at h1
 exact h1
theorem FnIs.specM {C : Ctx} {f n : Nat} {rs : List ResultVar} {cd : Cd} (hF : FnIs C f n rs cd) (hT : TyOk C) (hmix : C.P.follows .mixedOrders = true) (gv : Bool) {args : List PV} {h : List (Nat × Blk)} {Post : PV → List (Nat × Blk) → Prop}
  (hlen : args.length ≤ n) (hnd : (keys h).Nodup) (hwp : forceSt (St.entry n args h) fun s => forceN (Vc.fresh h) fun n0 => forceNs (boxes h) fun kb => cdWp C (Spec C) cd (bodyF C gv n0 kb rs fun r h' => force2 r.mixd fun r => Post r h') s) : Spec C f args h Post :=
 Spec.mixd (hF.spec hT hmix gv hlen hnd hwp)
end Go.Vc
