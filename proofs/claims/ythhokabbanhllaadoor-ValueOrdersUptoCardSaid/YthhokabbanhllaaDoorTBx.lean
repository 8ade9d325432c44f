/- What is proved here: contracts of functions of the program: of each function what it hands back and what it leaves in memory. Conditions: those that each theorem names. -/
import Derived.Test.YthhokabbanhllaaDoorTAu
set_option linter.unusedVariables false
set_option linter.unusedSimpArgs false
set_option linter.unusedSectionVars false
namespace Go.Vc
open Go
variable {C : Ctx}
theorem calm_law (hT : TyOk C) (hmix : C.P.follows .mixedOrders = true) {pl : Nat → Option PT} {f : Nat} {fn : Func} {i1 : Nat} {ops : Array Oper} {a b c : Code} {da db dc : Cd} (is js : List Nat) {xt xl : List Fop} {n : Nat} {rs : List ResultVar} (hf : C.P.funcs[f]? = some fn) (hb : fn.body = some (.seq a (.seq b (.seq (.region i1 ops true) c))))
  (ea : comp C pl a = da) (eb : comp C pl b = db) (ec : comp C pl c = dc)
  (hsel : Region.noSelect ops = true) (hok : takeOk C ops js is ops.size (Array.replicate ops.size false) = true) (hpl : (is.all fun i => noGuard (ops.getD i default) && isPlain C (ops.getD i default).op) = true) (hn : fn.ntmps = n) (hr : fn.results.toList = rs)
  (et : fopsOf C ops (is.map fun i => ops.getD i default) = some xt) (el : fopsOf C ops (js.map fun i => ops.getD i default) = some xl) (gv : Bool) {args : List PV} {Post : PV → List (Nat × Blk) → Prop} (hlen : args.length ≤ n)
  (hwp : forceSt (St.entry n args []) fun s => cdWp C (Spec C) da (Ex.thn (cdWp C (Spec C) db (Ex.thn (fun s => forceSt (calmSt s) fun s => fopsWp C (Spec C) xt s fun s => fopsWp C (Spec C) xl s fun s2 => s2.kb = [] ∧ cdWp C (Spec C) dc (bodyF C gv 0 [] rs Post) s2) (bodyF C gv 0 [] rs Post))) (bodyF C gv 0 [] rs Post)) s) : CSpec C f args [] Post := by
 subst hn hr ea eb ec
 rw [forceSt_eq, bodyF_eq] at hwp
 refine cspec_core hT hf hb gv hlen List.nodup_nil fun E Q' a' w hQ hP hh => ?_
 refine wp_seq (cd_sound hT hmix a _ _ _ a' w (fun e s a' w hq hh => ?_) (fun ch a w hp => hP ch a w hp) hwp hh)
 cases e with
 | exit i => exact hQ (.exit i) s a' w hq hh
 | ret => exact hQ .ret s a' w hq hh
 | normal =>
  refine wp_seq (cd_sound hT hmix b _ _ s a' w (fun e s a' w hq hh => ?_) (fun ch a w hp => hP ch a w hp) hq hh)
  cases e with
  | exit i => exact hQ (.exit i) s a' w hq hh
  | ret => exact hQ .ret s a' w hq hh
  | normal =>
   have hq2 : takeWp C ops is (calmSt s) fun s' => linWp C (Spec C) ops js s' fun s2 => s2.kb = [] ∧ cdWp C (Spec C) (comp C pl c) (bodyQ C gv 0 [] fn.results.toList Post) s2 := by
    have hq' : forceSt (calmSt s) fun s => fopsWp C (Spec C) xt s fun s => fopsWp C (Spec C) xl s fun s2 => s2.kb = [] ∧ cdWp C (Spec C) (comp C pl c) (bodyQ C gv 0 [] fn.results.toList Post) s2 := hq
    rw [forceSt_eq, ← fops_eq _ _ et, ← take_ops (S := Spec C) is _ _ hpl] at hq'
    refine (congrArg (takeWp C ops is (calmSt s)) (funext fun s => ?_)).mpr hq'
    rw [lin_ops, fops_eq _ _ el]
   refine wp_seq (calm_region hT hmix is js hsel hok (fun ch a w hp => hP ch a w hp) (fun s a w hk hh => ?_) hh hq2)
   exact cd_sound hT hmix c _ _ s a w hQ (fun ch a w hp => hP ch a w hp) hk hh
end Go.Vc
