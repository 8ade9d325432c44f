/- What is proved here: contracts of functions of the program: of each function what it hands back and what it leaves in memory. Conditions: those that each theorem names. -/
import Derived.Test.YtmbopgmllnijjaaGreatTBl
import Derived.Test.YtmbopgmllnijjaaGreatTBm
set_option linter.unusedVariables false
set_option linter.unusedSimpArgs false
set_option linter.unusedSectionVars false
namespace Go.Vc
open Go Go.Proofs
set_option maxRecDepth 100000
def inv31s0a (zf : Nat) (lf : List PV) (tf : Bool) (zc : Nat) (lc : List PV) (tc : Bool) (yf : Nat) (mf : List PV) (uf : Bool) (yc : Nat) (mc : List PV) (uc : Bool) (f : FD) (z : Nat) (t o : Bool) (y : Nat) (u o2 : Bool) (i : Nat) : St := ⟨87, [(5, .int .i64 i), (3, .ptr 1 0), (2, .ptr 0 0), (31, .ptr 0 0), (33, .int .i64 i), (36, .ptr 1 0), (38, .int .i64 i)], [(0, .box (pgc zf lf tf zc lc tc)), (1, .box (pgc yf mf uf yc mc uc))], []⟩
def inv31s1a (zf : Nat) (lf : List PV) (tf : Bool) (zc : Nat) (lc : List PV) (tc : Bool) (yf : Nat) (mf : List PV) (uf : Bool) (yc : Nat) (mc : List PV) (uc : Bool) (f : FD) (z : Nat) (t o : Bool) (y : Nat) (u o2 : Bool) (i : Nat) : St := ⟨87, [(5, .int .i64 i), (3, .ptr 1 0), (2, .ptr 0 0), (33, .int .i64 i), (36, .ptr 1 0), (38, .int .i64 i), (32, .sl zf lf tf true)], [(0, .box (pgc zf lf tf zc lc tc)), (1, .box (pgc yf mf uf yc mc uc))], []⟩
def inv31s2a (zf : Nat) (lf : List PV) (tf : Bool) (zc : Nat) (lc : List PV) (tc : Bool) (yf : Nat) (mf : List PV) (uf : Bool) (yc : Nat) (mc : List PV) (uc : Bool) (f : FD) (z : Nat) (t o : Bool) (y : Nat) (u o2 : Bool) (i : Nat) : St := ⟨87, [(5, .int .i64 i), (3, .ptr 1 0), (2, .ptr 0 0), (31, .ptr 0 0), (33, .int .i64 i), (38, .int .i64 i), (37, .sl yf mf uf true)], [(0, .box (pgc zf lf tf zc lc tc)), (1, .box (pgc yf mf uf yc mc uc))], []⟩
def inv31s3a (zf : Nat) (lf : List PV) (tf : Bool) (zc : Nat) (lc : List PV) (tc : Bool) (yf : Nat) (mf : List PV) (uf : Bool) (yc : Nat) (mc : List PV) (uc : Bool) (f : FD) (z : Nat) (t o : Bool) (y : Nat) (u o2 : Bool) (i : Nat) : St := ⟨87, [(5, .int .i64 i), (3, .ptr 1 0), (2, .ptr 0 0), (31, .ptr 0 0), (33, .int .i64 i), (36, .ptr 1 0), (38, .int .i64 i), (6, .ptr 2 0)], [(0, .box (pgc zf lf tf zc lc tc)), (1, .box (pgc yf mf uf yc mc uc)), (2, .box [.str [], .int .i64 0, .int .i64 0, .sl 0 [] true false])], []⟩
def inv31s4a (zf : Nat) (lf : List PV) (tf : Bool) (zc : Nat) (lc : List PV) (tc : Bool) (yf : Nat) (mf : List PV) (uf : Bool) (yc : Nat) (mc : List PV) (uc : Bool) (f : FD) (z : Nat) (t o : Bool) (y : Nat) (u o2 : Bool) (i : Nat) : St := ⟨87, [(5, .int .i64 i), (3, .ptr 1 0), (2, .ptr 0 0), (31, .ptr 0 0), (33, .int .i64 i), (36, .ptr 1 0), (38, .int .i64 i), (7, .ptr 2 0)], [(0, .box (pgc zf lf tf zc lc tc)), (1, .box (pgc yf mf uf yc mc uc)), (2, .box [.str [], .int .i64 0, .int .i64 0, .sl 0 [] true false])], []⟩
def inv31s5a (zf : Nat) (lf : List PV) (tf : Bool) (zc : Nat) (lc : List PV) (tc : Bool) (yf : Nat) (mf : List PV) (uf : Bool) (yc : Nat) (mc : List PV) (uc : Bool) (f : FD) (z : Nat) (t o : Bool) (y : Nat) (u o2 : Bool) (i : Nat) : St := ⟨87, [(5, .int .i64 i), (3, .ptr 1 0), (2, .ptr 0 0), (36, .ptr 1 0), (38, .int .i64 i), (34, .ro [.str f.name, .int .i64 f.args, .int .i64 f.locals, .sl z (f.code.map INP) t o] 0 true)], [(0, .box (pgc zf lf tf zc lc tc)), (1, .box (pgc yf mf uf yc mc uc))], []⟩
def inv31s6a (zf : Nat) (lf : List PV) (tf : Bool) (zc : Nat) (lc : List PV) (tc : Bool) (yf : Nat) (mf : List PV) (uf : Bool) (yc : Nat) (mc : List PV) (uc : Bool) (f : FD) (z : Nat) (t o : Bool) (y : Nat) (u o2 : Bool) (i : Nat) : St := ⟨87, [(5, .int .i64 i), (3, .ptr 1 0), (2, .ptr 0 0), (31, .ptr 0 0), (33, .int .i64 i), (39, .ro [.str f.name, .int .i64 f.args, .int .i64 f.locals, .sl y (f.code.map INP) u o2] 0 true)], [(0, .box (pgc zf lf tf zc lc tc)), (1, .box (pgc yf mf uf yc mc uc))], []⟩
def inv31s7a (zf : Nat) (lf : List PV) (tf : Bool) (zc : Nat) (lc : List PV) (tc : Bool) (yf : Nat) (mf : List PV) (uf : Bool) (yc : Nat) (mc : List PV) (uc : Bool) (f : FD) (z : Nat) (t o : Bool) (y : Nat) (u o2 : Bool) (i : Nat) : St := ⟨87, [(5, .int .i64 i), (3, .ptr 1 0), (2, .ptr 0 0), (33, .int .i64 i), (36, .ptr 1 0), (38, .int .i64 i), (32, .sl zf lf tf true), (6, .ptr 2 0)], [(0, .box (pgc zf lf tf zc lc tc)), (1, .box (pgc yf mf uf yc mc uc)), (2, .box [.str [], .int .i64 0, .int .i64 0, .sl 0 [] true false])], []⟩
def inv31s8a (zf : Nat) (lf : List PV) (tf : Bool) (zc : Nat) (lc : List PV) (tc : Bool) (yf : Nat) (mf : List PV) (uf : Bool) (yc : Nat) (mc : List PV) (uc : Bool) (f : FD) (z : Nat) (t o : Bool) (y : Nat) (u o2 : Bool) (i : Nat) : St := ⟨87, [(5, .int .i64 i), (3, .ptr 1 0), (2, .ptr 0 0), (31, .ptr 0 0), (33, .int .i64 i), (38, .int .i64 i), (37, .sl yf mf uf true), (6, .ptr 2 0)], [(0, .box (pgc zf lf tf zc lc tc)), (1, .box (pgc yf mf uf yc mc uc)), (2, .box [.str [], .int .i64 0, .int .i64 0, .sl 0 [] true false])], []⟩
def inv31s9a (zf : Nat) (lf : List PV) (tf : Bool) (zc : Nat) (lc : List PV) (tc : Bool) (yf : Nat) (mf : List PV) (uf : Bool) (yc : Nat) (mc : List PV) (uc : Bool) (f : FD) (z : Nat) (t o : Bool) (y : Nat) (u o2 : Bool) (i : Nat) : St := ⟨87, [(5, .int .i64 i), (3, .ptr 1 0), (2, .ptr 0 0), (31, .ptr 0 0), (33, .int .i64 i), (36, .ptr 1 0), (38, .int .i64 i), (6, .ptr 2 0), (7, .ptr 3 0)], [(0, .box (pgc zf lf tf zc lc tc)), (1, .box (pgc yf mf uf yc mc uc)), (2, .box [.str [], .int .i64 0, .int .i64 0, .sl 0 [] true false]), (3, .box [.str [], .int .i64 0, .int .i64 0, .sl 0 [] true false])], []⟩
def inv31s9b (zf : Nat) (lf : List PV) (tf : Bool) (zc : Nat) (lc : List PV) (tc : Bool) (yf : Nat) (mf : List PV) (uf : Bool) (yc : Nat) (mc : List PV) (uc : Bool) (f : FD) (z : Nat) (t o : Bool) (y : Nat) (u o2 : Bool) (i : Nat) : St := ⟨87, [(5, .int .i64 i), (3, .ptr 1 0), (2, .ptr 0 0), (31, .ptr 0 0), (33, .int .i64 i), (36, .ptr 1 0), (38, .int .i64 i), (6, .ptr 3 0), (7, .ptr 2 0)], [(0, .box (pgc zf lf tf zc lc tc)), (1, .box (pgc yf mf uf yc mc uc)), (3, .box [.str [], .int .i64 0, .int .i64 0, .sl 0 [] true false]), (2, .box [.str [], .int .i64 0, .int .i64 0, .sl 0 [] true false])], []⟩
def inv31s10a (zf : Nat) (lf : List PV) (tf : Bool) (zc : Nat) (lc : List PV) (tc : Bool) (yf : Nat) (mf : List PV) (uf : Bool) (yc : Nat) (mc : List PV) (uc : Bool) (f : FD) (z : Nat) (t o : Bool) (y : Nat) (u o2 : Bool) (i : Nat) : St := ⟨87, [(5, .int .i64 i), (3, .ptr 1 0), (2, .ptr 0 0), (33, .int .i64 i), (36, .ptr 1 0), (38, .int .i64 i), (32, .sl zf lf tf true), (7, .ptr 2 0)], [(0, .box (pgc zf lf tf zc lc tc)), (1, .box (pgc yf mf uf yc mc uc)), (2, .box [.str [], .int .i64 0, .int .i64 0, .sl 0 [] true false])], []⟩
def inv31s11a (zf : Nat) (lf : List PV) (tf : Bool) (zc : Nat) (lc : List PV) (tc : Bool) (yf : Nat) (mf : List PV) (uf : Bool) (yc : Nat) (mc : List PV) (uc : Bool) (f : FD) (z : Nat) (t o : Bool) (y : Nat) (u o2 : Bool) (i : Nat) : St := ⟨87, [(5, .int .i64 i), (3, .ptr 1 0), (2, .ptr 0 0), (31, .ptr 0 0), (33, .int .i64 i), (38, .int .i64 i), (37, .sl yf mf uf true), (7, .ptr 2 0)], [(0, .box (pgc zf lf tf zc lc tc)), (1, .box (pgc yf mf uf yc mc uc)), (2, .box [.str [], .int .i64 0, .int .i64 0, .sl 0 [] true false])], []⟩
def inv31s12a (zf : Nat) (lf : List PV) (tf : Bool) (zc : Nat) (lc : List PV) (tc : Bool) (yf : Nat) (mf : List PV) (uf : Bool) (yc : Nat) (mc : List PV) (uc : Bool) (f : FD) (z : Nat) (t o : Bool) (y : Nat) (u o2 : Bool) (i : Nat) : St := ⟨87, [(5, .int .i64 i), (3, .ptr 1 0), (2, .ptr 0 0), (36, .ptr 1 0), (38, .int .i64 i), (35, .agg (fdc f z t))], [(0, .box (pgc zf lf tf zc lc tc)), (1, .box (pgc yf mf uf yc mc uc))], []⟩
def inv31s13a (zf : Nat) (lf : List PV) (tf : Bool) (zc : Nat) (lc : List PV) (tc : Bool) (yf : Nat) (mf : List PV) (uf : Bool) (yc : Nat) (mc : List PV) (uc : Bool) (f : FD) (z : Nat) (t o : Bool) (y : Nat) (u o2 : Bool) (i : Nat) : St := ⟨87, [(5, .int .i64 i), (3, .ptr 1 0), (2, .ptr 0 0), (38, .int .i64 i), (34, .ro [.str f.name, .int .i64 f.args, .int .i64 f.locals, .sl z (f.code.map INP) t o] 0 true), (37, .sl yf mf uf true)], [(0, .box (pgc zf lf tf zc lc tc)), (1, .box (pgc yf mf uf yc mc uc))], []⟩
def inv31s14a (zf : Nat) (lf : List PV) (tf : Bool) (zc : Nat) (lc : List PV) (tc : Bool) (yf : Nat) (mf : List PV) (uf : Bool) (yc : Nat) (mc : List PV) (uc : Bool) (f : FD) (z : Nat) (t o : Bool) (y : Nat) (u o2 : Bool) (i : Nat) : St := ⟨87, [(5, .int .i64 i), (3, .ptr 1 0), (2, .ptr 0 0), (36, .ptr 1 0), (38, .int .i64 i), (34, .ro [.str f.name, .int .i64 f.args, .int .i64 f.locals, .sl z (f.code.map INP) t o] 0 true), (6, .ptr 2 0)], [(0, .box (pgc zf lf tf zc lc tc)), (1, .box (pgc yf mf uf yc mc uc)), (2, .box [.str [], .int .i64 0, .int .i64 0, .sl 0 [] true false])], []⟩
def inv31s15a (zf : Nat) (lf : List PV) (tf : Bool) (zc : Nat) (lc : List PV) (tc : Bool) (yf : Nat) (mf : List PV) (uf : Bool) (yc : Nat) (mc : List PV) (uc : Bool) (f : FD) (z : Nat) (t o : Bool) (y : Nat) (u o2 : Bool) (i : Nat) : St := ⟨87, [(5, .int .i64 i), (3, .ptr 1 0), (2, .ptr 0 0), (36, .ptr 1 0), (38, .int .i64 i), (34, .ro [.str f.name, .int .i64 f.args, .int .i64 f.locals, .sl z (f.code.map INP) t o] 0 true), (7, .ptr 2 0)], [(0, .box (pgc zf lf tf zc lc tc)), (1, .box (pgc yf mf uf yc mc uc)), (2, .box [.str [], .int .i64 0, .int .i64 0, .sl 0 [] true false])], []⟩
def inv31s16a (zf : Nat) (lf : List PV) (tf : Bool) (zc : Nat) (lc : List PV) (tc : Bool) (yf : Nat) (mf : List PV) (uf : Bool) (yc : Nat) (mc : List PV) (uc : Bool) (f : FD) (z : Nat) (t o : Bool) (y : Nat) (u o2 : Bool) (i : Nat) : St := ⟨87, [(5, .int .i64 i), (3, .ptr 1 0), (2, .ptr 0 0), (33, .int .i64 i), (32, .sl zf lf tf true), (39, .ro [.str f.name, .int .i64 f.args, .int .i64 f.locals, .sl y (f.code.map INP) u o2] 0 true)], [(0, .box (pgc zf lf tf zc lc tc)), (1, .box (pgc yf mf uf yc mc uc))], []⟩
def inv31s17a (zf : Nat) (lf : List PV) (tf : Bool) (zc : Nat) (lc : List PV) (tc : Bool) (yf : Nat) (mf : List PV) (uf : Bool) (yc : Nat) (mc : List PV) (uc : Bool) (f : FD) (z : Nat) (t o : Bool) (y : Nat) (u o2 : Bool) (i : Nat) : St := ⟨87, [(5, .int .i64 i), (3, .ptr 1 0), (2, .ptr 0 0), (31, .ptr 0 0), (33, .int .i64 i), (40, .agg (fdc f y u))], [(0, .box (pgc zf lf tf zc lc tc)), (1, .box (pgc yf mf uf yc mc uc))], []⟩
def inv31s18a (zf : Nat) (lf : List PV) (tf : Bool) (zc : Nat) (lc : List PV) (tc : Bool) (yf : Nat) (mf : List PV) (uf : Bool) (yc : Nat) (mc : List PV) (uc : Bool) (f : FD) (z : Nat) (t o : Bool) (y : Nat) (u o2 : Bool) (i : Nat) : St := ⟨87, [(5, .int .i64 i), (3, .ptr 1 0), (2, .ptr 0 0), (31, .ptr 0 0), (33, .int .i64 i), (39, .ro [.str f.name, .int .i64 f.args, .int .i64 f.locals, .sl y (f.code.map INP) u o2] 0 true), (6, .ptr 2 0)], [(0, .box (pgc zf lf tf zc lc tc)), (1, .box (pgc yf mf uf yc mc uc)), (2, .box [.str [], .int .i64 0, .int .i64 0, .sl 0 [] true false])], []⟩
def inv31s19a (zf : Nat) (lf : List PV) (tf : Bool) (zc : Nat) (lc : List PV) (tc : Bool) (yf : Nat) (mf : List PV) (uf : Bool) (yc : Nat) (mc : List PV) (uc : Bool) (f : FD) (z : Nat) (t o : Bool) (y : Nat) (u o2 : Bool) (i : Nat) : St := ⟨87, [(5, .int .i64 i), (3, .ptr 1 0), (2, .ptr 0 0), (31, .ptr 0 0), (33, .int .i64 i), (39, .ro [.str f.name, .int .i64 f.args, .int .i64 f.locals, .sl y (f.code.map INP) u o2] 0 true), (7, .ptr 2 0)], [(0, .box (pgc zf lf tf zc lc tc)), (1, .box (pgc yf mf uf yc mc uc)), (2, .box [.str [], .int .i64 0, .int .i64 0, .sl 0 [] true false])], []⟩
def inv31s20a (zf : Nat) (lf : List PV) (tf : Bool) (zc : Nat) (lc : List PV) (tc : Bool) (yf : Nat) (mf : List PV) (uf : Bool) (yc : Nat) (mc : List PV) (uc : Bool) (f : FD) (z : Nat) (t o : Bool) (y : Nat) (u o2 : Bool) (i : Nat) : St := ⟨87, [(5, .int .i64 i), (3, .ptr 1 0), (2, .ptr 0 0), (33, .int .i64 i), (36, .ptr 1 0), (38, .int .i64 i), (32, .sl zf lf tf true), (6, .ptr 2 0), (7, .ptr 3 0)], [(0, .box (pgc zf lf tf zc lc tc)), (1, .box (pgc yf mf uf yc mc uc)), (2, .box [.str [], .int .i64 0, .int .i64 0, .sl 0 [] true false]), (3, .box [.str [], .int .i64 0, .int .i64 0, .sl 0 [] true false])], []⟩
def inv31s20b (zf : Nat) (lf : List PV) (tf : Bool) (zc : Nat) (lc : List PV) (tc : Bool) (yf : Nat) (mf : List PV) (uf : Bool) (yc : Nat) (mc : List PV) (uc : Bool) (f : FD) (z : Nat) (t o : Bool) (y : Nat) (u o2 : Bool) (i : Nat) : St := ⟨87, [(5, .int .i64 i), (3, .ptr 1 0), (2, .ptr 0 0), (33, .int .i64 i), (36, .ptr 1 0), (38, .int .i64 i), (32, .sl zf lf tf true), (6, .ptr 3 0), (7, .ptr 2 0)], [(0, .box (pgc zf lf tf zc lc tc)), (1, .box (pgc yf mf uf yc mc uc)), (3, .box [.str [], .int .i64 0, .int .i64 0, .sl 0 [] true false]), (2, .box [.str [], .int .i64 0, .int .i64 0, .sl 0 [] true false])], []⟩
def inv31s21a (zf : Nat) (lf : List PV) (tf : Bool) (zc : Nat) (lc : List PV) (tc : Bool) (yf : Nat) (mf : List PV) (uf : Bool) (yc : Nat) (mc : List PV) (uc : Bool) (f : FD) (z : Nat) (t o : Bool) (y : Nat) (u o2 : Bool) (i : Nat) : St := ⟨87, [(5, .int .i64 i), (3, .ptr 1 0), (2, .ptr 0 0), (31, .ptr 0 0), (33, .int .i64 i), (38, .int .i64 i), (37, .sl yf mf uf true), (6, .ptr 2 0), (7, .ptr 3 0)], [(0, .box (pgc zf lf tf zc lc tc)), (1, .box (pgc yf mf uf yc mc uc)), (2, .box [.str [], .int .i64 0, .int .i64 0, .sl 0 [] true false]), (3, .box [.str [], .int .i64 0, .int .i64 0, .sl 0 [] true false])], []⟩
def inv31s21b (zf : Nat) (lf : List PV) (tf : Bool) (zc : Nat) (lc : List PV) (tc : Bool) (yf : Nat) (mf : List PV) (uf : Bool) (yc : Nat) (mc : List PV) (uc : Bool) (f : FD) (z : Nat) (t o : Bool) (y : Nat) (u o2 : Bool) (i : Nat) : St := ⟨87, [(5, .int .i64 i), (3, .ptr 1 0), (2, .ptr 0 0), (31, .ptr 0 0), (33, .int .i64 i), (38, .int .i64 i), (37, .sl yf mf uf true), (6, .ptr 3 0), (7, .ptr 2 0)], [(0, .box (pgc zf lf tf zc lc tc)), (1, .box (pgc yf mf uf yc mc uc)), (3, .box [.str [], .int .i64 0, .int .i64 0, .sl 0 [] true false]), (2, .box [.str [], .int .i64 0, .int .i64 0, .sl 0 [] true false])], []⟩
def inv31s22a (zf : Nat) (lf : List PV) (tf : Bool) (zc : Nat) (lc : List PV) (tc : Bool) (yf : Nat) (mf : List PV) (uf : Bool) (yc : Nat) (mc : List PV) (uc : Bool) (f : FD) (z : Nat) (t o : Bool) (y : Nat) (u o2 : Bool) (i : Nat) : St := ⟨87, [(5, .int .i64 i), (3, .ptr 1 0), (2, .ptr 0 0), (38, .int .i64 i), (35, .agg (fdc f z t)), (37, .sl yf mf uf true)], [(0, .box (pgc zf lf tf zc lc tc)), (1, .box (pgc yf mf uf yc mc uc))], []⟩
def inv31s23a (zf : Nat) (lf : List PV) (tf : Bool) (zc : Nat) (lc : List PV) (tc : Bool) (yf : Nat) (mf : List PV) (uf : Bool) (yc : Nat) (mc : List PV) (uc : Bool) (f : FD) (z : Nat) (t o : Bool) (y : Nat) (u o2 : Bool) (i : Nat) : St := ⟨87, [(5, .int .i64 i), (3, .ptr 1 0), (2, .ptr 0 0), (36, .ptr 1 0), (38, .int .i64 i), (35, .agg (fdc f z t)), (6, .ptr 2 0)], [(0, .box (pgc zf lf tf zc lc tc)), (1, .box (pgc yf mf uf yc mc uc)), (2, .box [.str [], .int .i64 0, .int .i64 0, .sl 0 [] true false])], []⟩
def inv31s24a (zf : Nat) (lf : List PV) (tf : Bool) (zc : Nat) (lc : List PV) (tc : Bool) (yf : Nat) (mf : List PV) (uf : Bool) (yc : Nat) (mc : List PV) (uc : Bool) (f : FD) (z : Nat) (t o : Bool) (y : Nat) (u o2 : Bool) (i : Nat) : St := ⟨87, [(5, .int .i64 i), (3, .ptr 1 0), (2, .ptr 0 0), (36, .ptr 1 0), (38, .int .i64 i), (35, .agg (fdc f z t)), (7, .ptr 2 0)], [(0, .box (pgc zf lf tf zc lc tc)), (1, .box (pgc yf mf uf yc mc uc)), (2, .box [.str [], .int .i64 0, .int .i64 0, .sl 0 [] true false])], []⟩
def inv31s25a (zf : Nat) (lf : List PV) (tf : Bool) (zc : Nat) (lc : List PV) (tc : Bool) (yf : Nat) (mf : List PV) (uf : Bool) (yc : Nat) (mc : List PV) (uc : Bool) (f : FD) (z : Nat) (t o : Bool) (y : Nat) (u o2 : Bool) (i : Nat) : St := ⟨87, [(5, .int .i64 i), (3, .ptr 1 0), (2, .ptr 0 0), (34, .ro [.str f.name, .int .i64 f.args, .int .i64 f.locals, .sl z (f.code.map INP) t o] 0 true), (39, .ro [.str f.name, .int .i64 f.args, .int .i64 f.locals, .sl y (f.code.map INP) u o2] 0 true)], [(0, .box (pgc zf lf tf zc lc tc)), (1, .box (pgc yf mf uf yc mc uc))], []⟩
def inv31s26a (zf : Nat) (lf : List PV) (tf : Bool) (zc : Nat) (lc : List PV) (tc : Bool) (yf : Nat) (mf : List PV) (uf : Bool) (yc : Nat) (mc : List PV) (uc : Bool) (f : FD) (z : Nat) (t o : Bool) (y : Nat) (u o2 : Bool) (i : Nat) : St := ⟨87, [(5, .int .i64 i), (3, .ptr 1 0), (2, .ptr 0 0), (38, .int .i64 i), (34, .ro [.str f.name, .int .i64 f.args, .int .i64 f.locals, .sl z (f.code.map INP) t o] 0 true), (37, .sl yf mf uf true), (6, .ptr 2 0)], [(0, .box (pgc zf lf tf zc lc tc)), (1, .box (pgc yf mf uf yc mc uc)), (2, .box [.str [], .int .i64 0, .int .i64 0, .sl 0 [] true false])], []⟩
def inv31s27a (zf : Nat) (lf : List PV) (tf : Bool) (zc : Nat) (lc : List PV) (tc : Bool) (yf : Nat) (mf : List PV) (uf : Bool) (yc : Nat) (mc : List PV) (uc : Bool) (f : FD) (z : Nat) (t o : Bool) (y : Nat) (u o2 : Bool) (i : Nat) : St := ⟨87, [(5, .int .i64 i), (3, .ptr 1 0), (2, .ptr 0 0), (36, .ptr 1 0), (38, .int .i64 i), (34, .ro [.str f.name, .int .i64 f.args, .int .i64 f.locals, .sl z (f.code.map INP) t o] 0 true), (6, .ptr 2 0), (7, .ptr 3 0)], [(0, .box (pgc zf lf tf zc lc tc)), (1, .box (pgc yf mf uf yc mc uc)), (2, .box [.str [], .int .i64 0, .int .i64 0, .sl 0 [] true false]), (3, .box [.str [], .int .i64 0, .int .i64 0, .sl 0 [] true false])], []⟩
def inv31s27b (zf : Nat) (lf : List PV) (tf : Bool) (zc : Nat) (lc : List PV) (tc : Bool) (yf : Nat) (mf : List PV) (uf : Bool) (yc : Nat) (mc : List PV) (uc : Bool) (f : FD) (z : Nat) (t o : Bool) (y : Nat) (u o2 : Bool) (i : Nat) : St := ⟨87, [(5, .int .i64 i), (3, .ptr 1 0), (2, .ptr 0 0), (36, .ptr 1 0), (38, .int .i64 i), (34, .ro [.str f.name, .int .i64 f.args, .int .i64 f.locals, .sl z (f.code.map INP) t o] 0 true), (6, .ptr 3 0), (7, .ptr 2 0)], [(0, .box (pgc zf lf tf zc lc tc)), (1, .box (pgc yf mf uf yc mc uc)), (3, .box [.str [], .int .i64 0, .int .i64 0, .sl 0 [] true false]), (2, .box [.str [], .int .i64 0, .int .i64 0, .sl 0 [] true false])], []⟩
def inv31s28a (zf : Nat) (lf : List PV) (tf : Bool) (zc : Nat) (lc : List PV) (tc : Bool) (yf : Nat) (mf : List PV) (uf : Bool) (yc : Nat) (mc : List PV) (uc : Bool) (f : FD) (z : Nat) (t o : Bool) (y : Nat) (u o2 : Bool) (i : Nat) : St := ⟨87, [(5, .int .i64 i), (3, .ptr 1 0), (2, .ptr 0 0), (38, .int .i64 i), (34, .ro [.str f.name, .int .i64 f.args, .int .i64 f.locals, .sl z (f.code.map INP) t o] 0 true), (37, .sl yf mf uf true), (7, .ptr 2 0)], [(0, .box (pgc zf lf tf zc lc tc)), (1, .box (pgc yf mf uf yc mc uc)), (2, .box [.str [], .int .i64 0, .int .i64 0, .sl 0 [] true false])], []⟩
def inv31s29a (zf : Nat) (lf : List PV) (tf : Bool) (zc : Nat) (lc : List PV) (tc : Bool) (yf : Nat) (mf : List PV) (uf : Bool) (yc : Nat) (mc : List PV) (uc : Bool) (f : FD) (z : Nat) (t o : Bool) (y : Nat) (u o2 : Bool) (i : Nat) : St := ⟨87, [(5, .int .i64 i), (3, .ptr 1 0), (2, .ptr 0 0), (33, .int .i64 i), (32, .sl zf lf tf true), (40, .agg (fdc f y u))], [(0, .box (pgc zf lf tf zc lc tc)), (1, .box (pgc yf mf uf yc mc uc))], []⟩
def inv31s30a (zf : Nat) (lf : List PV) (tf : Bool) (zc : Nat) (lc : List PV) (tc : Bool) (yf : Nat) (mf : List PV) (uf : Bool) (yc : Nat) (mc : List PV) (uc : Bool) (f : FD) (z : Nat) (t o : Bool) (y : Nat) (u o2 : Bool) (i : Nat) : St := ⟨87, [(5, .int .i64 i), (3, .ptr 1 0), (2, .ptr 0 0), (31, .ptr 0 0), (33, .int .i64 i), (40, .agg (fdc f y u)), (6, .ptr 2 0)], [(0, .box (pgc zf lf tf zc lc tc)), (1, .box (pgc yf mf uf yc mc uc)), (2, .box [.str [], .int .i64 0, .int .i64 0, .sl 0 [] true false])], []⟩
def inv31s31a (zf : Nat) (lf : List PV) (tf : Bool) (zc : Nat) (lc : List PV) (tc : Bool) (yf : Nat) (mf : List PV) (uf : Bool) (yc : Nat) (mc : List PV) (uc : Bool) (f : FD) (z : Nat) (t o : Bool) (y : Nat) (u o2 : Bool) (i : Nat) : St := ⟨87, [(5, .int .i64 i), (3, .ptr 1 0), (2, .ptr 0 0), (31, .ptr 0 0), (33, .int .i64 i), (40, .agg (fdc f y u)), (7, .ptr 2 0)], [(0, .box (pgc zf lf tf zc lc tc)), (1, .box (pgc yf mf uf yc mc uc)), (2, .box [.str [], .int .i64 0, .int .i64 0, .sl 0 [] true false])], []⟩
def inv31s32a (zf : Nat) (lf : List PV) (tf : Bool) (zc : Nat) (lc : List PV) (tc : Bool) (yf : Nat) (mf : List PV) (uf : Bool) (yc : Nat) (mc : List PV) (uc : Bool) (f : FD) (z : Nat) (t o : Bool) (y : Nat) (u o2 : Bool) (i : Nat) : St := ⟨87, [(5, .int .i64 i), (3, .ptr 1 0), (2, .ptr 0 0), (33, .int .i64 i), (32, .sl zf lf tf true), (39, .ro [.str f.name, .int .i64 f.args, .int .i64 f.locals, .sl y (f.code.map INP) u o2] 0 true), (6, .ptr 2 0)], [(0, .box (pgc zf lf tf zc lc tc)), (1, .box (pgc yf mf uf yc mc uc)), (2, .box [.str [], .int .i64 0, .int .i64 0, .sl 0 [] true false])], []⟩
def inv31s33a (zf : Nat) (lf : List PV) (tf : Bool) (zc : Nat) (lc : List PV) (tc : Bool) (yf : Nat) (mf : List PV) (uf : Bool) (yc : Nat) (mc : List PV) (uc : Bool) (f : FD) (z : Nat) (t o : Bool) (y : Nat) (u o2 : Bool) (i : Nat) : St := ⟨87, [(5, .int .i64 i), (3, .ptr 1 0), (2, .ptr 0 0), (31, .ptr 0 0), (33, .int .i64 i), (39, .ro [.str f.name, .int .i64 f.args, .int .i64 f.locals, .sl y (f.code.map INP) u o2] 0 true), (6, .ptr 2 0), (7, .ptr 3 0)], [(0, .box (pgc zf lf tf zc lc tc)), (1, .box (pgc yf mf uf yc mc uc)), (2, .box [.str [], .int .i64 0, .int .i64 0, .sl 0 [] true false]), (3, .box [.str [], .int .i64 0, .int .i64 0, .sl 0 [] true false])], []⟩
def inv31s33b (zf : Nat) (lf : List PV) (tf : Bool) (zc : Nat) (lc : List PV) (tc : Bool) (yf : Nat) (mf : List PV) (uf : Bool) (yc : Nat) (mc : List PV) (uc : Bool) (f : FD) (z : Nat) (t o : Bool) (y : Nat) (u o2 : Bool) (i : Nat) : St := ⟨87, [(5, .int .i64 i), (3, .ptr 1 0), (2, .ptr 0 0), (31, .ptr 0 0), (33, .int .i64 i), (39, .ro [.str f.name, .int .i64 f.args, .int .i64 f.locals, .sl y (f.code.map INP) u o2] 0 true), (6, .ptr 3 0), (7, .ptr 2 0)], [(0, .box (pgc zf lf tf zc lc tc)), (1, .box (pgc yf mf uf yc mc uc)), (3, .box [.str [], .int .i64 0, .int .i64 0, .sl 0 [] true false]), (2, .box [.str [], .int .i64 0, .int .i64 0, .sl 0 [] true false])], []⟩
def inv31s34a (zf : Nat) (lf : List PV) (tf : Bool) (zc : Nat) (lc : List PV) (tc : Bool) (yf : Nat) (mf : List PV) (uf : Bool) (yc : Nat) (mc : List PV) (uc : Bool) (f : FD) (z : Nat) (t o : Bool) (y : Nat) (u o2 : Bool) (i : Nat) : St := ⟨87, [(5, .int .i64 i), (3, .ptr 1 0), (2, .ptr 0 0), (33, .int .i64 i), (32, .sl zf lf tf true), (39, .ro [.str f.name, .int .i64 f.args, .int .i64 f.locals, .sl y (f.code.map INP) u o2] 0 true), (7, .ptr 2 0)], [(0, .box (pgc zf lf tf zc lc tc)), (1, .box (pgc yf mf uf yc mc uc)), (2, .box [.str [], .int .i64 0, .int .i64 0, .sl 0 [] true false])], []⟩
def inv31s35a (zf : Nat) (lf : List PV) (tf : Bool) (zc : Nat) (lc : List PV) (tc : Bool) (yf : Nat) (mf : List PV) (uf : Bool) (yc : Nat) (mc : List PV) (uc : Bool) (f : FD) (z : Nat) (t o : Bool) (y : Nat) (u o2 : Bool) (i : Nat) : St := ⟨87, [(5, .int .i64 i), (3, .ptr 1 0), (2, .ptr 0 0), (35, .agg (fdc f z t)), (39, .ro [.str f.name, .int .i64 f.args, .int .i64 f.locals, .sl y (f.code.map INP) u o2] 0 true)], [(0, .box (pgc zf lf tf zc lc tc)), (1, .box (pgc yf mf uf yc mc uc))], []⟩
def inv31s36a (zf : Nat) (lf : List PV) (tf : Bool) (zc : Nat) (lc : List PV) (tc : Bool) (yf : Nat) (mf : List PV) (uf : Bool) (yc : Nat) (mc : List PV) (uc : Bool) (f : FD) (z : Nat) (t o : Bool) (y : Nat) (u o2 : Bool) (i : Nat) : St := ⟨87, [(5, .int .i64 i), (3, .ptr 1 0), (2, .ptr 0 0), (38, .int .i64 i), (35, .agg (fdc f z t)), (37, .sl yf mf uf true), (6, .ptr 2 0)], [(0, .box (pgc zf lf tf zc lc tc)), (1, .box (pgc yf mf uf yc mc uc)), (2, .box [.str [], .int .i64 0, .int .i64 0, .sl 0 [] true false])], []⟩
def inv31s37a (zf : Nat) (lf : List PV) (tf : Bool) (zc : Nat) (lc : List PV) (tc : Bool) (yf : Nat) (mf : List PV) (uf : Bool) (yc : Nat) (mc : List PV) (uc : Bool) (f : FD) (z : Nat) (t o : Bool) (y : Nat) (u o2 : Bool) (i : Nat) : St := ⟨87, [(5, .int .i64 i), (3, .ptr 1 0), (2, .ptr 0 0), (36, .ptr 1 0), (38, .int .i64 i), (35, .agg (fdc f z t)), (6, .ptr 2 0), (7, .ptr 3 0)], [(0, .box (pgc zf lf tf zc lc tc)), (1, .box (pgc yf mf uf yc mc uc)), (2, .box [.str [], .int .i64 0, .int .i64 0, .sl 0 [] true false]), (3, .box [.str [], .int .i64 0, .int .i64 0, .sl 0 [] true false])], []⟩
def inv31s37b (zf : Nat) (lf : List PV) (tf : Bool) (zc : Nat) (lc : List PV) (tc : Bool) (yf : Nat) (mf : List PV) (uf : Bool) (yc : Nat) (mc : List PV) (uc : Bool) (f : FD) (z : Nat) (t o : Bool) (y : Nat) (u o2 : Bool) (i : Nat) : St := ⟨87, [(5, .int .i64 i), (3, .ptr 1 0), (2, .ptr 0 0), (36, .ptr 1 0), (38, .int .i64 i), (35, .agg (fdc f z t)), (6, .ptr 3 0), (7, .ptr 2 0)], [(0, .box (pgc zf lf tf zc lc tc)), (1, .box (pgc yf mf uf yc mc uc)), (3, .box [.str [], .int .i64 0, .int .i64 0, .sl 0 [] true false]), (2, .box [.str [], .int .i64 0, .int .i64 0, .sl 0 [] true false])], []⟩
def inv31s38a (zf : Nat) (lf : List PV) (tf : Bool) (zc : Nat) (lc : List PV) (tc : Bool) (yf : Nat) (mf : List PV) (uf : Bool) (yc : Nat) (mc : List PV) (uc : Bool) (f : FD) (z : Nat) (t o : Bool) (y : Nat) (u o2 : Bool) (i : Nat) : St := ⟨87, [(5, .int .i64 i), (3, .ptr 1 0), (2, .ptr 0 0), (38, .int .i64 i), (35, .agg (fdc f z t)), (37, .sl yf mf uf true), (7, .ptr 2 0)], [(0, .box (pgc zf lf tf zc lc tc)), (1, .box (pgc yf mf uf yc mc uc)), (2, .box [.str [], .int .i64 0, .int .i64 0, .sl 0 [] true false])], []⟩
def inv31s39a (zf : Nat) (lf : List PV) (tf : Bool) (zc : Nat) (lc : List PV) (tc : Bool) (yf : Nat) (mf : List PV) (uf : Bool) (yc : Nat) (mc : List PV) (uc : Bool) (f : FD) (z : Nat) (t o : Bool) (y : Nat) (u o2 : Bool) (i : Nat) : St := ⟨87, [(5, .int .i64 i), (3, .ptr 1 0), (2, .ptr 0 0), (34, .ro [.str f.name, .int .i64 f.args, .int .i64 f.locals, .sl z (f.code.map INP) t o] 0 true), (40, .agg (fdc f y u))], [(0, .box (pgc zf lf tf zc lc tc)), (1, .box (pgc yf mf uf yc mc uc))], []⟩
def inv31s40a (zf : Nat) (lf : List PV) (tf : Bool) (zc : Nat) (lc : List PV) (tc : Bool) (yf : Nat) (mf : List PV) (uf : Bool) (yc : Nat) (mc : List PV) (uc : Bool) (f : FD) (z : Nat) (t o : Bool) (y : Nat) (u o2 : Bool) (i : Nat) : St := ⟨87, [(5, .int .i64 i), (3, .ptr 1 0), (2, .ptr 0 0), (34, .ro [.str f.name, .int .i64 f.args, .int .i64 f.locals, .sl z (f.code.map INP) t o] 0 true), (39, .ro [.str f.name, .int .i64 f.args, .int .i64 f.locals, .sl y (f.code.map INP) u o2] 0 true), (6, .ptr 2 0)], [(0, .box (pgc zf lf tf zc lc tc)), (1, .box (pgc yf mf uf yc mc uc)), (2, .box [.str [], .int .i64 0, .int .i64 0, .sl 0 [] true false])], []⟩
def inv31s41a (zf : Nat) (lf : List PV) (tf : Bool) (zc : Nat) (lc : List PV) (tc : Bool) (yf : Nat) (mf : List PV) (uf : Bool) (yc : Nat) (mc : List PV) (uc : Bool) (f : FD) (z : Nat) (t o : Bool) (y : Nat) (u o2 : Bool) (i : Nat) : St := ⟨87, [(5, .int .i64 i), (3, .ptr 1 0), (2, .ptr 0 0), (34, .ro [.str f.name, .int .i64 f.args, .int .i64 f.locals, .sl z (f.code.map INP) t o] 0 true), (39, .ro [.str f.name, .int .i64 f.args, .int .i64 f.locals, .sl y (f.code.map INP) u o2] 0 true), (7, .ptr 2 0)], [(0, .box (pgc zf lf tf zc lc tc)), (1, .box (pgc yf mf uf yc mc uc)), (2, .box [.str [], .int .i64 0, .int .i64 0, .sl 0 [] true false])], []⟩
def inv31s42a (zf : Nat) (lf : List PV) (tf : Bool) (zc : Nat) (lc : List PV) (tc : Bool) (yf : Nat) (mf : List PV) (uf : Bool) (yc : Nat) (mc : List PV) (uc : Bool) (f : FD) (z : Nat) (t o : Bool) (y : Nat) (u o2 : Bool) (i : Nat) : St := ⟨87, [(5, .int .i64 i), (3, .ptr 1 0), (2, .ptr 0 0), (38, .int .i64 i), (34, .ro [.str f.name, .int .i64 f.args, .int .i64 f.locals, .sl z (f.code.map INP) t o] 0 true), (37, .sl yf mf uf true), (6, .ptr 2 0), (7, .ptr 3 0)], [(0, .box (pgc zf lf tf zc lc tc)), (1, .box (pgc yf mf uf yc mc uc)), (2, .box [.str [], .int .i64 0, .int .i64 0, .sl 0 [] true false]), (3, .box [.str [], .int .i64 0, .int .i64 0, .sl 0 [] true false])], []⟩
def inv31s42b (zf : Nat) (lf : List PV) (tf : Bool) (zc : Nat) (lc : List PV) (tc : Bool) (yf : Nat) (mf : List PV) (uf : Bool) (yc : Nat) (mc : List PV) (uc : Bool) (f : FD) (z : Nat) (t o : Bool) (y : Nat) (u o2 : Bool) (i : Nat) : St := ⟨87, [(5, .int .i64 i), (3, .ptr 1 0), (2, .ptr 0 0), (38, .int .i64 i), (34, .ro [.str f.name, .int .i64 f.args, .int .i64 f.locals, .sl z (f.code.map INP) t o] 0 true), (37, .sl yf mf uf true), (6, .ptr 3 0), (7, .ptr 2 0)], [(0, .box (pgc zf lf tf zc lc tc)), (1, .box (pgc yf mf uf yc mc uc)), (3, .box [.str [], .int .i64 0, .int .i64 0, .sl 0 [] true false]), (2, .box [.str [], .int .i64 0, .int .i64 0, .sl 0 [] true false])], []⟩
def inv31s43a (zf : Nat) (lf : List PV) (tf : Bool) (zc : Nat) (lc : List PV) (tc : Bool) (yf : Nat) (mf : List PV) (uf : Bool) (yc : Nat) (mc : List PV) (uc : Bool) (f : FD) (z : Nat) (t o : Bool) (y : Nat) (u o2 : Bool) (i : Nat) : St := ⟨87, [(5, .int .i64 i), (3, .ptr 1 0), (2, .ptr 0 0), (33, .int .i64 i), (32, .sl zf lf tf true), (40, .agg (fdc f y u)), (6, .ptr 2 0)], [(0, .box (pgc zf lf tf zc lc tc)), (1, .box (pgc yf mf uf yc mc uc)), (2, .box [.str [], .int .i64 0, .int .i64 0, .sl 0 [] true false])], []⟩
def inv31s44a (zf : Nat) (lf : List PV) (tf : Bool) (zc : Nat) (lc : List PV) (tc : Bool) (yf : Nat) (mf : List PV) (uf : Bool) (yc : Nat) (mc : List PV) (uc : Bool) (f : FD) (z : Nat) (t o : Bool) (y : Nat) (u o2 : Bool) (i : Nat) : St := ⟨87, [(5, .int .i64 i), (3, .ptr 1 0), (2, .ptr 0 0), (31, .ptr 0 0), (33, .int .i64 i), (40, .agg (fdc f y u)), (6, .ptr 2 0), (7, .ptr 3 0)], [(0, .box (pgc zf lf tf zc lc tc)), (1, .box (pgc yf mf uf yc mc uc)), (2, .box [.str [], .int .i64 0, .int .i64 0, .sl 0 [] true false]), (3, .box [.str [], .int .i64 0, .int .i64 0, .sl 0 [] true false])], []⟩
def inv31s44b (zf : Nat) (lf : List PV) (tf : Bool) (zc : Nat) (lc : List PV) (tc : Bool) (yf : Nat) (mf : List PV) (uf : Bool) (yc : Nat) (mc : List PV) (uc : Bool) (f : FD) (z : Nat) (t o : Bool) (y : Nat) (u o2 : Bool) (i : Nat) : St := ⟨87, [(5, .int .i64 i), (3, .ptr 1 0), (2, .ptr 0 0), (31, .ptr 0 0), (33, .int .i64 i), (40, .agg (fdc f y u)), (6, .ptr 3 0), (7, .ptr 2 0)], [(0, .box (pgc zf lf tf zc lc tc)), (1, .box (pgc yf mf uf yc mc uc)), (3, .box [.str [], .int .i64 0, .int .i64 0, .sl 0 [] true false]), (2, .box [.str [], .int .i64 0, .int .i64 0, .sl 0 [] true false])], []⟩
def inv31s45a (zf : Nat) (lf : List PV) (tf : Bool) (zc : Nat) (lc : List PV) (tc : Bool) (yf : Nat) (mf : List PV) (uf : Bool) (yc : Nat) (mc : List PV) (uc : Bool) (f : FD) (z : Nat) (t o : Bool) (y : Nat) (u o2 : Bool) (i : Nat) : St := ⟨87, [(5, .int .i64 i), (3, .ptr 1 0), (2, .ptr 0 0), (33, .int .i64 i), (32, .sl zf lf tf true), (40, .agg (fdc f y u)), (7, .ptr 2 0)], [(0, .box (pgc zf lf tf zc lc tc)), (1, .box (pgc yf mf uf yc mc uc)), (2, .box [.str [], .int .i64 0, .int .i64 0, .sl 0 [] true false])], []⟩
def inv31s46a (zf : Nat) (lf : List PV) (tf : Bool) (zc : Nat) (lc : List PV) (tc : Bool) (yf : Nat) (mf : List PV) (uf : Bool) (yc : Nat) (mc : List PV) (uc : Bool) (f : FD) (z : Nat) (t o : Bool) (y : Nat) (u o2 : Bool) (i : Nat) : St := ⟨87, [(5, .int .i64 i), (3, .ptr 1 0), (2, .ptr 0 0), (33, .int .i64 i), (32, .sl zf lf tf true), (39, .ro [.str f.name, .int .i64 f.args, .int .i64 f.locals, .sl y (f.code.map INP) u o2] 0 true), (6, .ptr 2 0), (7, .ptr 3 0)], [(0, .box (pgc zf lf tf zc lc tc)), (1, .box (pgc yf mf uf yc mc uc)), (2, .box [.str [], .int .i64 0, .int .i64 0, .sl 0 [] true false]), (3, .box [.str [], .int .i64 0, .int .i64 0, .sl 0 [] true false])], []⟩
def inv31s46b (zf : Nat) (lf : List PV) (tf : Bool) (zc : Nat) (lc : List PV) (tc : Bool) (yf : Nat) (mf : List PV) (uf : Bool) (yc : Nat) (mc : List PV) (uc : Bool) (f : FD) (z : Nat) (t o : Bool) (y : Nat) (u o2 : Bool) (i : Nat) : St := ⟨87, [(5, .int .i64 i), (3, .ptr 1 0), (2, .ptr 0 0), (33, .int .i64 i), (32, .sl zf lf tf true), (39, .ro [.str f.name, .int .i64 f.args, .int .i64 f.locals, .sl y (f.code.map INP) u o2] 0 true), (6, .ptr 3 0), (7, .ptr 2 0)], [(0, .box (pgc zf lf tf zc lc tc)), (1, .box (pgc yf mf uf yc mc uc)), (3, .box [.str [], .int .i64 0, .int .i64 0, .sl 0 [] true false]), (2, .box [.str [], .int .i64 0, .int .i64 0, .sl 0 [] true false])], []⟩
def inv31s47a (zf : Nat) (lf : List PV) (tf : Bool) (zc : Nat) (lc : List PV) (tc : Bool) (yf : Nat) (mf : List PV) (uf : Bool) (yc : Nat) (mc : List PV) (uc : Bool) (f : FD) (z : Nat) (t o : Bool) (y : Nat) (u o2 : Bool) (i : Nat) : St := ⟨87, [(5, .int .i64 i), (3, .ptr 1 0), (2, .ptr 0 0), (35, .agg (fdc f z t)), (40, .agg (fdc f y u))], [(0, .box (pgc zf lf tf zc lc tc)), (1, .box (pgc yf mf uf yc mc uc))], []⟩
def inv31s48a (zf : Nat) (lf : List PV) (tf : Bool) (zc : Nat) (lc : List PV) (tc : Bool) (yf : Nat) (mf : List PV) (uf : Bool) (yc : Nat) (mc : List PV) (uc : Bool) (f : FD) (z : Nat) (t o : Bool) (y : Nat) (u o2 : Bool) (i : Nat) : St := ⟨87, [(5, .int .i64 i), (3, .ptr 1 0), (2, .ptr 0 0), (35, .agg (fdc f z t)), (39, .ro [.str f.name, .int .i64 f.args, .int .i64 f.locals, .sl y (f.code.map INP) u o2] 0 true), (6, .ptr 2 0)], [(0, .box (pgc zf lf tf zc lc tc)), (1, .box (pgc yf mf uf yc mc uc)), (2, .box [.str [], .int .i64 0, .int .i64 0, .sl 0 [] true false])], []⟩
def inv31s49a (zf : Nat) (lf : List PV) (tf : Bool) (zc : Nat) (lc : List PV) (tc : Bool) (yf : Nat) (mf : List PV) (uf : Bool) (yc : Nat) (mc : List PV) (uc : Bool) (f : FD) (z : Nat) (t o : Bool) (y : Nat) (u o2 : Bool) (i : Nat) : St := ⟨87, [(5, .int .i64 i), (3, .ptr 1 0), (2, .ptr 0 0), (35, .agg (fdc f z t)), (39, .ro [.str f.name, .int .i64 f.args, .int .i64 f.locals, .sl y (f.code.map INP) u o2] 0 true), (7, .ptr 2 0)], [(0, .box (pgc zf lf tf zc lc tc)), (1, .box (pgc yf mf uf yc mc uc)), (2, .box [.str [], .int .i64 0, .int .i64 0, .sl 0 [] true false])], []⟩
def inv31s50a (zf : Nat) (lf : List PV) (tf : Bool) (zc : Nat) (lc : List PV) (tc : Bool) (yf : Nat) (mf : List PV) (uf : Bool) (yc : Nat) (mc : List PV) (uc : Bool) (f : FD) (z : Nat) (t o : Bool) (y : Nat) (u o2 : Bool) (i : Nat) : St := ⟨87, [(5, .int .i64 i), (3, .ptr 1 0), (2, .ptr 0 0), (38, .int .i64 i), (35, .agg (fdc f z t)), (37, .sl yf mf uf true), (6, .ptr 2 0), (7, .ptr 3 0)], [(0, .box (pgc zf lf tf zc lc tc)), (1, .box (pgc yf mf uf yc mc uc)), (2, .box [.str [], .int .i64 0, .int .i64 0, .sl 0 [] true false]), (3, .box [.str [], .int .i64 0, .int .i64 0, .sl 0 [] true false])], []⟩
def inv31s50b (zf : Nat) (lf : List PV) (tf : Bool) (zc : Nat) (lc : List PV) (tc : Bool) (yf : Nat) (mf : List PV) (uf : Bool) (yc : Nat) (mc : List PV) (uc : Bool) (f : FD) (z : Nat) (t o : Bool) (y : Nat) (u o2 : Bool) (i : Nat) : St := ⟨87, [(5, .int .i64 i), (3, .ptr 1 0), (2, .ptr 0 0), (38, .int .i64 i), (35, .agg (fdc f z t)), (37, .sl yf mf uf true), (6, .ptr 3 0), (7, .ptr 2 0)], [(0, .box (pgc zf lf tf zc lc tc)), (1, .box (pgc yf mf uf yc mc uc)), (3, .box [.str [], .int .i64 0, .int .i64 0, .sl 0 [] true false]), (2, .box [.str [], .int .i64 0, .int .i64 0, .sl 0 [] true false])], []⟩
def inv31s51a (zf : Nat) (lf : List PV) (tf : Bool) (zc : Nat) (lc : List PV) (tc : Bool) (yf : Nat) (mf : List PV) (uf : Bool) (yc : Nat) (mc : List PV) (uc : Bool) (f : FD) (z : Nat) (t o : Bool) (y : Nat) (u o2 : Bool) (i : Nat) : St := ⟨87, [(5, .int .i64 i), (3, .ptr 1 0), (2, .ptr 0 0), (36, .ptr 1 0), (38, .int .i64 i), (6, .ptr 2 0), (7, .ptr 3 0)], [(0, .box (pgc zf lf tf zc lc tc)), (1, .box (pgc yf mf uf yc mc uc)), (2, .box (fdc f z t)), (3, .box [.str [], .int .i64 0, .int .i64 0, .sl 0 [] true false])], []⟩
def inv31s51b (zf : Nat) (lf : List PV) (tf : Bool) (zc : Nat) (lc : List PV) (tc : Bool) (yf : Nat) (mf : List PV) (uf : Bool) (yc : Nat) (mc : List PV) (uc : Bool) (f : FD) (z : Nat) (t o : Bool) (y : Nat) (u o2 : Bool) (i : Nat) : St := ⟨87, [(5, .int .i64 i), (3, .ptr 1 0), (2, .ptr 0 0), (36, .ptr 1 0), (38, .int .i64 i), (6, .ptr 3 0), (7, .ptr 2 0)], [(0, .box (pgc zf lf tf zc lc tc)), (1, .box (pgc yf mf uf yc mc uc)), (3, .box (fdc f z t)), (2, .box [.str [], .int .i64 0, .int .i64 0, .sl 0 [] true false])], []⟩
def inv31s52a (zf : Nat) (lf : List PV) (tf : Bool) (zc : Nat) (lc : List PV) (tc : Bool) (yf : Nat) (mf : List PV) (uf : Bool) (yc : Nat) (mc : List PV) (uc : Bool) (f : FD) (z : Nat) (t o : Bool) (y : Nat) (u o2 : Bool) (i : Nat) : St := ⟨87, [(5, .int .i64 i), (3, .ptr 1 0), (2, .ptr 0 0), (34, .ro [.str f.name, .int .i64 f.args, .int .i64 f.locals, .sl z (f.code.map INP) t o] 0 true), (40, .agg (fdc f y u)), (6, .ptr 2 0)], [(0, .box (pgc zf lf tf zc lc tc)), (1, .box (pgc yf mf uf yc mc uc)), (2, .box [.str [], .int .i64 0, .int .i64 0, .sl 0 [] true false])], []⟩
def inv31s53a (zf : Nat) (lf : List PV) (tf : Bool) (zc : Nat) (lc : List PV) (tc : Bool) (yf : Nat) (mf : List PV) (uf : Bool) (yc : Nat) (mc : List PV) (uc : Bool) (f : FD) (z : Nat) (t o : Bool) (y : Nat) (u o2 : Bool) (i : Nat) : St := ⟨87, [(5, .int .i64 i), (3, .ptr 1 0), (2, .ptr 0 0), (34, .ro [.str f.name, .int .i64 f.args, .int .i64 f.locals, .sl z (f.code.map INP) t o] 0 true), (40, .agg (fdc f y u)), (7, .ptr 2 0)], [(0, .box (pgc zf lf tf zc lc tc)), (1, .box (pgc yf mf uf yc mc uc)), (2, .box [.str [], .int .i64 0, .int .i64 0, .sl 0 [] true false])], []⟩
def inv31s54a (zf : Nat) (lf : List PV) (tf : Bool) (zc : Nat) (lc : List PV) (tc : Bool) (yf : Nat) (mf : List PV) (uf : Bool) (yc : Nat) (mc : List PV) (uc : Bool) (f : FD) (z : Nat) (t o : Bool) (y : Nat) (u o2 : Bool) (i : Nat) : St := ⟨87, [(5, .int .i64 i), (3, .ptr 1 0), (2, .ptr 0 0), (34, .ro [.str f.name, .int .i64 f.args, .int .i64 f.locals, .sl z (f.code.map INP) t o] 0 true), (39, .ro [.str f.name, .int .i64 f.args, .int .i64 f.locals, .sl y (f.code.map INP) u o2] 0 true), (6, .ptr 2 0), (7, .ptr 3 0)], [(0, .box (pgc zf lf tf zc lc tc)), (1, .box (pgc yf mf uf yc mc uc)), (2, .box [.str [], .int .i64 0, .int .i64 0, .sl 0 [] true false]), (3, .box [.str [], .int .i64 0, .int .i64 0, .sl 0 [] true false])], []⟩
def inv31s54b (zf : Nat) (lf : List PV) (tf : Bool) (zc : Nat) (lc : List PV) (tc : Bool) (yf : Nat) (mf : List PV) (uf : Bool) (yc : Nat) (mc : List PV) (uc : Bool) (f : FD) (z : Nat) (t o : Bool) (y : Nat) (u o2 : Bool) (i : Nat) : St := ⟨87, [(5, .int .i64 i), (3, .ptr 1 0), (2, .ptr 0 0), (34, .ro [.str f.name, .int .i64 f.args, .int .i64 f.locals, .sl z (f.code.map INP) t o] 0 true), (39, .ro [.str f.name, .int .i64 f.args, .int .i64 f.locals, .sl y (f.code.map INP) u o2] 0 true), (6, .ptr 3 0), (7, .ptr 2 0)], [(0, .box (pgc zf lf tf zc lc tc)), (1, .box (pgc yf mf uf yc mc uc)), (3, .box [.str [], .int .i64 0, .int .i64 0, .sl 0 [] true false]), (2, .box [.str [], .int .i64 0, .int .i64 0, .sl 0 [] true false])], []⟩
def inv31s55a (zf : Nat) (lf : List PV) (tf : Bool) (zc : Nat) (lc : List PV) (tc : Bool) (yf : Nat) (mf : List PV) (uf : Bool) (yc : Nat) (mc : List PV) (uc : Bool) (f : FD) (z : Nat) (t o : Bool) (y : Nat) (u o2 : Bool) (i : Nat) : St := ⟨87, [(5, .int .i64 i), (3, .ptr 1 0), (2, .ptr 0 0), (33, .int .i64 i), (32, .sl zf lf tf true), (40, .agg (fdc f y u)), (6, .ptr 2 0), (7, .ptr 3 0)], [(0, .box (pgc zf lf tf zc lc tc)), (1, .box (pgc yf mf uf yc mc uc)), (2, .box [.str [], .int .i64 0, .int .i64 0, .sl 0 [] true false]), (3, .box [.str [], .int .i64 0, .int .i64 0, .sl 0 [] true false])], []⟩
def inv31s55b (zf : Nat) (lf : List PV) (tf : Bool) (zc : Nat) (lc : List PV) (tc : Bool) (yf : Nat) (mf : List PV) (uf : Bool) (yc : Nat) (mc : List PV) (uc : Bool) (f : FD) (z : Nat) (t o : Bool) (y : Nat) (u o2 : Bool) (i : Nat) : St := ⟨87, [(5, .int .i64 i), (3, .ptr 1 0), (2, .ptr 0 0), (33, .int .i64 i), (32, .sl zf lf tf true), (40, .agg (fdc f y u)), (6, .ptr 3 0), (7, .ptr 2 0)], [(0, .box (pgc zf lf tf zc lc tc)), (1, .box (pgc yf mf uf yc mc uc)), (3, .box [.str [], .int .i64 0, .int .i64 0, .sl 0 [] true false]), (2, .box [.str [], .int .i64 0, .int .i64 0, .sl 0 [] true false])], []⟩
def inv31s56a (zf : Nat) (lf : List PV) (tf : Bool) (zc : Nat) (lc : List PV) (tc : Bool) (yf : Nat) (mf : List PV) (uf : Bool) (yc : Nat) (mc : List PV) (uc : Bool) (f : FD) (z : Nat) (t o : Bool) (y : Nat) (u o2 : Bool) (i : Nat) : St := ⟨87, [(5, .int .i64 i), (3, .ptr 1 0), (2, .ptr 0 0), (35, .agg (fdc f z t)), (40, .agg (fdc f y u)), (6, .ptr 2 0)], [(0, .box (pgc zf lf tf zc lc tc)), (1, .box (pgc yf mf uf yc mc uc)), (2, .box [.str [], .int .i64 0, .int .i64 0, .sl 0 [] true false])], []⟩
def inv31s57a (zf : Nat) (lf : List PV) (tf : Bool) (zc : Nat) (lc : List PV) (tc : Bool) (yf : Nat) (mf : List PV) (uf : Bool) (yc : Nat) (mc : List PV) (uc : Bool) (f : FD) (z : Nat) (t o : Bool) (y : Nat) (u o2 : Bool) (i : Nat) : St := ⟨87, [(5, .int .i64 i), (3, .ptr 1 0), (2, .ptr 0 0), (35, .agg (fdc f z t)), (40, .agg (fdc f y u)), (7, .ptr 2 0)], [(0, .box (pgc zf lf tf zc lc tc)), (1, .box (pgc yf mf uf yc mc uc)), (2, .box [.str [], .int .i64 0, .int .i64 0, .sl 0 [] true false])], []⟩
def inv31s58a (zf : Nat) (lf : List PV) (tf : Bool) (zc : Nat) (lc : List PV) (tc : Bool) (yf : Nat) (mf : List PV) (uf : Bool) (yc : Nat) (mc : List PV) (uc : Bool) (f : FD) (z : Nat) (t o : Bool) (y : Nat) (u o2 : Bool) (i : Nat) : St := ⟨87, [(5, .int .i64 i), (3, .ptr 1 0), (2, .ptr 0 0), (35, .agg (fdc f z t)), (39, .ro [.str f.name, .int .i64 f.args, .int .i64 f.locals, .sl y (f.code.map INP) u o2] 0 true), (6, .ptr 2 0), (7, .ptr 3 0)], [(0, .box (pgc zf lf tf zc lc tc)), (1, .box (pgc yf mf uf yc mc uc)), (2, .box [.str [], .int .i64 0, .int .i64 0, .sl 0 [] true false]), (3, .box [.str [], .int .i64 0, .int .i64 0, .sl 0 [] true false])], []⟩
def inv31s58b (zf : Nat) (lf : List PV) (tf : Bool) (zc : Nat) (lc : List PV) (tc : Bool) (yf : Nat) (mf : List PV) (uf : Bool) (yc : Nat) (mc : List PV) (uc : Bool) (f : FD) (z : Nat) (t o : Bool) (y : Nat) (u o2 : Bool) (i : Nat) : St := ⟨87, [(5, .int .i64 i), (3, .ptr 1 0), (2, .ptr 0 0), (35, .agg (fdc f z t)), (39, .ro [.str f.name, .int .i64 f.args, .int .i64 f.locals, .sl y (f.code.map INP) u o2] 0 true), (6, .ptr 3 0), (7, .ptr 2 0)], [(0, .box (pgc zf lf tf zc lc tc)), (1, .box (pgc yf mf uf yc mc uc)), (3, .box [.str [], .int .i64 0, .int .i64 0, .sl 0 [] true false]), (2, .box [.str [], .int .i64 0, .int .i64 0, .sl 0 [] true false])], []⟩
def inv31s59a (zf : Nat) (lf : List PV) (tf : Bool) (zc : Nat) (lc : List PV) (tc : Bool) (yf : Nat) (mf : List PV) (uf : Bool) (yc : Nat) (mc : List PV) (uc : Bool) (f : FD) (z : Nat) (t o : Bool) (y : Nat) (u o2 : Bool) (i : Nat) : St := ⟨87, [(5, .int .i64 i), (3, .ptr 1 0), (2, .ptr 0 0), (38, .int .i64 i), (37, .sl yf mf uf true), (6, .ptr 2 0), (7, .ptr 3 0)], [(0, .box (pgc zf lf tf zc lc tc)), (1, .box (pgc yf mf uf yc mc uc)), (2, .box (fdc f z t)), (3, .box [.str [], .int .i64 0, .int .i64 0, .sl 0 [] true false])], []⟩
def inv31s59b (zf : Nat) (lf : List PV) (tf : Bool) (zc : Nat) (lc : List PV) (tc : Bool) (yf : Nat) (mf : List PV) (uf : Bool) (yc : Nat) (mc : List PV) (uc : Bool) (f : FD) (z : Nat) (t o : Bool) (y : Nat) (u o2 : Bool) (i : Nat) : St := ⟨87, [(5, .int .i64 i), (3, .ptr 1 0), (2, .ptr 0 0), (38, .int .i64 i), (37, .sl yf mf uf true), (6, .ptr 3 0), (7, .ptr 2 0)], [(0, .box (pgc zf lf tf zc lc tc)), (1, .box (pgc yf mf uf yc mc uc)), (3, .box (fdc f z t)), (2, .box [.str [], .int .i64 0, .int .i64 0, .sl 0 [] true false])], []⟩
def inv31s60a (zf : Nat) (lf : List PV) (tf : Bool) (zc : Nat) (lc : List PV) (tc : Bool) (yf : Nat) (mf : List PV) (uf : Bool) (yc : Nat) (mc : List PV) (uc : Bool) (f : FD) (z : Nat) (t o : Bool) (y : Nat) (u o2 : Bool) (i : Nat) : St := ⟨87, [(5, .int .i64 i), (3, .ptr 1 0), (2, .ptr 0 0), (34, .ro [.str f.name, .int .i64 f.args, .int .i64 f.locals, .sl z (f.code.map INP) t o] 0 true), (40, .agg (fdc f y u)), (6, .ptr 2 0), (7, .ptr 3 0)], [(0, .box (pgc zf lf tf zc lc tc)), (1, .box (pgc yf mf uf yc mc uc)), (2, .box [.str [], .int .i64 0, .int .i64 0, .sl 0 [] true false]), (3, .box [.str [], .int .i64 0, .int .i64 0, .sl 0 [] true false])], []⟩
def inv31s60b (zf : Nat) (lf : List PV) (tf : Bool) (zc : Nat) (lc : List PV) (tc : Bool) (yf : Nat) (mf : List PV) (uf : Bool) (yc : Nat) (mc : List PV) (uc : Bool) (f : FD) (z : Nat) (t o : Bool) (y : Nat) (u o2 : Bool) (i : Nat) : St := ⟨87, [(5, .int .i64 i), (3, .ptr 1 0), (2, .ptr 0 0), (34, .ro [.str f.name, .int .i64 f.args, .int .i64 f.locals, .sl z (f.code.map INP) t o] 0 true), (40, .agg (fdc f y u)), (6, .ptr 3 0), (7, .ptr 2 0)], [(0, .box (pgc zf lf tf zc lc tc)), (1, .box (pgc yf mf uf yc mc uc)), (3, .box [.str [], .int .i64 0, .int .i64 0, .sl 0 [] true false]), (2, .box [.str [], .int .i64 0, .int .i64 0, .sl 0 [] true false])], []⟩
def inv31s61a (zf : Nat) (lf : List PV) (tf : Bool) (zc : Nat) (lc : List PV) (tc : Bool) (yf : Nat) (mf : List PV) (uf : Bool) (yc : Nat) (mc : List PV) (uc : Bool) (f : FD) (z : Nat) (t o : Bool) (y : Nat) (u o2 : Bool) (i : Nat) : St := ⟨87, [(5, .int .i64 i), (3, .ptr 1 0), (2, .ptr 0 0), (35, .agg (fdc f z t)), (40, .agg (fdc f y u)), (6, .ptr 2 0), (7, .ptr 3 0)], [(0, .box (pgc zf lf tf zc lc tc)), (1, .box (pgc yf mf uf yc mc uc)), (2, .box [.str [], .int .i64 0, .int .i64 0, .sl 0 [] true false]), (3, .box [.str [], .int .i64 0, .int .i64 0, .sl 0 [] true false])], []⟩
def inv31s61b (zf : Nat) (lf : List PV) (tf : Bool) (zc : Nat) (lc : List PV) (tc : Bool) (yf : Nat) (mf : List PV) (uf : Bool) (yc : Nat) (mc : List PV) (uc : Bool) (f : FD) (z : Nat) (t o : Bool) (y : Nat) (u o2 : Bool) (i : Nat) : St := ⟨87, [(5, .int .i64 i), (3, .ptr 1 0), (2, .ptr 0 0), (35, .agg (fdc f z t)), (40, .agg (fdc f y u)), (6, .ptr 3 0), (7, .ptr 2 0)], [(0, .box (pgc zf lf tf zc lc tc)), (1, .box (pgc yf mf uf yc mc uc)), (3, .box [.str [], .int .i64 0, .int .i64 0, .sl 0 [] true false]), (2, .box [.str [], .int .i64 0, .int .i64 0, .sl 0 [] true false])], []⟩
def inv31s62a (zf : Nat) (lf : List PV) (tf : Bool) (zc : Nat) (lc : List PV) (tc : Bool) (yf : Nat) (mf : List PV) (uf : Bool) (yc : Nat) (mc : List PV) (uc : Bool) (f : FD) (z : Nat) (t o : Bool) (y : Nat) (u o2 : Bool) (i : Nat) : St := ⟨87, [(5, .int .i64 i), (3, .ptr 1 0), (2, .ptr 0 0), (39, .ro [.str f.name, .int .i64 f.args, .int .i64 f.locals, .sl y (f.code.map INP) u o2] 0 true), (6, .ptr 2 0), (7, .ptr 3 0)], [(0, .box (pgc zf lf tf zc lc tc)), (1, .box (pgc yf mf uf yc mc uc)), (2, .box (fdc f z t)), (3, .box [.str [], .int .i64 0, .int .i64 0, .sl 0 [] true false])], []⟩
def inv31s62b (zf : Nat) (lf : List PV) (tf : Bool) (zc : Nat) (lc : List PV) (tc : Bool) (yf : Nat) (mf : List PV) (uf : Bool) (yc : Nat) (mc : List PV) (uc : Bool) (f : FD) (z : Nat) (t o : Bool) (y : Nat) (u o2 : Bool) (i : Nat) : St := ⟨87, [(5, .int .i64 i), (3, .ptr 1 0), (2, .ptr 0 0), (39, .ro [.str f.name, .int .i64 f.args, .int .i64 f.locals, .sl y (f.code.map INP) u o2] 0 true), (6, .ptr 3 0), (7, .ptr 2 0)], [(0, .box (pgc zf lf tf zc lc tc)), (1, .box (pgc yf mf uf yc mc uc)), (3, .box (fdc f z t)), (2, .box [.str [], .int .i64 0, .int .i64 0, .sl 0 [] true false])], []⟩
def inv31s63a (zf : Nat) (lf : List PV) (tf : Bool) (zc : Nat) (lc : List PV) (tc : Bool) (yf : Nat) (mf : List PV) (uf : Bool) (yc : Nat) (mc : List PV) (uc : Bool) (f : FD) (z : Nat) (t o : Bool) (y : Nat) (u o2 : Bool) (i : Nat) : St := ⟨87, [(5, .int .i64 i), (3, .ptr 1 0), (2, .ptr 0 0), (40, .agg (fdc f y u)), (6, .ptr 2 0), (7, .ptr 3 0)], [(0, .box (pgc zf lf tf zc lc tc)), (1, .box (pgc yf mf uf yc mc uc)), (2, .box (fdc f z t)), (3, .box [.str [], .int .i64 0, .int .i64 0, .sl 0 [] true false])], []⟩
def inv31s63b (zf : Nat) (lf : List PV) (tf : Bool) (zc : Nat) (lc : List PV) (tc : Bool) (yf : Nat) (mf : List PV) (uf : Bool) (yc : Nat) (mc : List PV) (uc : Bool) (f : FD) (z : Nat) (t o : Bool) (y : Nat) (u o2 : Bool) (i : Nat) : St := ⟨87, [(5, .int .i64 i), (3, .ptr 1 0), (2, .ptr 0 0), (40, .agg (fdc f y u)), (6, .ptr 3 0), (7, .ptr 2 0)], [(0, .box (pgc zf lf tf zc lc tc)), (1, .box (pgc yf mf uf yc mc uc)), (3, .box (fdc f z t)), (2, .box [.str [], .int .i64 0, .int .i64 0, .sl 0 [] true false])], []⟩
def inv31 (zf : Nat) (lf : List PV) (tf : Bool) (zc : Nat) (lc : List PV) (tc : Bool) (yf : Nat) (mf : List PV) (uf : Bool) (yc : Nat) (mc : List PV) (uc : Bool) (f : FD) (z : Nat) (t o : Bool) (y : Nat) (u o2 : Bool) (i : Nat) : Nat → St → Prop
 | 0, st_ => st_ = inv31s0a zf lf tf zc lc tc yf mf uf yc mc uc f z t o y u o2 i
 | 1, st_ => st_ = inv31s1a zf lf tf zc lc tc yf mf uf yc mc uc f z t o y u o2 i
 | 2, st_ => st_ = inv31s2a zf lf tf zc lc tc yf mf uf yc mc uc f z t o y u o2 i
 | 3, st_ => st_ = inv31s3a zf lf tf zc lc tc yf mf uf yc mc uc f z t o y u o2 i
 | 4, st_ => st_ = inv31s4a zf lf tf zc lc tc yf mf uf yc mc uc f z t o y u o2 i
 | 5, st_ => st_ = inv31s5a zf lf tf zc lc tc yf mf uf yc mc uc f z t o y u o2 i
 | 6, st_ => st_ = inv31s6a zf lf tf zc lc tc yf mf uf yc mc uc f z t o y u o2 i
 | 7, st_ => st_ = inv31s7a zf lf tf zc lc tc yf mf uf yc mc uc f z t o y u o2 i
 | 8, st_ => st_ = inv31s8a zf lf tf zc lc tc yf mf uf yc mc uc f z t o y u o2 i
 | 9, st_ => st_ = inv31s9a zf lf tf zc lc tc yf mf uf yc mc uc f z t o y u o2 i ∨ st_ = inv31s9b zf lf tf zc lc tc yf mf uf yc mc uc f z t o y u o2 i
 | 10, st_ => st_ = inv31s10a zf lf tf zc lc tc yf mf uf yc mc uc f z t o y u o2 i
 | 11, st_ => st_ = inv31s11a zf lf tf zc lc tc yf mf uf yc mc uc f z t o y u o2 i
 | 12, st_ => st_ = inv31s12a zf lf tf zc lc tc yf mf uf yc mc uc f z t o y u o2 i
 | 13, st_ => st_ = inv31s13a zf lf tf zc lc tc yf mf uf yc mc uc f z t o y u o2 i
 | 14, st_ => st_ = inv31s14a zf lf tf zc lc tc yf mf uf yc mc uc f z t o y u o2 i
 | 15, st_ => st_ = inv31s15a zf lf tf zc lc tc yf mf uf yc mc uc f z t o y u o2 i
 | 16, st_ => st_ = inv31s16a zf lf tf zc lc tc yf mf uf yc mc uc f z t o y u o2 i
 | 17, st_ => st_ = inv31s17a zf lf tf zc lc tc yf mf uf yc mc uc f z t o y u o2 i
 | 18, st_ => st_ = inv31s18a zf lf tf zc lc tc yf mf uf yc mc uc f z t o y u o2 i
 | 19, st_ => st_ = inv31s19a zf lf tf zc lc tc yf mf uf yc mc uc f z t o y u o2 i
 | 20, st_ => st_ = inv31s20a zf lf tf zc lc tc yf mf uf yc mc uc f z t o y u o2 i ∨ st_ = inv31s20b zf lf tf zc lc tc yf mf uf yc mc uc f z t o y u o2 i
 | 21, st_ => st_ = inv31s21a zf lf tf zc lc tc yf mf uf yc mc uc f z t o y u o2 i ∨ st_ = inv31s21b zf lf tf zc lc tc yf mf uf yc mc uc f z t o y u o2 i
 | 22, st_ => st_ = inv31s22a zf lf tf zc lc tc yf mf uf yc mc uc f z t o y u o2 i
 | 23, st_ => st_ = inv31s23a zf lf tf zc lc tc yf mf uf yc mc uc f z t o y u o2 i
 | 24, st_ => st_ = inv31s24a zf lf tf zc lc tc yf mf uf yc mc uc f z t o y u o2 i
 | 25, st_ => st_ = inv31s25a zf lf tf zc lc tc yf mf uf yc mc uc f z t o y u o2 i
 | 26, st_ => st_ = inv31s26a zf lf tf zc lc tc yf mf uf yc mc uc f z t o y u o2 i
 | 27, st_ => st_ = inv31s27a zf lf tf zc lc tc yf mf uf yc mc uc f z t o y u o2 i ∨ st_ = inv31s27b zf lf tf zc lc tc yf mf uf yc mc uc f z t o y u o2 i
 | 28, st_ => st_ = inv31s28a zf lf tf zc lc tc yf mf uf yc mc uc f z t o y u o2 i
 | 29, st_ => st_ = inv31s29a zf lf tf zc lc tc yf mf uf yc mc uc f z t o y u o2 i
 | 30, st_ => st_ = inv31s30a zf lf tf zc lc tc yf mf uf yc mc uc f z t o y u o2 i
 | 31, st_ => st_ = inv31s31a zf lf tf zc lc tc yf mf uf yc mc uc f z t o y u o2 i
 | 32, st_ => st_ = inv31s32a zf lf tf zc lc tc yf mf uf yc mc uc f z t o y u o2 i
 | 33, st_ => st_ = inv31s33a zf lf tf zc lc tc yf mf uf yc mc uc f z t o y u o2 i ∨ st_ = inv31s33b zf lf tf zc lc tc yf mf uf yc mc uc f z t o y u o2 i
 | 34, st_ => st_ = inv31s34a zf lf tf zc lc tc yf mf uf yc mc uc f z t o y u o2 i
 | 35, st_ => st_ = inv31s35a zf lf tf zc lc tc yf mf uf yc mc uc f z t o y u o2 i
 | 36, st_ => st_ = inv31s36a zf lf tf zc lc tc yf mf uf yc mc uc f z t o y u o2 i
 | 37, st_ => st_ = inv31s37a zf lf tf zc lc tc yf mf uf yc mc uc f z t o y u o2 i ∨ st_ = inv31s37b zf lf tf zc lc tc yf mf uf yc mc uc f z t o y u o2 i
 | 38, st_ => st_ = inv31s38a zf lf tf zc lc tc yf mf uf yc mc uc f z t o y u o2 i
 | 39, st_ => st_ = inv31s39a zf lf tf zc lc tc yf mf uf yc mc uc f z t o y u o2 i
 | 40, st_ => st_ = inv31s40a zf lf tf zc lc tc yf mf uf yc mc uc f z t o y u o2 i
 | 41, st_ => st_ = inv31s41a zf lf tf zc lc tc yf mf uf yc mc uc f z t o y u o2 i
 | 42, st_ => st_ = inv31s42a zf lf tf zc lc tc yf mf uf yc mc uc f z t o y u o2 i ∨ st_ = inv31s42b zf lf tf zc lc tc yf mf uf yc mc uc f z t o y u o2 i
 | 43, st_ => st_ = inv31s43a zf lf tf zc lc tc yf mf uf yc mc uc f z t o y u o2 i
 | 44, st_ => st_ = inv31s44a zf lf tf zc lc tc yf mf uf yc mc uc f z t o y u o2 i ∨ st_ = inv31s44b zf lf tf zc lc tc yf mf uf yc mc uc f z t o y u o2 i
 | 45, st_ => st_ = inv31s45a zf lf tf zc lc tc yf mf uf yc mc uc f z t o y u o2 i
 | 46, st_ => st_ = inv31s46a zf lf tf zc lc tc yf mf uf yc mc uc f z t o y u o2 i ∨ st_ = inv31s46b zf lf tf zc lc tc yf mf uf yc mc uc f z t o y u o2 i
 | 47, st_ => st_ = inv31s47a zf lf tf zc lc tc yf mf uf yc mc uc f z t o y u o2 i
 | 48, st_ => st_ = inv31s48a zf lf tf zc lc tc yf mf uf yc mc uc f z t o y u o2 i
 | 49, st_ => st_ = inv31s49a zf lf tf zc lc tc yf mf uf yc mc uc f z t o y u o2 i
 | 50, st_ => st_ = inv31s50a zf lf tf zc lc tc yf mf uf yc mc uc f z t o y u o2 i ∨ st_ = inv31s50b zf lf tf zc lc tc yf mf uf yc mc uc f z t o y u o2 i
 | 51, st_ => st_ = inv31s51a zf lf tf zc lc tc yf mf uf yc mc uc f z t o y u o2 i ∨ st_ = inv31s51b zf lf tf zc lc tc yf mf uf yc mc uc f z t o y u o2 i
 | 52, st_ => st_ = inv31s52a zf lf tf zc lc tc yf mf uf yc mc uc f z t o y u o2 i
 | 53, st_ => st_ = inv31s53a zf lf tf zc lc tc yf mf uf yc mc uc f z t o y u o2 i
 | 54, st_ => st_ = inv31s54a zf lf tf zc lc tc yf mf uf yc mc uc f z t o y u o2 i ∨ st_ = inv31s54b zf lf tf zc lc tc yf mf uf yc mc uc f z t o y u o2 i
 | 55, st_ => st_ = inv31s55a zf lf tf zc lc tc yf mf uf yc mc uc f z t o y u o2 i ∨ st_ = inv31s55b zf lf tf zc lc tc yf mf uf yc mc uc f z t o y u o2 i
 | 56, st_ => st_ = inv31s56a zf lf tf zc lc tc yf mf uf yc mc uc f z t o y u o2 i
 | 57, st_ => st_ = inv31s57a zf lf tf zc lc tc yf mf uf yc mc uc f z t o y u o2 i
 | 58, st_ => st_ = inv31s58a zf lf tf zc lc tc yf mf uf yc mc uc f z t o y u o2 i ∨ st_ = inv31s58b zf lf tf zc lc tc yf mf uf yc mc uc f z t o y u o2 i
 | 59, st_ => st_ = inv31s59a zf lf tf zc lc tc yf mf uf yc mc uc f z t o y u o2 i ∨ st_ = inv31s59b zf lf tf zc lc tc yf mf uf yc mc uc f z t o y u o2 i
 | 60, st_ => st_ = inv31s60a zf lf tf zc lc tc yf mf uf yc mc uc f z t o y u o2 i ∨ st_ = inv31s60b zf lf tf zc lc tc yf mf uf yc mc uc f z t o y u o2 i
 | 61, st_ => st_ = inv31s61a zf lf tf zc lc tc yf mf uf yc mc uc f z t o y u o2 i ∨ st_ = inv31s61b zf lf tf zc lc tc yf mf uf yc mc uc f z t o y u o2 i
 | 62, st_ => st_ = inv31s62a zf lf tf zc lc tc yf mf uf yc mc uc f z t o y u o2 i ∨ st_ = inv31s62b zf lf tf zc lc tc yf mf uf yc mc uc f z t o y u o2 i
 | 63, st_ => st_ = inv31s63a zf lf tf zc lc tc yf mf uf yc mc uc f z t o y u o2 i ∨ st_ = inv31s63b zf lf tf zc lc tc yf mf uf yc mc uc f z t o y u o2 i
 | _, _ => False
def inv31k2s0a (zf : Nat) (lf : List PV) (tf : Bool) (zc : Nat) (lc : List PV) (tc : Bool) (yf : Nat) (mf : List PV) (uf : Bool) (yc : Nat) (mc : List PV) (uc : Bool) (f : FD) (z : Nat) (t o : Bool) (y : Nat) (u o2 : Bool) (i : Nat) (k : Nat) (x : IN) : St := ⟨87, [(8, .int .i64 k), (7, .ptr 3 0), (6, .ptr 2 0), (5, .int .i64 i), (3, .ptr 1 0), (2, .ptr 0 0), (76, .ptr 2 3), (78, .int .i64 k), (81, .ptr 3 3), (83, .int .i64 k)], [(0, .box (pgc zf lf tf zc lc tc)), (1, .box (pgc yf mf uf yc mc uc)), (2, .box (fdc f z t)), (3, .box (fdc f y u))], []⟩
def inv31k2s1a (zf : Nat) (lf : List PV) (tf : Bool) (zc : Nat) (lc : List PV) (tc : Bool) (yf : Nat) (mf : List PV) (uf : Bool) (yc : Nat) (mc : List PV) (uc : Bool) (f : FD) (z : Nat) (t o : Bool) (y : Nat) (u o2 : Bool) (i : Nat) (k : Nat) (x : IN) : St := ⟨87, [(8, .int .i64 k), (7, .ptr 3 0), (6, .ptr 2 0), (5, .int .i64 i), (3, .ptr 1 0), (2, .ptr 0 0), (78, .int .i64 k), (81, .ptr 3 3), (83, .int .i64 k), (77, .sl z (f.code.map INP) t true)], [(0, .box (pgc zf lf tf zc lc tc)), (1, .box (pgc yf mf uf yc mc uc)), (2, .box (fdc f z t)), (3, .box (fdc f y u))], []⟩
def inv31k2s2a (zf : Nat) (lf : List PV) (tf : Bool) (zc : Nat) (lc : List PV) (tc : Bool) (yf : Nat) (mf : List PV) (uf : Bool) (yc : Nat) (mc : List PV) (uc : Bool) (f : FD) (z : Nat) (t o : Bool) (y : Nat) (u o2 : Bool) (i : Nat) (k : Nat) (x : IN) : St := ⟨87, [(8, .int .i64 k), (7, .ptr 3 0), (6, .ptr 2 0), (5, .int .i64 i), (3, .ptr 1 0), (2, .ptr 0 0), (76, .ptr 2 3), (78, .int .i64 k), (83, .int .i64 k), (82, .sl y (f.code.map INP) u true)], [(0, .box (pgc zf lf tf zc lc tc)), (1, .box (pgc yf mf uf yc mc uc)), (2, .box (fdc f z t)), (3, .box (fdc f y u))], []⟩
def inv31k2s3a (zf : Nat) (lf : List PV) (tf : Bool) (zc : Nat) (lc : List PV) (tc : Bool) (yf : Nat) (mf : List PV) (uf : Bool) (yc : Nat) (mc : List PV) (uc : Bool) (f : FD) (z : Nat) (t o : Bool) (y : Nat) (u o2 : Bool) (i : Nat) (k : Nat) (x : IN) : St := ⟨87, [(8, .int .i64 k), (7, .ptr 3 0), (6, .ptr 2 0), (5, .int .i64 i), (3, .ptr 1 0), (2, .ptr 0 0), (81, .ptr 3 3), (83, .int .i64 k), (79, .ro [.int .i64 x.op, .int .i64 x.a, .int .i64 x.b] 0 true)], [(0, .box (pgc zf lf tf zc lc tc)), (1, .box (pgc yf mf uf yc mc uc)), (2, .box (fdc f z t)), (3, .box (fdc f y u))], []⟩
def inv31k2s4a (zf : Nat) (lf : List PV) (tf : Bool) (zc : Nat) (lc : List PV) (tc : Bool) (yf : Nat) (mf : List PV) (uf : Bool) (yc : Nat) (mc : List PV) (uc : Bool) (f : FD) (z : Nat) (t o : Bool) (y : Nat) (u o2 : Bool) (i : Nat) (k : Nat) (x : IN) : St := ⟨87, [(8, .int .i64 k), (7, .ptr 3 0), (6, .ptr 2 0), (5, .int .i64 i), (3, .ptr 1 0), (2, .ptr 0 0), (76, .ptr 2 3), (78, .int .i64 k), (84, .ro [.int .i64 x.op, .int .i64 x.a, .int .i64 x.b] 0 true)], [(0, .box (pgc zf lf tf zc lc tc)), (1, .box (pgc yf mf uf yc mc uc)), (2, .box (fdc f z t)), (3, .box (fdc f y u))], []⟩
def inv31k2s5a (zf : Nat) (lf : List PV) (tf : Bool) (zc : Nat) (lc : List PV) (tc : Bool) (yf : Nat) (mf : List PV) (uf : Bool) (yc : Nat) (mc : List PV) (uc : Bool) (f : FD) (z : Nat) (t o : Bool) (y : Nat) (u o2 : Bool) (i : Nat) (k : Nat) (x : IN) : St := ⟨87, [(8, .int .i64 k), (7, .ptr 3 0), (6, .ptr 2 0), (5, .int .i64 i), (3, .ptr 1 0), (2, .ptr 0 0), (81, .ptr 3 3), (83, .int .i64 k), (80, .agg [.int .i64 x.op, .int .i64 x.a, .int .i64 x.b])], [(0, .box (pgc zf lf tf zc lc tc)), (1, .box (pgc yf mf uf yc mc uc)), (2, .box (fdc f z t)), (3, .box (fdc f y u))], []⟩
def inv31k2s6a (zf : Nat) (lf : List PV) (tf : Bool) (zc : Nat) (lc : List PV) (tc : Bool) (yf : Nat) (mf : List PV) (uf : Bool) (yc : Nat) (mc : List PV) (uc : Bool) (f : FD) (z : Nat) (t o : Bool) (y : Nat) (u o2 : Bool) (i : Nat) (k : Nat) (x : IN) : St := ⟨87, [(8, .int .i64 k), (7, .ptr 3 0), (6, .ptr 2 0), (5, .int .i64 i), (3, .ptr 1 0), (2, .ptr 0 0), (83, .int .i64 k), (79, .ro [.int .i64 x.op, .int .i64 x.a, .int .i64 x.b] 0 true), (82, .sl y (f.code.map INP) u true)], [(0, .box (pgc zf lf tf zc lc tc)), (1, .box (pgc yf mf uf yc mc uc)), (2, .box (fdc f z t)), (3, .box (fdc f y u))], []⟩
def inv31k2s7a (zf : Nat) (lf : List PV) (tf : Bool) (zc : Nat) (lc : List PV) (tc : Bool) (yf : Nat) (mf : List PV) (uf : Bool) (yc : Nat) (mc : List PV) (uc : Bool) (f : FD) (z : Nat) (t o : Bool) (y : Nat) (u o2 : Bool) (i : Nat) (k : Nat) (x : IN) : St := ⟨87, [(8, .int .i64 k), (7, .ptr 3 0), (6, .ptr 2 0), (5, .int .i64 i), (3, .ptr 1 0), (2, .ptr 0 0), (78, .int .i64 k), (77, .sl z (f.code.map INP) t true), (84, .ro [.int .i64 x.op, .int .i64 x.a, .int .i64 x.b] 0 true)], [(0, .box (pgc zf lf tf zc lc tc)), (1, .box (pgc yf mf uf yc mc uc)), (2, .box (fdc f z t)), (3, .box (fdc f y u))], []⟩
def inv31k2s8a (zf : Nat) (lf : List PV) (tf : Bool) (zc : Nat) (lc : List PV) (tc : Bool) (yf : Nat) (mf : List PV) (uf : Bool) (yc : Nat) (mc : List PV) (uc : Bool) (f : FD) (z : Nat) (t o : Bool) (y : Nat) (u o2 : Bool) (i : Nat) (k : Nat) (x : IN) : St := ⟨87, [(8, .int .i64 k), (7, .ptr 3 0), (6, .ptr 2 0), (5, .int .i64 i), (3, .ptr 1 0), (2, .ptr 0 0), (76, .ptr 2 3), (78, .int .i64 k), (85, .agg [.int .i64 x.op, .int .i64 x.a, .int .i64 x.b])], [(0, .box (pgc zf lf tf zc lc tc)), (1, .box (pgc yf mf uf yc mc uc)), (2, .box (fdc f z t)), (3, .box (fdc f y u))], []⟩
def inv31k2s9a (zf : Nat) (lf : List PV) (tf : Bool) (zc : Nat) (lc : List PV) (tc : Bool) (yf : Nat) (mf : List PV) (uf : Bool) (yc : Nat) (mc : List PV) (uc : Bool) (f : FD) (z : Nat) (t o : Bool) (y : Nat) (u o2 : Bool) (i : Nat) (k : Nat) (x : IN) : St := ⟨87, [(8, .int .i64 k), (7, .ptr 3 0), (6, .ptr 2 0), (5, .int .i64 i), (3, .ptr 1 0), (2, .ptr 0 0), (83, .int .i64 k), (80, .agg [.int .i64 x.op, .int .i64 x.a, .int .i64 x.b]), (82, .sl y (f.code.map INP) u true)], [(0, .box (pgc zf lf tf zc lc tc)), (1, .box (pgc yf mf uf yc mc uc)), (2, .box (fdc f z t)), (3, .box (fdc f y u))], []⟩
def inv31k2s10a (zf : Nat) (lf : List PV) (tf : Bool) (zc : Nat) (lc : List PV) (tc : Bool) (yf : Nat) (mf : List PV) (uf : Bool) (yc : Nat) (mc : List PV) (uc : Bool) (f : FD) (z : Nat) (t o : Bool) (y : Nat) (u o2 : Bool) (i : Nat) (k : Nat) (x : IN) : St := ⟨87, [(8, .int .i64 k), (7, .ptr 3 0), (6, .ptr 2 0), (5, .int .i64 i), (3, .ptr 1 0), (2, .ptr 0 0), (79, .ro [.int .i64 x.op, .int .i64 x.a, .int .i64 x.b] 0 true), (84, .ro [.int .i64 x.op, .int .i64 x.a, .int .i64 x.b] 0 true)], [(0, .box (pgc zf lf tf zc lc tc)), (1, .box (pgc yf mf uf yc mc uc)), (2, .box (fdc f z t)), (3, .box (fdc f y u))], []⟩
def inv31k2s11a (zf : Nat) (lf : List PV) (tf : Bool) (zc : Nat) (lc : List PV) (tc : Bool) (yf : Nat) (mf : List PV) (uf : Bool) (yc : Nat) (mc : List PV) (uc : Bool) (f : FD) (z : Nat) (t o : Bool) (y : Nat) (u o2 : Bool) (i : Nat) (k : Nat) (x : IN) : St := ⟨87, [(8, .int .i64 k), (7, .ptr 3 0), (6, .ptr 2 0), (5, .int .i64 i), (3, .ptr 1 0), (2, .ptr 0 0), (78, .int .i64 k), (77, .sl z (f.code.map INP) t true), (85, .agg [.int .i64 x.op, .int .i64 x.a, .int .i64 x.b])], [(0, .box (pgc zf lf tf zc lc tc)), (1, .box (pgc yf mf uf yc mc uc)), (2, .box (fdc f z t)), (3, .box (fdc f y u))], []⟩
def inv31k2s12a (zf : Nat) (lf : List PV) (tf : Bool) (zc : Nat) (lc : List PV) (tc : Bool) (yf : Nat) (mf : List PV) (uf : Bool) (yc : Nat) (mc : List PV) (uc : Bool) (f : FD) (z : Nat) (t o : Bool) (y : Nat) (u o2 : Bool) (i : Nat) (k : Nat) (x : IN) : St := ⟨87, [(8, .int .i64 k), (7, .ptr 3 0), (6, .ptr 2 0), (5, .int .i64 i), (3, .ptr 1 0), (2, .ptr 0 0), (80, .agg [.int .i64 x.op, .int .i64 x.a, .int .i64 x.b]), (84, .ro [.int .i64 x.op, .int .i64 x.a, .int .i64 x.b] 0 true)], [(0, .box (pgc zf lf tf zc lc tc)), (1, .box (pgc yf mf uf yc mc uc)), (2, .box (fdc f z t)), (3, .box (fdc f y u))], []⟩
def inv31k2s13a (zf : Nat) (lf : List PV) (tf : Bool) (zc : Nat) (lc : List PV) (tc : Bool) (yf : Nat) (mf : List PV) (uf : Bool) (yc : Nat) (mc : List PV) (uc : Bool) (f : FD) (z : Nat) (t o : Bool) (y : Nat) (u o2 : Bool) (i : Nat) (k : Nat) (x : IN) : St := ⟨87, [(8, .int .i64 k), (7, .ptr 3 0), (6, .ptr 2 0), (5, .int .i64 i), (3, .ptr 1 0), (2, .ptr 0 0), (79, .ro [.int .i64 x.op, .int .i64 x.a, .int .i64 x.b] 0 true), (85, .agg [.int .i64 x.op, .int .i64 x.a, .int .i64 x.b])], [(0, .box (pgc zf lf tf zc lc tc)), (1, .box (pgc yf mf uf yc mc uc)), (2, .box (fdc f z t)), (3, .box (fdc f y u))], []⟩
def inv31k2s14a (zf : Nat) (lf : List PV) (tf : Bool) (zc : Nat) (lc : List PV) (tc : Bool) (yf : Nat) (mf : List PV) (uf : Bool) (yc : Nat) (mc : List PV) (uc : Bool) (f : FD) (z : Nat) (t o : Bool) (y : Nat) (u o2 : Bool) (i : Nat) (k : Nat) (x : IN) : St := ⟨87, [(8, .int .i64 k), (7, .ptr 3 0), (6, .ptr 2 0), (5, .int .i64 i), (3, .ptr 1 0), (2, .ptr 0 0), (80, .agg [.int .i64 x.op, .int .i64 x.a, .int .i64 x.b]), (85, .agg [.int .i64 x.op, .int .i64 x.a, .int .i64 x.b])], [(0, .box (pgc zf lf tf zc lc tc)), (1, .box (pgc yf mf uf yc mc uc)), (2, .box (fdc f z t)), (3, .box (fdc f y u))], []⟩
def inv31k2 (zf : Nat) (lf : List PV) (tf : Bool) (zc : Nat) (lc : List PV) (tc : Bool) (yf : Nat) (mf : List PV) (uf : Bool) (yc : Nat) (mc : List PV) (uc : Bool) (f : FD) (z : Nat) (t o : Bool) (y : Nat) (u o2 : Bool) (i : Nat) (k : Nat) (x : IN) : Nat → St → Prop
 | 0, st_ => st_ = inv31k2s0a zf lf tf zc lc tc yf mf uf yc mc uc f z t o y u o2 i k x
 | 1, st_ => st_ = inv31k2s1a zf lf tf zc lc tc yf mf uf yc mc uc f z t o y u o2 i k x
 | 2, st_ => st_ = inv31k2s2a zf lf tf zc lc tc yf mf uf yc mc uc f z t o y u o2 i k x
 | 3, st_ => st_ = inv31k2s3a zf lf tf zc lc tc yf mf uf yc mc uc f z t o y u o2 i k x
 | 4, st_ => st_ = inv31k2s4a zf lf tf zc lc tc yf mf uf yc mc uc f z t o y u o2 i k x
 | 5, st_ => st_ = inv31k2s5a zf lf tf zc lc tc yf mf uf yc mc uc f z t o y u o2 i k x
 | 6, st_ => st_ = inv31k2s6a zf lf tf zc lc tc yf mf uf yc mc uc f z t o y u o2 i k x
 | 7, st_ => st_ = inv31k2s7a zf lf tf zc lc tc yf mf uf yc mc uc f z t o y u o2 i k x
 | 8, st_ => st_ = inv31k2s8a zf lf tf zc lc tc yf mf uf yc mc uc f z t o y u o2 i k x
 | 9, st_ => st_ = inv31k2s9a zf lf tf zc lc tc yf mf uf yc mc uc f z t o y u o2 i k x
 | 10, st_ => st_ = inv31k2s10a zf lf tf zc lc tc yf mf uf yc mc uc f z t o y u o2 i k x
 | 11, st_ => st_ = inv31k2s11a zf lf tf zc lc tc yf mf uf yc mc uc f z t o y u o2 i k x
 | 12, st_ => st_ = inv31k2s12a zf lf tf zc lc tc yf mf uf yc mc uc f z t o y u o2 i k x
 | 13, st_ => st_ = inv31k2s13a zf lf tf zc lc tc yf mf uf yc mc uc f z t o y u o2 i k x
 | 14, st_ => st_ = inv31k2s14a zf lf tf zc lc tc yf mf uf yc mc uc f z t o y u o2 i k x
 | _, _ => False
def inv31k3s0a (zf : Nat) (lf : List PV) (tf : Bool) (zc : Nat) (lc : List PV) (tc : Bool) (yf : Nat) (mf : List PV) (uf : Bool) (yc : Nat) (mc : List PV) (uc : Bool) (f : FD) (z : Nat) (t o : Bool) (y : Nat) (u o2 : Bool) (i : Nat) (k : Nat) (x : IN) : St := ⟨87, [(8, .int .i64 k), (7, .ptr 2 0), (6, .ptr 3 0), (5, .int .i64 i), (3, .ptr 1 0), (2, .ptr 0 0), (76, .ptr 3 3), (78, .int .i64 k), (81, .ptr 2 3), (83, .int .i64 k)], [(0, .box (pgc zf lf tf zc lc tc)), (1, .box (pgc yf mf uf yc mc uc)), (3, .box (fdc f z t)), (2, .box (fdc f y u))], []⟩
def inv31k3s1a (zf : Nat) (lf : List PV) (tf : Bool) (zc : Nat) (lc : List PV) (tc : Bool) (yf : Nat) (mf : List PV) (uf : Bool) (yc : Nat) (mc : List PV) (uc : Bool) (f : FD) (z : Nat) (t o : Bool) (y : Nat) (u o2 : Bool) (i : Nat) (k : Nat) (x : IN) : St := ⟨87, [(8, .int .i64 k), (7, .ptr 2 0), (6, .ptr 3 0), (5, .int .i64 i), (3, .ptr 1 0), (2, .ptr 0 0), (78, .int .i64 k), (81, .ptr 2 3), (83, .int .i64 k), (77, .sl z (f.code.map INP) t true)], [(0, .box (pgc zf lf tf zc lc tc)), (1, .box (pgc yf mf uf yc mc uc)), (3, .box (fdc f z t)), (2, .box (fdc f y u))], []⟩
def inv31k3s2a (zf : Nat) (lf : List PV) (tf : Bool) (zc : Nat) (lc : List PV) (tc : Bool) (yf : Nat) (mf : List PV) (uf : Bool) (yc : Nat) (mc : List PV) (uc : Bool) (f : FD) (z : Nat) (t o : Bool) (y : Nat) (u o2 : Bool) (i : Nat) (k : Nat) (x : IN) : St := ⟨87, [(8, .int .i64 k), (7, .ptr 2 0), (6, .ptr 3 0), (5, .int .i64 i), (3, .ptr 1 0), (2, .ptr 0 0), (76, .ptr 3 3), (78, .int .i64 k), (83, .int .i64 k), (82, .sl y (f.code.map INP) u true)], [(0, .box (pgc zf lf tf zc lc tc)), (1, .box (pgc yf mf uf yc mc uc)), (3, .box (fdc f z t)), (2, .box (fdc f y u))], []⟩
def inv31k3s3a (zf : Nat) (lf : List PV) (tf : Bool) (zc : Nat) (lc : List PV) (tc : Bool) (yf : Nat) (mf : List PV) (uf : Bool) (yc : Nat) (mc : List PV) (uc : Bool) (f : FD) (z : Nat) (t o : Bool) (y : Nat) (u o2 : Bool) (i : Nat) (k : Nat) (x : IN) : St := ⟨87, [(8, .int .i64 k), (7, .ptr 2 0), (6, .ptr 3 0), (5, .int .i64 i), (3, .ptr 1 0), (2, .ptr 0 0), (81, .ptr 2 3), (83, .int .i64 k), (79, .ro [.int .i64 x.op, .int .i64 x.a, .int .i64 x.b] 0 true)], [(0, .box (pgc zf lf tf zc lc tc)), (1, .box (pgc yf mf uf yc mc uc)), (3, .box (fdc f z t)), (2, .box (fdc f y u))], []⟩
def inv31k3s4a (zf : Nat) (lf : List PV) (tf : Bool) (zc : Nat) (lc : List PV) (tc : Bool) (yf : Nat) (mf : List PV) (uf : Bool) (yc : Nat) (mc : List PV) (uc : Bool) (f : FD) (z : Nat) (t o : Bool) (y : Nat) (u o2 : Bool) (i : Nat) (k : Nat) (x : IN) : St := ⟨87, [(8, .int .i64 k), (7, .ptr 2 0), (6, .ptr 3 0), (5, .int .i64 i), (3, .ptr 1 0), (2, .ptr 0 0), (76, .ptr 3 3), (78, .int .i64 k), (84, .ro [.int .i64 x.op, .int .i64 x.a, .int .i64 x.b] 0 true)], [(0, .box (pgc zf lf tf zc lc tc)), (1, .box (pgc yf mf uf yc mc uc)), (3, .box (fdc f z t)), (2, .box (fdc f y u))], []⟩
def inv31k3s5a (zf : Nat) (lf : List PV) (tf : Bool) (zc : Nat) (lc : List PV) (tc : Bool) (yf : Nat) (mf : List PV) (uf : Bool) (yc : Nat) (mc : List PV) (uc : Bool) (f : FD) (z : Nat) (t o : Bool) (y : Nat) (u o2 : Bool) (i : Nat) (k : Nat) (x : IN) : St := ⟨87, [(8, .int .i64 k), (7, .ptr 2 0), (6, .ptr 3 0), (5, .int .i64 i), (3, .ptr 1 0), (2, .ptr 0 0), (81, .ptr 2 3), (83, .int .i64 k), (80, .agg [.int .i64 x.op, .int .i64 x.a, .int .i64 x.b])], [(0, .box (pgc zf lf tf zc lc tc)), (1, .box (pgc yf mf uf yc mc uc)), (3, .box (fdc f z t)), (2, .box (fdc f y u))], []⟩
def inv31k3s6a (zf : Nat) (lf : List PV) (tf : Bool) (zc : Nat) (lc : List PV) (tc : Bool) (yf : Nat) (mf : List PV) (uf : Bool) (yc : Nat) (mc : List PV) (uc : Bool) (f : FD) (z : Nat) (t o : Bool) (y : Nat) (u o2 : Bool) (i : Nat) (k : Nat) (x : IN) : St := ⟨87, [(8, .int .i64 k), (7, .ptr 2 0), (6, .ptr 3 0), (5, .int .i64 i), (3, .ptr 1 0), (2, .ptr 0 0), (83, .int .i64 k), (79, .ro [.int .i64 x.op, .int .i64 x.a, .int .i64 x.b] 0 true), (82, .sl y (f.code.map INP) u true)], [(0, .box (pgc zf lf tf zc lc tc)), (1, .box (pgc yf mf uf yc mc uc)), (3, .box (fdc f z t)), (2, .box (fdc f y u))], []⟩
def inv31k3s7a (zf : Nat) (lf : List PV) (tf : Bool) (zc : Nat) (lc : List PV) (tc : Bool) (yf : Nat) (mf : List PV) (uf : Bool) (yc : Nat) (mc : List PV) (uc : Bool) (f : FD) (z : Nat) (t o : Bool) (y : Nat) (u o2 : Bool) (i : Nat) (k : Nat) (x : IN) : St := ⟨87, [(8, .int .i64 k), (7, .ptr 2 0), (6, .ptr 3 0), (5, .int .i64 i), (3, .ptr 1 0), (2, .ptr 0 0), (78, .int .i64 k), (77, .sl z (f.code.map INP) t true), (84, .ro [.int .i64 x.op, .int .i64 x.a, .int .i64 x.b] 0 true)], [(0, .box (pgc zf lf tf zc lc tc)), (1, .box (pgc yf mf uf yc mc uc)), (3, .box (fdc f z t)), (2, .box (fdc f y u))], []⟩
def inv31k3s8a (zf : Nat) (lf : List PV) (tf : Bool) (zc : Nat) (lc : List PV) (tc : Bool) (yf : Nat) (mf : List PV) (uf : Bool) (yc : Nat) (mc : List PV) (uc : Bool) (f : FD) (z : Nat) (t o : Bool) (y : Nat) (u o2 : Bool) (i : Nat) (k : Nat) (x : IN) : St := ⟨87, [(8, .int .i64 k), (7, .ptr 2 0), (6, .ptr 3 0), (5, .int .i64 i), (3, .ptr 1 0), (2, .ptr 0 0), (76, .ptr 3 3), (78, .int .i64 k), (85, .agg [.int .i64 x.op, .int .i64 x.a, .int .i64 x.b])], [(0, .box (pgc zf lf tf zc lc tc)), (1, .box (pgc yf mf uf yc mc uc)), (3, .box (fdc f z t)), (2, .box (fdc f y u))], []⟩
def inv31k3s9a (zf : Nat) (lf : List PV) (tf : Bool) (zc : Nat) (lc : List PV) (tc : Bool) (yf : Nat) (mf : List PV) (uf : Bool) (yc : Nat) (mc : List PV) (uc : Bool) (f : FD) (z : Nat) (t o : Bool) (y : Nat) (u o2 : Bool) (i : Nat) (k : Nat) (x : IN) : St := ⟨87, [(8, .int .i64 k), (7, .ptr 2 0), (6, .ptr 3 0), (5, .int .i64 i), (3, .ptr 1 0), (2, .ptr 0 0), (83, .int .i64 k), (80, .agg [.int .i64 x.op, .int .i64 x.a, .int .i64 x.b]), (82, .sl y (f.code.map INP) u true)], [(0, .box (pgc zf lf tf zc lc tc)), (1, .box (pgc yf mf uf yc mc uc)), (3, .box (fdc f z t)), (2, .box (fdc f y u))], []⟩
def inv31k3s10a (zf : Nat) (lf : List PV) (tf : Bool) (zc : Nat) (lc : List PV) (tc : Bool) (yf : Nat) (mf : List PV) (uf : Bool) (yc : Nat) (mc : List PV) (uc : Bool) (f : FD) (z : Nat) (t o : Bool) (y : Nat) (u o2 : Bool) (i : Nat) (k : Nat) (x : IN) : St := ⟨87, [(8, .int .i64 k), (7, .ptr 2 0), (6, .ptr 3 0), (5, .int .i64 i), (3, .ptr 1 0), (2, .ptr 0 0), (79, .ro [.int .i64 x.op, .int .i64 x.a, .int .i64 x.b] 0 true), (84, .ro [.int .i64 x.op, .int .i64 x.a, .int .i64 x.b] 0 true)], [(0, .box (pgc zf lf tf zc lc tc)), (1, .box (pgc yf mf uf yc mc uc)), (3, .box (fdc f z t)), (2, .box (fdc f y u))], []⟩
def inv31k3s11a (zf : Nat) (lf : List PV) (tf : Bool) (zc : Nat) (lc : List PV) (tc : Bool) (yf : Nat) (mf : List PV) (uf : Bool) (yc : Nat) (mc : List PV) (uc : Bool) (f : FD) (z : Nat) (t o : Bool) (y : Nat) (u o2 : Bool) (i : Nat) (k : Nat) (x : IN) : St := ⟨87, [(8, .int .i64 k), (7, .ptr 2 0), (6, .ptr 3 0), (5, .int .i64 i), (3, .ptr 1 0), (2, .ptr 0 0), (78, .int .i64 k), (77, .sl z (f.code.map INP) t true), (85, .agg [.int .i64 x.op, .int .i64 x.a, .int .i64 x.b])], [(0, .box (pgc zf lf tf zc lc tc)), (1, .box (pgc yf mf uf yc mc uc)), (3, .box (fdc f z t)), (2, .box (fdc f y u))], []⟩
def inv31k3s12a (zf : Nat) (lf : List PV) (tf : Bool) (zc : Nat) (lc : List PV) (tc : Bool) (yf : Nat) (mf : List PV) (uf : Bool) (yc : Nat) (mc : List PV) (uc : Bool) (f : FD) (z : Nat) (t o : Bool) (y : Nat) (u o2 : Bool) (i : Nat) (k : Nat) (x : IN) : St := ⟨87, [(8, .int .i64 k), (7, .ptr 2 0), (6, .ptr 3 0), (5, .int .i64 i), (3, .ptr 1 0), (2, .ptr 0 0), (80, .agg [.int .i64 x.op, .int .i64 x.a, .int .i64 x.b]), (84, .ro [.int .i64 x.op, .int .i64 x.a, .int .i64 x.b] 0 true)], [(0, .box (pgc zf lf tf zc lc tc)), (1, .box (pgc yf mf uf yc mc uc)), (3, .box (fdc f z t)), (2, .box (fdc f y u))], []⟩
def inv31k3s13a (zf : Nat) (lf : List PV) (tf : Bool) (zc : Nat) (lc : List PV) (tc : Bool) (yf : Nat) (mf : List PV) (uf : Bool) (yc : Nat) (mc : List PV) (uc : Bool) (f : FD) (z : Nat) (t o : Bool) (y : Nat) (u o2 : Bool) (i : Nat) (k : Nat) (x : IN) : St := ⟨87, [(8, .int .i64 k), (7, .ptr 2 0), (6, .ptr 3 0), (5, .int .i64 i), (3, .ptr 1 0), (2, .ptr 0 0), (79, .ro [.int .i64 x.op, .int .i64 x.a, .int .i64 x.b] 0 true), (85, .agg [.int .i64 x.op, .int .i64 x.a, .int .i64 x.b])], [(0, .box (pgc zf lf tf zc lc tc)), (1, .box (pgc yf mf uf yc mc uc)), (3, .box (fdc f z t)), (2, .box (fdc f y u))], []⟩
def inv31k3s14a (zf : Nat) (lf : List PV) (tf : Bool) (zc : Nat) (lc : List PV) (tc : Bool) (yf : Nat) (mf : List PV) (uf : Bool) (yc : Nat) (mc : List PV) (uc : Bool) (f : FD) (z : Nat) (t o : Bool) (y : Nat) (u o2 : Bool) (i : Nat) (k : Nat) (x : IN) : St := ⟨87, [(8, .int .i64 k), (7, .ptr 2 0), (6, .ptr 3 0), (5, .int .i64 i), (3, .ptr 1 0), (2, .ptr 0 0), (80, .agg [.int .i64 x.op, .int .i64 x.a, .int .i64 x.b]), (85, .agg [.int .i64 x.op, .int .i64 x.a, .int .i64 x.b])], [(0, .box (pgc zf lf tf zc lc tc)), (1, .box (pgc yf mf uf yc mc uc)), (3, .box (fdc f z t)), (2, .box (fdc f y u))], []⟩
def inv31k3 (zf : Nat) (lf : List PV) (tf : Bool) (zc : Nat) (lc : List PV) (tc : Bool) (yf : Nat) (mf : List PV) (uf : Bool) (yc : Nat) (mc : List PV) (uc : Bool) (f : FD) (z : Nat) (t o : Bool) (y : Nat) (u o2 : Bool) (i : Nat) (k : Nat) (x : IN) : Nat → St → Prop
 | 0, st_ => st_ = inv31k3s0a zf lf tf zc lc tc yf mf uf yc mc uc f z t o y u o2 i k x
 | 1, st_ => st_ = inv31k3s1a zf lf tf zc lc tc yf mf uf yc mc uc f z t o y u o2 i k x
 | 2, st_ => st_ = inv31k3s2a zf lf tf zc lc tc yf mf uf yc mc uc f z t o y u o2 i k x
 | 3, st_ => st_ = inv31k3s3a zf lf tf zc lc tc yf mf uf yc mc uc f z t o y u o2 i k x
 | 4, st_ => st_ = inv31k3s4a zf lf tf zc lc tc yf mf uf yc mc uc f z t o y u o2 i k x
 | 5, st_ => st_ = inv31k3s5a zf lf tf zc lc tc yf mf uf yc mc uc f z t o y u o2 i k x
 | 6, st_ => st_ = inv31k3s6a zf lf tf zc lc tc yf mf uf yc mc uc f z t o y u o2 i k x
 | 7, st_ => st_ = inv31k3s7a zf lf tf zc lc tc yf mf uf yc mc uc f z t o y u o2 i k x
 | 8, st_ => st_ = inv31k3s8a zf lf tf zc lc tc yf mf uf yc mc uc f z t o y u o2 i k x
 | 9, st_ => st_ = inv31k3s9a zf lf tf zc lc tc yf mf uf yc mc uc f z t o y u o2 i k x
 | 10, st_ => st_ = inv31k3s10a zf lf tf zc lc tc yf mf uf yc mc uc f z t o y u o2 i k x
 | 11, st_ => st_ = inv31k3s11a zf lf tf zc lc tc yf mf uf yc mc uc f z t o y u o2 i k x
 | 12, st_ => st_ = inv31k3s12a zf lf tf zc lc tc yf mf uf yc mc uc f z t o y u o2 i k x
 | 13, st_ => st_ = inv31k3s13a zf lf tf zc lc tc yf mf uf yc mc uc f z t o y u o2 i k x
 | 14, st_ => st_ = inv31k3s14a zf lf tf zc lc tc yf mf uf yc mc uc f z t o y u o2 i k x
 | _, _ => False
set_option maxHeartbeats 32000000 in
theorem same_refl (p : PG) (zf : Nat) (lf : List PV) (tf : Bool) (zc : Nat) (lc : List PV) (tc : Bool) (yf : Nat) (mf : List PV) (uf : Bool) (yc : Nat) (mc : List PV) (uc : Bool) (hp : PGA p zf lf zc lc) (hq : PGA p yf mf yc mc) (Post : PV → List (Nat × Blk) → Prop) (h : Post (.bool true) []) :
  Spec K 12 [.agg (pgc zf lf tf zc lc tc), .agg (pgc yf mf uf yc mc uc)] [] Post := by
 refine is12p.specW K_ok K_mix false (by simp) (by simp [keys]) ?_
 have e1 := FPs_len hp.fs
 have e2 := FPs_len hq.fs
 have g1 := zlf hp
 have g2 := zlf hq
 have hnf := hp.nf
 (conv => whnf); repeat ((first | (apply And.intro;· exact Cl4) | apply T1 | apply T2 | apply T3 | apply T4 | apply T6 | apply T5); conv => whnf)
 rw [e1, e2, bne_self_eq_false]
 (conv => whnf); repeat ((first | (apply And.intro;· exact Cl4) | apply T1 | apply T2 | apply T3 | apply T4 | apply T6 | apply T5); conv => whnf)
 refine sameAll_refl p.consts zc yc lc mc _ _ hp.cs hq.cs hp.zc hq.zc hp.cb hp.nc _ ?_
 (conv => whnf); repeat ((first | (apply And.intro;· exact Cl4) | apply T1 | apply T2 | apply T3 | apply T4 | apply T6 | apply T5); conv => whnf)
 refine ⟨Nat, fun i => ⟨87, [(5, .int .i64 i), (3, .ptr 1 0), (2, .ptr 0 0)], [(0, .box (pgc zf lf tf zc lc tc)), (1, .box (pgc yf mf uf yc mc uc))], []⟩, fun i => i ≤ p.funcs.length, fun i => p.funcs.length - i, ⟨[], 0, Nat.zero_le _, ?_⟩, fun i hi => ?_⟩
 ·simp [meets, ghosts, St.le, St.get, look, keys, PV.labs, labsL, lookB, Blk.labs]
 ·conv => (arg 5; dsimp only)
  (conv => whnf); repeat ((first | (apply And.intro;· exact Cl4) | apply T1 | apply T2 | apply T3 | apply T4 | apply T6 | apply T5); conv => whnf)
  rw [e1]
  by_cases hix : i < p.funcs.length
  ·rw [decide_eq_true (show (i : Int) < (p.funcs.length : Int) by omega)]
   obtain ⟨z, t, o, hqf, hzc⟩ := FPs_nth hp.fs hix
   obtain ⟨y, u, o2, hqg, hyc⟩ := FPs_nth hq.fs hix
   have hfb := hp.fb _ (List.getElem_mem hix)
   generalize p.funcs[i] = f at *
   rw [← Int.toNat_natCast i] at hqf hqg
   have hcl := hfb.code
   have hqf1 := hqf
   have hqg1 := hqg
   rw [Int.toNat_natCast] at hqf1 hqg1
   have hcm : (f.code.map INP).length = f.code.length := List.length_map _
   have hz3 : z = 3 ∨ f.code.map INP = [] := hzc.imp id fun h => by rw [h]; rfl
   have hy3 : y = 3 ∨ f.code.map INP = [] := hyc.imp id fun h => by rw [h]; rfl
   (conv => whnf); repeat ((first | (apply And.intro;· exact Cl4) | apply T1 | apply T2 | apply T3 | apply T4 | apply T6 | apply T5); conv => whnf)
   refine ⟨inv31 zf lf tf zc lc tc yf mf uf yc mc uc f z t o y u o2 i, ⟨[], _, rfl, ?_⟩, ?_, fun s hs => ?_⟩
   ·simp [inv31s0a, meets, ghosts, St.le, St.get, look, keys, PV.labs, labsL, lookB, Blk.labs, fdc, PV.cells, hqf1, hqg1]
   ·(conv => whnf)
    refine And.intro (fun s hs => ?_) ?_
    ·simp only [inv31] at hs
     obtain rfl := hs
     unfold inv31s0a
     (conv => whnf); repeat' (first | ((apply And.intro;· exact Cl4); conv => whnf) | (rw [hqf]; conv => whnf) | (rw [hqg]; conv => whnf) | (refine Both.mk ?_ ?_ <;> conv => whnf))
     ·exact ⟨[], _, rfl, mR⟩
     ·exact ⟨[], _, rfl, mR⟩
     ·exact ⟨[], _, rfl, mR⟩
     ·exact ⟨[], _, rfl, mR⟩
     ·exact trivial
    conv => whnf
    refine And.intro (fun s hs => ?_) ?_
    ·simp only [inv31] at hs
     obtain rfl := hs
     unfold inv31s1a
     (conv => whnf); repeat' (first | ((apply And.intro;· exact Cl4); conv => whnf) | (rw [hqf]; conv => whnf) | (rw [hqg]; conv => whnf) | (refine Both.mk ?_ ?_ <;> conv => whnf))
     ·exact ⟨[], _, rfl, mR⟩
     ·exact trivial
    conv => whnf
    refine And.intro (fun s hs => ?_) ?_
    ·simp only [inv31] at hs
     obtain rfl := hs
     unfold inv31s2a
     (conv => whnf); repeat' (first | ((apply And.intro;· exact Cl4); conv => whnf) | (rw [hqf]; conv => whnf) | (rw [hqg]; conv => whnf) | (refine Both.mk ?_ ?_ <;> conv => whnf))
     ·exact ⟨[], _, rfl, mR⟩
     ·exact trivial
    conv => whnf
    refine And.intro (fun s hs => ?_) ?_
    ·simp only [inv31] at hs
     obtain rfl := hs
     unfold inv31s3a
     (conv => whnf); repeat' (first | ((apply And.intro;· exact Cl4); conv => whnf) | (rw [hqf]; conv => whnf) | (rw [hqg]; conv => whnf) | (refine Both.mk ?_ ?_ <;> conv => whnf))
     ·exact ⟨[], _, rfl, mR⟩
     ·exact ⟨[], _, rfl, mR⟩
     ·exact ⟨[], _, Or.inl rfl, mR⟩
     ·exact trivial
    conv => whnf
    refine And.intro (fun s hs => ?_) ?_
    ·simp only [inv31] at hs
     obtain rfl := hs
     unfold inv31s4a
     (conv => whnf); repeat' (first | ((apply And.intro;· exact Cl4); conv => whnf) | (rw [hqf]; conv => whnf) | (rw [hqg]; conv => whnf) | (refine Both.mk ?_ ?_ <;> conv => whnf))
     ·exact ⟨[], _, rfl, mR⟩
     ·exact ⟨[], _, rfl, mR⟩
     ·exact ⟨[], _, Or.inr rfl, mR⟩
     ·exact trivial
    conv => whnf
    refine And.intro (fun s hs => ?_) ?_
    ·simp only [inv31] at hs
     obtain rfl := hs
     unfold inv31s5a
     (conv => whnf); repeat' (first | ((apply And.intro;· exact Cl4); conv => whnf) | (rw [hqf]; conv => whnf) | (rw [hqg]; conv => whnf) | (refine Both.mk ?_ ?_ <;> conv => whnf))
     ·exact ⟨[], _, rfl, mR⟩
     ·exact ⟨[], _, rfl, mR⟩
     ·exact ⟨[], _, rfl, mR⟩
     ·exact ⟨[], _, rfl, mR⟩
     ·exact trivial
    conv => whnf
    refine And.intro (fun s hs => ?_) ?_
    ·simp only [inv31] at hs
     obtain rfl := hs
     unfold inv31s6a
     (conv => whnf); repeat' (first | ((apply And.intro;· exact Cl4); conv => whnf) | (rw [hqf]; conv => whnf) | (rw [hqg]; conv => whnf) | (refine Both.mk ?_ ?_ <;> conv => whnf))
     ·exact ⟨[], _, rfl, mR⟩
     ·exact ⟨[], _, rfl, mR⟩
     ·exact ⟨[], _, rfl, mR⟩
     ·exact ⟨[], _, rfl, mR⟩
     ·exact trivial
    conv => whnf
    refine And.intro (fun s hs => ?_) ?_
    ·simp only [inv31] at hs
     obtain rfl := hs
     unfold inv31s7a
     (conv => whnf); repeat' (first | ((apply And.intro;· exact Cl4); conv => whnf) | (rw [hqf]; conv => whnf) | (rw [hqg]; conv => whnf) | (refine Both.mk ?_ ?_ <;> conv => whnf))
     ·exact ⟨[], _, rfl, mR⟩
     ·exact trivial
    conv => whnf
    refine And.intro (fun s hs => ?_) ?_
    ·simp only [inv31] at hs
     obtain rfl := hs
     unfold inv31s8a
     (conv => whnf); repeat' (first | ((apply And.intro;· exact Cl4); conv => whnf) | (rw [hqf]; conv => whnf) | (rw [hqg]; conv => whnf) | (refine Both.mk ?_ ?_ <;> conv => whnf))
     ·exact ⟨[], _, rfl, mR⟩
     ·exact trivial
    conv => whnf
    refine And.intro (fun s hs => ?_) ?_
    ·simp only [inv31] at hs
     rcases hs with rfl | rfl
     ·unfold inv31s9a
      (conv => whnf); repeat' (first | ((apply And.intro;· exact Cl4); conv => whnf) | (rw [hqf]; conv => whnf) | (rw [hqg]; conv => whnf) | (refine Both.mk ?_ ?_ <;> conv => whnf))
      ·exact ⟨[], _, Or.inl rfl, mR⟩
      ·exact ⟨[], _, Or.inl rfl, mR⟩
      ·exact trivial
     ·unfold inv31s9b
      (conv => whnf); repeat' (first | ((apply And.intro;· exact Cl4); conv => whnf) | (rw [hqf]; conv => whnf) | (rw [hqg]; conv => whnf) | (refine Both.mk ?_ ?_ <;> conv => whnf))
      ·exact ⟨[], _, Or.inr rfl, mR⟩
      ·exact ⟨[], _, Or.inr rfl, mR⟩
      ·exact trivial
    conv => whnf
    refine And.intro (fun s hs => ?_) ?_
    ·simp only [inv31] at hs
     obtain rfl := hs
     unfold inv31s10a
     (conv => whnf); repeat' (first | ((apply And.intro;· exact Cl4); conv => whnf) | (rw [hqf]; conv => whnf) | (rw [hqg]; conv => whnf) | (refine Both.mk ?_ ?_ <;> conv => whnf))
     ·exact ⟨[], _, rfl, mR⟩
     ·exact trivial
    conv => whnf
    refine And.intro (fun s hs => ?_) ?_
    ·simp only [inv31] at hs
     obtain rfl := hs
     unfold inv31s11a
     (conv => whnf); repeat' (first | ((apply And.intro;· exact Cl4); conv => whnf) | (rw [hqf]; conv => whnf) | (rw [hqg]; conv => whnf) | (refine Both.mk ?_ ?_ <;> conv => whnf))
     ·exact ⟨[], _, rfl, mR⟩
     ·exact trivial
    conv => whnf
    refine And.intro (fun s hs => ?_) ?_
    ·simp only [inv31] at hs
     obtain rfl := hs
     unfold inv31s12a
     (conv => whnf); repeat' (first | ((apply And.intro;· exact Cl4); conv => whnf) | (rw [hqf]; conv => whnf) | (rw [hqg]; conv => whnf) | (refine Both.mk ?_ ?_ <;> conv => whnf))
     ·exact ⟨[], _, rfl, mR⟩
     ·exact ⟨[], _, rfl, mR⟩
     ·exact ⟨[], _, rfl, mR⟩
     ·exact trivial
    conv => whnf
    refine And.intro (fun s hs => ?_) ?_
    ·simp only [inv31] at hs
     obtain rfl := hs
     unfold inv31s13a
     (conv => whnf); repeat' (first | ((apply And.intro;· exact Cl4); conv => whnf) | (rw [hqf]; conv => whnf) | (rw [hqg]; conv => whnf) | (refine Both.mk ?_ ?_ <;> conv => whnf))
     ·exact ⟨[], _, rfl, mR⟩
     ·exact trivial
    conv => whnf
    refine And.intro (fun s hs => ?_) ?_
    ·simp only [inv31] at hs
     obtain rfl := hs
     unfold inv31s14a
     (conv => whnf); repeat' (first | ((apply And.intro;· exact Cl4); conv => whnf) | (rw [hqf]; conv => whnf) | (rw [hqg]; conv => whnf) | (refine Both.mk ?_ ?_ <;> conv => whnf))
     ·exact ⟨[], _, rfl, mR⟩
     ·exact ⟨[], _, rfl, mR⟩
     ·exact ⟨[], _, Or.inl rfl, mR⟩
     ·exact trivial
    conv => whnf
    refine And.intro (fun s hs => ?_) ?_
    ·simp only [inv31] at hs
     obtain rfl := hs
     unfold inv31s15a
     (conv => whnf); repeat' (first | ((apply And.intro;· exact Cl4); conv => whnf) | (rw [hqf]; conv => whnf) | (rw [hqg]; conv => whnf) | (refine Both.mk ?_ ?_ <;> conv => whnf))
     ·exact ⟨[], _, rfl, mR⟩
     ·exact ⟨[], _, rfl, mR⟩
     ·exact ⟨[], _, Or.inr rfl, mR⟩
     ·exact trivial
    conv => whnf
    refine And.intro (fun s hs => ?_) ?_
    ·simp only [inv31] at hs
     obtain rfl := hs
     unfold inv31s16a
     (conv => whnf); repeat' (first | ((apply And.intro;· exact Cl4); conv => whnf) | (rw [hqf]; conv => whnf) | (rw [hqg]; conv => whnf) | (refine Both.mk ?_ ?_ <;> conv => whnf))
     ·exact ⟨[], _, rfl, mR⟩
     ·exact trivial
    conv => whnf
    refine And.intro (fun s hs => ?_) ?_
    ·simp only [inv31] at hs
     obtain rfl := hs
     unfold inv31s17a
     (conv => whnf); repeat' (first | ((apply And.intro;· exact Cl4); conv => whnf) | (rw [hqf]; conv => whnf) | (rw [hqg]; conv => whnf) | (refine Both.mk ?_ ?_ <;> conv => whnf))
     ·exact ⟨[], _, rfl, mR⟩
     ·exact ⟨[], _, rfl, mR⟩
     ·exact ⟨[], _, rfl, mR⟩
     ·exact trivial
    conv => whnf
    refine And.intro (fun s hs => ?_) ?_
    ·simp only [inv31] at hs
     obtain rfl := hs
     unfold inv31s18a
     (conv => whnf); repeat' (first | ((apply And.intro;· exact Cl4); conv => whnf) | (rw [hqf]; conv => whnf) | (rw [hqg]; conv => whnf) | (refine Both.mk ?_ ?_ <;> conv => whnf))
     ·exact ⟨[], _, rfl, mR⟩
     ·exact ⟨[], _, rfl, mR⟩
     ·exact ⟨[], _, Or.inl rfl, mR⟩
     ·exact trivial
    conv => whnf
    refine And.intro (fun s hs => ?_) ?_
    ·simp only [inv31] at hs
     obtain rfl := hs
     unfold inv31s19a
     (conv => whnf); repeat' (first | ((apply And.intro;· exact Cl4); conv => whnf) | (rw [hqf]; conv => whnf) | (rw [hqg]; conv => whnf) | (refine Both.mk ?_ ?_ <;> conv => whnf))
     ·exact ⟨[], _, rfl, mR⟩
     ·exact ⟨[], _, rfl, mR⟩
     ·exact ⟨[], _, Or.inr rfl, mR⟩
     ·exact trivial
    conv => whnf
    refine And.intro (fun s hs => ?_) ?_
    ·simp only [inv31] at hs
     rcases hs with rfl | rfl
     ·unfold inv31s20a
      (conv => whnf); repeat' (first | ((apply And.intro;· exact Cl4); conv => whnf) | (rw [hqf]; conv => whnf) | (rw [hqg]; conv => whnf) | (refine Both.mk ?_ ?_ <;> conv => whnf))
      ·exact ⟨[], _, Or.inl rfl, mR⟩
      ·exact trivial
     ·unfold inv31s20b
      (conv => whnf); repeat' (first | ((apply And.intro;· exact Cl4); conv => whnf) | (rw [hqf]; conv => whnf) | (rw [hqg]; conv => whnf) | (refine Both.mk ?_ ?_ <;> conv => whnf))
      ·exact ⟨[], _, Or.inr rfl, mR⟩
      ·exact trivial
    conv => whnf
    refine And.intro (fun s hs => ?_) ?_
    ·simp only [inv31] at hs
     rcases hs with rfl | rfl
     ·unfold inv31s21a
      (conv => whnf); repeat' (first | ((apply And.intro;· exact Cl4); conv => whnf) | (rw [hqf]; conv => whnf) | (rw [hqg]; conv => whnf) | (refine Both.mk ?_ ?_ <;> conv => whnf))
      ·exact ⟨[], _, Or.inl rfl, mR⟩
      ·exact trivial
     ·unfold inv31s21b
      (conv => whnf); repeat' (first | ((apply And.intro;· exact Cl4); conv => whnf) | (rw [hqf]; conv => whnf) | (rw [hqg]; conv => whnf) | (refine Both.mk ?_ ?_ <;> conv => whnf))
      ·exact ⟨[], _, Or.inr rfl, mR⟩
      ·exact trivial
    conv => whnf
    refine And.intro (fun s hs => ?_) ?_
    ·simp only [inv31] at hs
     obtain rfl := hs
     unfold inv31s22a
     (conv => whnf); repeat' (first | ((apply And.intro;· exact Cl4); conv => whnf) | (rw [hqf]; conv => whnf) | (rw [hqg]; conv => whnf) | (refine Both.mk ?_ ?_ <;> conv => whnf))
     ·exact ⟨[], _, rfl, mR⟩
     ·exact trivial
    conv => whnf
    refine And.intro (fun s hs => ?_) ?_
    ·simp only [inv31] at hs
     obtain rfl := hs
     unfold inv31s23a
     (conv => whnf); repeat' (first | ((apply And.intro;· exact Cl4); conv => whnf) | (rw [hqf]; conv => whnf) | (rw [hqg]; conv => whnf) | (refine Both.mk ?_ ?_ <;> conv => whnf))
     ·exact ⟨[], _, rfl, mR⟩
     ·exact ⟨[], _, Or.inl rfl, mR⟩
     ·exact trivial
    conv => whnf
    refine And.intro (fun s hs => ?_) ?_
    ·simp only [inv31] at hs
     obtain rfl := hs
     unfold inv31s24a
     (conv => whnf); repeat' (first | ((apply And.intro;· exact Cl4); conv => whnf) | (rw [hqf]; conv => whnf) | (rw [hqg]; conv => whnf) | (refine Both.mk ?_ ?_ <;> conv => whnf))
     ·exact ⟨[], _, rfl, mR⟩
     ·exact ⟨[], _, Or.inr rfl, mR⟩
     ·exact trivial
    conv => whnf
    refine And.intro (fun s hs => ?_) ?_
    ·simp only [inv31] at hs
     obtain rfl := hs
     unfold inv31s25a
     (conv => whnf); repeat' (first | ((apply And.intro;· exact Cl4); conv => whnf) | (rw [hqf]; conv => whnf) | (rw [hqg]; conv => whnf) | (refine Both.mk ?_ ?_ <;> conv => whnf))
     ·exact ⟨[], _, rfl, mR⟩
     ·exact ⟨[], _, rfl, mR⟩
     ·exact ⟨[], _, rfl, mR⟩
     ·exact ⟨[], _, rfl, mR⟩
     ·exact trivial
    conv => whnf
    refine And.intro (fun s hs => ?_) ?_
    ·simp only [inv31] at hs
     obtain rfl := hs
     unfold inv31s26a
     (conv => whnf); repeat' (first | ((apply And.intro;· exact Cl4); conv => whnf) | (rw [hqf]; conv => whnf) | (rw [hqg]; conv => whnf) | (refine Both.mk ?_ ?_ <;> conv => whnf))
     ·exact ⟨[], _, rfl, mR⟩
     ·exact trivial
    conv => whnf
    refine And.intro (fun s hs => ?_) ?_
    ·simp only [inv31] at hs
     rcases hs with rfl | rfl
     ·unfold inv31s27a
      (conv => whnf); repeat' (first | ((apply And.intro;· exact Cl4); conv => whnf) | (rw [hqf]; conv => whnf) | (rw [hqg]; conv => whnf) | (refine Both.mk ?_ ?_ <;> conv => whnf))
      ·exact ⟨[], _, Or.inl rfl, mR⟩
      ·exact ⟨[], _, Or.inl rfl, mR⟩
      ·exact trivial
     ·unfold inv31s27b
      (conv => whnf); repeat' (first | ((apply And.intro;· exact Cl4); conv => whnf) | (rw [hqf]; conv => whnf) | (rw [hqg]; conv => whnf) | (refine Both.mk ?_ ?_ <;> conv => whnf))
      ·exact ⟨[], _, Or.inr rfl, mR⟩
      ·exact ⟨[], _, Or.inr rfl, mR⟩
      ·exact trivial
    conv => whnf
    refine And.intro (fun s hs => ?_) ?_
    ·simp only [inv31] at hs
     obtain rfl := hs
     unfold inv31s28a
     (conv => whnf); repeat' (first | ((apply And.intro;· exact Cl4); conv => whnf) | (rw [hqf]; conv => whnf) | (rw [hqg]; conv => whnf) | (refine Both.mk ?_ ?_ <;> conv => whnf))
     ·exact ⟨[], _, rfl, mR⟩
     ·exact trivial
    conv => whnf
    refine And.intro (fun s hs => ?_) ?_
    ·simp only [inv31] at hs
     obtain rfl := hs
     unfold inv31s29a
     (conv => whnf); repeat' (first | ((apply And.intro;· exact Cl4); conv => whnf) | (rw [hqf]; conv => whnf) | (rw [hqg]; conv => whnf) | (refine Both.mk ?_ ?_ <;> conv => whnf))
     ·exact ⟨[], _, rfl, mR⟩
     ·exact trivial
    conv => whnf
    refine And.intro (fun s hs => ?_) ?_
    ·simp only [inv31] at hs
     obtain rfl := hs
     unfold inv31s30a
     (conv => whnf); repeat' (first | ((apply And.intro;· exact Cl4); conv => whnf) | (rw [hqf]; conv => whnf) | (rw [hqg]; conv => whnf) | (refine Both.mk ?_ ?_ <;> conv => whnf))
     ·exact ⟨[], _, rfl, mR⟩
     ·exact ⟨[], _, Or.inl rfl, mR⟩
     ·exact trivial
    conv => whnf
    refine And.intro (fun s hs => ?_) ?_
    ·simp only [inv31] at hs
     obtain rfl := hs
     unfold inv31s31a
     (conv => whnf); repeat' (first | ((apply And.intro;· exact Cl4); conv => whnf) | (rw [hqf]; conv => whnf) | (rw [hqg]; conv => whnf) | (refine Both.mk ?_ ?_ <;> conv => whnf))
     ·exact ⟨[], _, rfl, mR⟩
     ·exact ⟨[], _, Or.inr rfl, mR⟩
     ·exact trivial
    conv => whnf
    refine And.intro (fun s hs => ?_) ?_
    ·simp only [inv31] at hs
     obtain rfl := hs
     unfold inv31s32a
     (conv => whnf); repeat' (first | ((apply And.intro;· exact Cl4); conv => whnf) | (rw [hqf]; conv => whnf) | (rw [hqg]; conv => whnf) | (refine Both.mk ?_ ?_ <;> conv => whnf))
     ·exact ⟨[], _, rfl, mR⟩
     ·exact trivial
    conv => whnf
    refine And.intro (fun s hs => ?_) ?_
    ·simp only [inv31] at hs
     rcases hs with rfl | rfl
     ·unfold inv31s33a
      (conv => whnf); repeat' (first | ((apply And.intro;· exact Cl4); conv => whnf) | (rw [hqf]; conv => whnf) | (rw [hqg]; conv => whnf) | (refine Both.mk ?_ ?_ <;> conv => whnf))
      ·exact ⟨[], _, Or.inl rfl, mR⟩
      ·exact ⟨[], _, Or.inl rfl, mR⟩
      ·exact trivial
     ·unfold inv31s33b
      (conv => whnf); repeat' (first | ((apply And.intro;· exact Cl4); conv => whnf) | (rw [hqf]; conv => whnf) | (rw [hqg]; conv => whnf) | (refine Both.mk ?_ ?_ <;> conv => whnf))
      ·exact ⟨[], _, Or.inr rfl, mR⟩
      ·exact ⟨[], _, Or.inr rfl, mR⟩
      ·exact trivial
    conv => whnf
    refine And.intro (fun s hs => ?_) ?_
    ·simp only [inv31] at hs
     obtain rfl := hs
     unfold inv31s34a
     (conv => whnf); repeat' (first | ((apply And.intro;· exact Cl4); conv => whnf) | (rw [hqf]; conv => whnf) | (rw [hqg]; conv => whnf) | (refine Both.mk ?_ ?_ <;> conv => whnf))
     ·exact ⟨[], _, rfl, mR⟩
     ·exact trivial
    conv => whnf
    refine And.intro (fun s hs => ?_) ?_
    ·simp only [inv31] at hs
     obtain rfl := hs
     unfold inv31s35a
     (conv => whnf); repeat' (first | ((apply And.intro;· exact Cl4); conv => whnf) | (rw [hqf]; conv => whnf) | (rw [hqg]; conv => whnf) | (refine Both.mk ?_ ?_ <;> conv => whnf))
     ·exact ⟨[], _, rfl, mR⟩
     ·exact ⟨[], _, rfl, mR⟩
     ·exact ⟨[], _, rfl, mR⟩
     ·exact trivial
    conv => whnf
    refine And.intro (fun s hs => ?_) ?_
    ·simp only [inv31] at hs
     obtain rfl := hs
     unfold inv31s36a
     (conv => whnf); repeat' (first | ((apply And.intro;· exact Cl4); conv => whnf) | (rw [hqf]; conv => whnf) | (rw [hqg]; conv => whnf) | (refine Both.mk ?_ ?_ <;> conv => whnf))
     ·exact ⟨[], _, rfl, mR⟩
     ·exact trivial
    conv => whnf
    refine And.intro (fun s hs => ?_) ?_
    ·simp only [inv31] at hs
     rcases hs with rfl | rfl
     ·unfold inv31s37a
      (conv => whnf); repeat' (first | ((apply And.intro;· exact Cl4); conv => whnf) | (rw [hqf]; conv => whnf) | (rw [hqg]; conv => whnf) | (refine Both.mk ?_ ?_ <;> conv => whnf))
      ·exact ⟨[], _, Or.inl rfl, mR⟩
      ·exact ⟨[], _, Or.inl rfl, mR⟩
      ·exact trivial
     ·unfold inv31s37b
      (conv => whnf); repeat' (first | ((apply And.intro;· exact Cl4); conv => whnf) | (rw [hqf]; conv => whnf) | (rw [hqg]; conv => whnf) | (refine Both.mk ?_ ?_ <;> conv => whnf))
      ·exact ⟨[], _, Or.inr rfl, mR⟩
      ·exact ⟨[], _, Or.inr rfl, mR⟩
      ·exact trivial
    conv => whnf
    refine And.intro (fun s hs => ?_) ?_
    ·simp only [inv31] at hs
     obtain rfl := hs
     unfold inv31s38a
     (conv => whnf); repeat' (first | ((apply And.intro;· exact Cl4); conv => whnf) | (rw [hqf]; conv => whnf) | (rw [hqg]; conv => whnf) | (refine Both.mk ?_ ?_ <;> conv => whnf))
     ·exact ⟨[], _, rfl, mR⟩
     ·exact trivial
    conv => whnf
    refine And.intro (fun s hs => ?_) ?_
    ·simp only [inv31] at hs
     obtain rfl := hs
     unfold inv31s39a
     (conv => whnf); repeat' (first | ((apply And.intro;· exact Cl4); conv => whnf) | (rw [hqf]; conv => whnf) | (rw [hqg]; conv => whnf) | (refine Both.mk ?_ ?_ <;> conv => whnf))
     ·exact ⟨[], _, rfl, mR⟩
     ·exact ⟨[], _, rfl, mR⟩
     ·exact ⟨[], _, rfl, mR⟩
     ·exact trivial
    conv => whnf
    refine And.intro (fun s hs => ?_) ?_
    ·simp only [inv31] at hs
     obtain rfl := hs
     unfold inv31s40a
     (conv => whnf); repeat' (first | ((apply And.intro;· exact Cl4); conv => whnf) | (rw [hqf]; conv => whnf) | (rw [hqg]; conv => whnf) | (refine Both.mk ?_ ?_ <;> conv => whnf))
     ·exact ⟨[], _, rfl, mR⟩
     ·exact ⟨[], _, rfl, mR⟩
     ·exact ⟨[], _, Or.inl rfl, mR⟩
     ·exact trivial
    conv => whnf
    refine And.intro (fun s hs => ?_) ?_
    ·simp only [inv31] at hs
     obtain rfl := hs
     unfold inv31s41a
     (conv => whnf); repeat' (first | ((apply And.intro;· exact Cl4); conv => whnf) | (rw [hqf]; conv => whnf) | (rw [hqg]; conv => whnf) | (refine Both.mk ?_ ?_ <;> conv => whnf))
     ·exact ⟨[], _, rfl, mR⟩
     ·exact ⟨[], _, rfl, mR⟩
     ·exact ⟨[], _, Or.inr rfl, mR⟩
     ·exact trivial
    conv => whnf
    refine And.intro (fun s hs => ?_) ?_
    ·simp only [inv31] at hs
     rcases hs with rfl | rfl
     ·unfold inv31s42a
      (conv => whnf); repeat' (first | ((apply And.intro;· exact Cl4); conv => whnf) | (rw [hqf]; conv => whnf) | (rw [hqg]; conv => whnf) | (refine Both.mk ?_ ?_ <;> conv => whnf))
      ·exact ⟨[], _, Or.inl rfl, mR⟩
      ·exact trivial
     ·unfold inv31s42b
      (conv => whnf); repeat' (first | ((apply And.intro;· exact Cl4); conv => whnf) | (rw [hqf]; conv => whnf) | (rw [hqg]; conv => whnf) | (refine Both.mk ?_ ?_ <;> conv => whnf))
      ·exact ⟨[], _, Or.inr rfl, mR⟩
      ·exact trivial
    conv => whnf
    refine And.intro (fun s hs => ?_) ?_
    ·simp only [inv31] at hs
     obtain rfl := hs
     unfold inv31s43a
     (conv => whnf); repeat' (first | ((apply And.intro;· exact Cl4); conv => whnf) | (rw [hqf]; conv => whnf) | (rw [hqg]; conv => whnf) | (refine Both.mk ?_ ?_ <;> conv => whnf))
     ·exact ⟨[], _, rfl, mR⟩
     ·exact trivial
    conv => whnf
    refine And.intro (fun s hs => ?_) ?_
    ·simp only [inv31] at hs
     rcases hs with rfl | rfl
     ·unfold inv31s44a
      (conv => whnf); repeat' (first | ((apply And.intro;· exact Cl4); conv => whnf) | (rw [hqf]; conv => whnf) | (rw [hqg]; conv => whnf) | (refine Both.mk ?_ ?_ <;> conv => whnf))
      ·exact ⟨[], _, Or.inl rfl, mR⟩
      ·exact trivial
     ·unfold inv31s44b
      (conv => whnf); repeat' (first | ((apply And.intro;· exact Cl4); conv => whnf) | (rw [hqf]; conv => whnf) | (rw [hqg]; conv => whnf) | (refine Both.mk ?_ ?_ <;> conv => whnf))
      ·exact ⟨[], _, Or.inr rfl, mR⟩
      ·exact trivial
    conv => whnf
    refine And.intro (fun s hs => ?_) ?_
    ·simp only [inv31] at hs
     obtain rfl := hs
     unfold inv31s45a
     (conv => whnf); repeat' (first | ((apply And.intro;· exact Cl4); conv => whnf) | (rw [hqf]; conv => whnf) | (rw [hqg]; conv => whnf) | (refine Both.mk ?_ ?_ <;> conv => whnf))
     ·exact ⟨[], _, rfl, mR⟩
     ·exact trivial
    conv => whnf
    refine And.intro (fun s hs => ?_) ?_
    ·simp only [inv31] at hs
     rcases hs with rfl | rfl
     ·unfold inv31s46a
      (conv => whnf); repeat' (first | ((apply And.intro;· exact Cl4); conv => whnf) | (rw [hqf]; conv => whnf) | (rw [hqg]; conv => whnf) | (refine Both.mk ?_ ?_ <;> conv => whnf))
      ·exact ⟨[], _, Or.inl rfl, mR⟩
      ·exact trivial
     ·unfold inv31s46b
      (conv => whnf); repeat' (first | ((apply And.intro;· exact Cl4); conv => whnf) | (rw [hqf]; conv => whnf) | (rw [hqg]; conv => whnf) | (refine Both.mk ?_ ?_ <;> conv => whnf))
      ·exact ⟨[], _, Or.inr rfl, mR⟩
      ·exact trivial
    conv => whnf
    refine And.intro (fun s hs => ?_) ?_
    ·simp only [inv31] at hs
     obtain rfl := hs
     unfold inv31s47a
     (conv => whnf); repeat' (first | ((apply And.intro;· exact Cl4); conv => whnf) | (rw [hqf]; conv => whnf) | (rw [hqg]; conv => whnf) | (refine Both.mk ?_ ?_ <;> conv => whnf))
     ·exact ⟨[], _, rfl, mR⟩
     ·exact ⟨[], _, rfl, mR⟩
     ·exact trivial
    conv => whnf
    refine And.intro (fun s hs => ?_) ?_
    ·simp only [inv31] at hs
     obtain rfl := hs
     unfold inv31s48a
     (conv => whnf); repeat' (first | ((apply And.intro;· exact Cl4); conv => whnf) | (rw [hqf]; conv => whnf) | (rw [hqg]; conv => whnf) | (refine Both.mk ?_ ?_ <;> conv => whnf))
     ·exact ⟨[], _, rfl, mR⟩
     ·exact ⟨[], _, Or.inl rfl, mR⟩
     ·exact trivial
    conv => whnf
    refine And.intro (fun s hs => ?_) ?_
    ·simp only [inv31] at hs
     obtain rfl := hs
     unfold inv31s49a
     (conv => whnf); repeat' (first | ((apply And.intro;· exact Cl4); conv => whnf) | (rw [hqf]; conv => whnf) | (rw [hqg]; conv => whnf) | (refine Both.mk ?_ ?_ <;> conv => whnf))
     ·exact ⟨[], _, rfl, mR⟩
     ·exact ⟨[], _, Or.inr rfl, mR⟩
     ·exact trivial
    conv => whnf
    refine And.intro (fun s hs => ?_) ?_
    ·simp only [inv31] at hs
     rcases hs with rfl | rfl
     ·unfold inv31s50a
      (conv => whnf); repeat' (first | ((apply And.intro;· exact Cl4); conv => whnf) | (rw [hqf]; conv => whnf) | (rw [hqg]; conv => whnf) | (refine Both.mk ?_ ?_ <;> conv => whnf))
      ·exact ⟨[], _, Or.inl rfl, mR⟩
      ·exact trivial
     ·unfold inv31s50b
      (conv => whnf); repeat' (first | ((apply And.intro;· exact Cl4); conv => whnf) | (rw [hqf]; conv => whnf) | (rw [hqg]; conv => whnf) | (refine Both.mk ?_ ?_ <;> conv => whnf))
      ·exact ⟨[], _, Or.inr rfl, mR⟩
      ·exact trivial
    conv => whnf
    refine And.intro (fun s hs => ?_) ?_
    ·simp only [inv31] at hs
     rcases hs with rfl | rfl
     ·unfold inv31s51a
      (conv => whnf); repeat' (first | ((apply And.intro;· exact Cl4); conv => whnf) | (rw [hqf]; conv => whnf) | (rw [hqg]; conv => whnf) | (refine Both.mk ?_ ?_ <;> conv => whnf))
      ·exact ⟨[], _, Or.inl rfl, mR⟩
      ·exact trivial
     ·unfold inv31s51b
      (conv => whnf); repeat' (first | ((apply And.intro;· exact Cl4); conv => whnf) | (rw [hqf]; conv => whnf) | (rw [hqg]; conv => whnf) | (refine Both.mk ?_ ?_ <;> conv => whnf))
      ·exact ⟨[], _, Or.inr rfl, mR⟩
      ·exact trivial
    conv => whnf
    refine And.intro (fun s hs => ?_) ?_
    ·simp only [inv31] at hs
     obtain rfl := hs
     unfold inv31s52a
     (conv => whnf); repeat' (first | ((apply And.intro;· exact Cl4); conv => whnf) | (rw [hqf]; conv => whnf) | (rw [hqg]; conv => whnf) | (refine Both.mk ?_ ?_ <;> conv => whnf))
     ·exact ⟨[], _, rfl, mR⟩
     ·exact ⟨[], _, Or.inl rfl, mR⟩
     ·exact trivial
    conv => whnf
    refine And.intro (fun s hs => ?_) ?_
    ·simp only [inv31] at hs
     obtain rfl := hs
     unfold inv31s53a
     (conv => whnf); repeat' (first | ((apply And.intro;· exact Cl4); conv => whnf) | (rw [hqf]; conv => whnf) | (rw [hqg]; conv => whnf) | (refine Both.mk ?_ ?_ <;> conv => whnf))
     ·exact ⟨[], _, rfl, mR⟩
     ·exact ⟨[], _, Or.inr rfl, mR⟩
     ·exact trivial
    conv => whnf
    refine And.intro (fun s hs => ?_) ?_
    ·simp only [inv31] at hs
     rcases hs with rfl | rfl
     ·unfold inv31s54a
      (conv => whnf); repeat' (first | ((apply And.intro;· exact Cl4); conv => whnf) | (rw [hqf]; conv => whnf) | (rw [hqg]; conv => whnf) | (refine Both.mk ?_ ?_ <;> conv => whnf))
      ·exact ⟨[], _, Or.inl rfl, mR⟩
      ·exact ⟨[], _, Or.inl rfl, mR⟩
      ·exact trivial
     ·unfold inv31s54b
      (conv => whnf); repeat' (first | ((apply And.intro;· exact Cl4); conv => whnf) | (rw [hqf]; conv => whnf) | (rw [hqg]; conv => whnf) | (refine Both.mk ?_ ?_ <;> conv => whnf))
      ·exact ⟨[], _, Or.inr rfl, mR⟩
      ·exact ⟨[], _, Or.inr rfl, mR⟩
      ·exact trivial
    conv => whnf
    refine And.intro (fun s hs => ?_) ?_
    ·simp only [inv31] at hs
     rcases hs with rfl | rfl
     ·unfold inv31s55a
      (conv => whnf); repeat' (first | ((apply And.intro;· exact Cl4); conv => whnf) | (rw [hqf]; conv => whnf) | (rw [hqg]; conv => whnf) | (refine Both.mk ?_ ?_ <;> conv => whnf))
      ·exact ⟨[], _, Or.inl rfl, mR⟩
      ·exact trivial
     ·unfold inv31s55b
      (conv => whnf); repeat' (first | ((apply And.intro;· exact Cl4); conv => whnf) | (rw [hqf]; conv => whnf) | (rw [hqg]; conv => whnf) | (refine Both.mk ?_ ?_ <;> conv => whnf))
      ·exact ⟨[], _, Or.inr rfl, mR⟩
      ·exact trivial
    conv => whnf
    refine And.intro (fun s hs => ?_) ?_
    ·simp only [inv31] at hs
     obtain rfl := hs
     unfold inv31s56a
     (conv => whnf); repeat' (first | ((apply And.intro;· exact Cl4); conv => whnf) | (rw [hqf]; conv => whnf) | (rw [hqg]; conv => whnf) | (refine Both.mk ?_ ?_ <;> conv => whnf))
     ·exact ⟨[], _, Or.inl rfl, mR⟩
     ·exact trivial
    conv => whnf
    refine And.intro (fun s hs => ?_) ?_
    ·simp only [inv31] at hs
     obtain rfl := hs
     unfold inv31s57a
     (conv => whnf); repeat' (first | ((apply And.intro;· exact Cl4); conv => whnf) | (rw [hqf]; conv => whnf) | (rw [hqg]; conv => whnf) | (refine Both.mk ?_ ?_ <;> conv => whnf))
     ·exact ⟨[], _, Or.inr rfl, mR⟩
     ·exact trivial
    conv => whnf
    refine And.intro (fun s hs => ?_) ?_
    ·simp only [inv31] at hs
     rcases hs with rfl | rfl
     ·unfold inv31s58a
      (conv => whnf); repeat' (first | ((apply And.intro;· exact Cl4); conv => whnf) | (rw [hqf]; conv => whnf) | (rw [hqg]; conv => whnf) | (refine Both.mk ?_ ?_ <;> conv => whnf))
      ·exact ⟨[], _, Or.inl rfl, mR⟩
      ·exact ⟨[], _, Or.inl rfl, mR⟩
      ·exact trivial
     ·unfold inv31s58b
      (conv => whnf); repeat' (first | ((apply And.intro;· exact Cl4); conv => whnf) | (rw [hqf]; conv => whnf) | (rw [hqg]; conv => whnf) | (refine Both.mk ?_ ?_ <;> conv => whnf))
      ·exact ⟨[], _, Or.inr rfl, mR⟩
      ·exact ⟨[], _, Or.inr rfl, mR⟩
      ·exact trivial
    conv => whnf
    refine And.intro (fun s hs => ?_) ?_
    ·simp only [inv31] at hs
     rcases hs with rfl | rfl
     ·unfold inv31s59a
      (conv => whnf); repeat' (first | ((apply And.intro;· exact Cl4); conv => whnf) | (rw [hqf]; conv => whnf) | (rw [hqg]; conv => whnf) | (refine Both.mk ?_ ?_ <;> conv => whnf))
      ·exact ⟨[], _, Or.inl rfl, mR⟩
      ·exact trivial
     ·unfold inv31s59b
      (conv => whnf); repeat' (first | ((apply And.intro;· exact Cl4); conv => whnf) | (rw [hqf]; conv => whnf) | (rw [hqg]; conv => whnf) | (refine Both.mk ?_ ?_ <;> conv => whnf))
      ·exact ⟨[], _, Or.inr rfl, mR⟩
      ·exact trivial
    conv => whnf
    refine And.intro (fun s hs => ?_) ?_
    ·simp only [inv31] at hs
     rcases hs with rfl | rfl
     ·unfold inv31s60a
      (conv => whnf); repeat' (first | ((apply And.intro;· exact Cl4); conv => whnf) | (rw [hqf]; conv => whnf) | (rw [hqg]; conv => whnf) | (refine Both.mk ?_ ?_ <;> conv => whnf))
      ·exact ⟨[], _, Or.inl rfl, mR⟩
      ·exact trivial
     ·unfold inv31s60b
      (conv => whnf); repeat' (first | ((apply And.intro;· exact Cl4); conv => whnf) | (rw [hqf]; conv => whnf) | (rw [hqg]; conv => whnf) | (refine Both.mk ?_ ?_ <;> conv => whnf))
      ·exact ⟨[], _, Or.inr rfl, mR⟩
      ·exact trivial
    conv => whnf
    refine And.intro (fun s hs => ?_) ?_
    ·simp only [inv31] at hs
     rcases hs with rfl | rfl
     ·unfold inv31s61a
      (conv => whnf); repeat' (first | ((apply And.intro;· exact Cl4); conv => whnf) | (rw [hqf]; conv => whnf) | (rw [hqg]; conv => whnf) | (refine Both.mk ?_ ?_ <;> conv => whnf))
      ·exact ⟨[], _, Or.inl rfl, mR⟩
      ·exact trivial
     ·unfold inv31s61b
      (conv => whnf); repeat' (first | ((apply And.intro;· exact Cl4); conv => whnf) | (rw [hqf]; conv => whnf) | (rw [hqg]; conv => whnf) | (refine Both.mk ?_ ?_ <;> conv => whnf))
      ·exact ⟨[], _, Or.inr rfl, mR⟩
      ·exact trivial
    conv => whnf
    refine And.intro (fun s hs => ?_) ?_
    ·simp only [inv31] at hs
     rcases hs with rfl | rfl
     ·unfold inv31s62a
      (conv => whnf); repeat' (first | ((apply And.intro;· exact Cl4); conv => whnf) | (rw [hqf]; conv => whnf) | (rw [hqg]; conv => whnf) | (refine Both.mk ?_ ?_ <;> conv => whnf))
      ·exact ⟨[], _, Or.inl rfl, mR⟩
      ·exact trivial
     ·unfold inv31s62b
      (conv => whnf); repeat' (first | ((apply And.intro;· exact Cl4); conv => whnf) | (rw [hqf]; conv => whnf) | (rw [hqg]; conv => whnf) | (refine Both.mk ?_ ?_ <;> conv => whnf))
      ·exact ⟨[], _, Or.inr rfl, mR⟩
      ·exact trivial
    conv => whnf
    refine And.intro (fun s hs => ?_) ?_
    ·simp only [inv31] at hs
     rcases hs with rfl | rfl
     ·exact trivial
     ·exact trivial
    conv => whnf
    exact trivial
   ·simp only [inv31, List.length_cons, List.length_nil] at hs
    rcases hs with rfl | rfl
    ·unfold inv31s63a
     (conv => whnf); repeat ((first | (apply And.intro;· exact Cl4) | apply T1 | apply T2 | apply T3 | apply T4 | apply T6 | apply T5); conv => whnf)
     refine Both.F (by simp) ?_
     (conv => whnf); repeat ((first | (apply And.intro;· exact Cl4) | apply T1 | apply T2 | apply T3 | apply T4 | apply T6 | apply T5); conv => whnf)
     refine ⟨Nat, fun k => ⟨87, [(8, .int .i64 k), (7, .ptr 3 0), (6, .ptr 2 0), (5, .int .i64 i), (3, .ptr 1 0), (2, .ptr 0 0)], [(0, .box (pgc zf lf tf zc lc tc)), (1, .box (pgc yf mf uf yc mc uc)), (2, .box (fdc f z t)), (3, .box (fdc f y u))], []⟩, fun k => k ≤ f.code.length, fun k => f.code.length - k, ⟨[], 0, Nat.zero_le _, ?_⟩, fun k hk => ?_⟩
     ·simp [meets, ghosts, St.le, St.get, look, keys, PV.labs, labsL, lookB, Blk.labs, fdc]
     ·conv => (arg 5; dsimp only)
      (conv => whnf); repeat ((first | (apply And.intro;· exact Cl4) | apply T1 | apply T2 | apply T3 | apply T4 | apply T6 | apply T5); conv => whnf)
      rw [hcm]
      by_cases hkx : k < f.code.length
      ·rw [decide_eq_true (show (k : Int) < (f.code.length : Int) by omega)]
       have hqx : nth (f.code.map INP) (Int.toNat (k : Int)) = .agg [.int .i64 f.code[k].op, .int .i64 f.code[k].a, .int .i64 f.code[k].b] := by rw [Int.toNat_natCast]; exact code_nth hkx
       generalize f.code[k] = x at hqx
       have hqx1 := hqx
       rw [Int.toNat_natCast] at hqx1
       (conv => whnf); repeat ((first | (apply And.intro;· exact Cl4) | apply T1 | apply T2 | apply T3 | apply T4 | apply T6 | apply T5); conv => whnf)
       refine ⟨inv31k2 zf lf tf zc lc tc yf mf uf yc mc uc f z t o y u o2 i k x, ⟨[], _, rfl, ?_⟩, ?_, fun s hs => ?_⟩
       ·simp [inv31k2s0a, meets, ghosts, St.le, St.get, look, keys, PV.labs, labsL, lookB, Blk.labs, fdc, PV.cells, hqx1]
       ·(conv => whnf)
        refine And.intro (fun s hs => ?_) ?_
        ·simp only [inv31k2] at hs
         obtain rfl := hs
         unfold inv31k2s0a
         (conv => whnf); repeat' (first | ((apply And.intro;· exact Cl4); conv => whnf) | (rw [hqx]; conv => whnf) | (refine Both.mk ?_ ?_ <;> conv => whnf))
         ·exact ⟨[], _, rfl, mR⟩
         ·exact ⟨[], _, rfl, mR⟩
         ·exact trivial
        conv => whnf
        refine And.intro (fun s hs => ?_) ?_
        ·simp only [inv31k2] at hs
         obtain rfl := hs
         unfold inv31k2s1a
         (conv => whnf); repeat' (first | ((apply And.intro;· exact Cl4); conv => whnf) | (rw [hqx]; conv => whnf) | (refine Both.mk ?_ ?_ <;> conv => whnf))
         ·exact ⟨[], _, rfl, mR⟩
         ·exact trivial
        conv => whnf
        refine And.intro (fun s hs => ?_) ?_
        ·simp only [inv31k2] at hs
         obtain rfl := hs
         unfold inv31k2s2a
         (conv => whnf); repeat' (first | ((apply And.intro;· exact Cl4); conv => whnf) | (rw [hqx]; conv => whnf) | (refine Both.mk ?_ ?_ <;> conv => whnf))
         ·exact ⟨[], _, rfl, mR⟩
         ·exact trivial
        conv => whnf
        refine And.intro (fun s hs => ?_) ?_
        ·simp only [inv31k2] at hs
         obtain rfl := hs
         unfold inv31k2s3a
         (conv => whnf); repeat' (first | ((apply And.intro;· exact Cl4); conv => whnf) | (rw [hqx]; conv => whnf) | (refine Both.mk ?_ ?_ <;> conv => whnf))
         ·exact ⟨[], _, rfl, mR⟩
         ·exact ⟨[], _, rfl, mR⟩
         ·exact trivial
        conv => whnf
        refine And.intro (fun s hs => ?_) ?_
        ·simp only [inv31k2] at hs
         obtain rfl := hs
         unfold inv31k2s4a
         (conv => whnf); repeat' (first | ((apply And.intro;· exact Cl4); conv => whnf) | (rw [hqx]; conv => whnf) | (refine Both.mk ?_ ?_ <;> conv => whnf))
         ·exact ⟨[], _, rfl, mR⟩
         ·exact ⟨[], _, rfl, mR⟩
         ·exact trivial
        conv => whnf
        refine And.intro (fun s hs => ?_) ?_
        ·simp only [inv31k2] at hs
         obtain rfl := hs
         unfold inv31k2s5a
         (conv => whnf); repeat' (first | ((apply And.intro;· exact Cl4); conv => whnf) | (rw [hqx]; conv => whnf) | (refine Both.mk ?_ ?_ <;> conv => whnf))
         ·exact ⟨[], _, rfl, mR⟩
         ·exact trivial
        conv => whnf
        refine And.intro (fun s hs => ?_) ?_
        ·simp only [inv31k2] at hs
         obtain rfl := hs
         unfold inv31k2s6a
         (conv => whnf); repeat' (first | ((apply And.intro;· exact Cl4); conv => whnf) | (rw [hqx]; conv => whnf) | (refine Both.mk ?_ ?_ <;> conv => whnf))
         ·exact ⟨[], _, rfl, mR⟩
         ·exact trivial
        conv => whnf
        refine And.intro (fun s hs => ?_) ?_
        ·simp only [inv31k2] at hs
         obtain rfl := hs
         unfold inv31k2s7a
         (conv => whnf); repeat' (first | ((apply And.intro;· exact Cl4); conv => whnf) | (rw [hqx]; conv => whnf) | (refine Both.mk ?_ ?_ <;> conv => whnf))
         ·exact ⟨[], _, rfl, mR⟩
         ·exact trivial
        conv => whnf
        refine And.intro (fun s hs => ?_) ?_
        ·simp only [inv31k2] at hs
         obtain rfl := hs
         unfold inv31k2s8a
         (conv => whnf); repeat' (first | ((apply And.intro;· exact Cl4); conv => whnf) | (rw [hqx]; conv => whnf) | (refine Both.mk ?_ ?_ <;> conv => whnf))
         ·exact ⟨[], _, rfl, mR⟩
         ·exact trivial
        conv => whnf
        refine And.intro (fun s hs => ?_) ?_
        ·simp only [inv31k2] at hs
         obtain rfl := hs
         unfold inv31k2s9a
         (conv => whnf); repeat' (first | ((apply And.intro;· exact Cl4); conv => whnf) | (rw [hqx]; conv => whnf) | (refine Both.mk ?_ ?_ <;> conv => whnf))
         ·exact ⟨[], _, rfl, mR⟩
         ·exact trivial
        conv => whnf
        refine And.intro (fun s hs => ?_) ?_
        ·simp only [inv31k2] at hs
         obtain rfl := hs
         unfold inv31k2s10a
         (conv => whnf); repeat' (first | ((apply And.intro;· exact Cl4); conv => whnf) | (rw [hqx]; conv => whnf) | (refine Both.mk ?_ ?_ <;> conv => whnf))
         ·exact ⟨[], _, rfl, mR⟩
         ·exact ⟨[], _, rfl, mR⟩
         ·exact trivial
        conv => whnf
        refine And.intro (fun s hs => ?_) ?_
        ·simp only [inv31k2] at hs
         obtain rfl := hs
         unfold inv31k2s11a
         (conv => whnf); repeat' (first | ((apply And.intro;· exact Cl4); conv => whnf) | (rw [hqx]; conv => whnf) | (refine Both.mk ?_ ?_ <;> conv => whnf))
         ·exact ⟨[], _, rfl, mR⟩
         ·exact trivial
        conv => whnf
        refine And.intro (fun s hs => ?_) ?_
        ·simp only [inv31k2] at hs
         obtain rfl := hs
         unfold inv31k2s12a
         (conv => whnf); repeat' (first | ((apply And.intro;· exact Cl4); conv => whnf) | (rw [hqx]; conv => whnf) | (refine Both.mk ?_ ?_ <;> conv => whnf))
         ·exact ⟨[], _, rfl, mR⟩
         ·exact trivial
        conv => whnf
        refine And.intro (fun s hs => ?_) ?_
        ·simp only [inv31k2] at hs
         obtain rfl := hs
         unfold inv31k2s13a
         (conv => whnf); repeat' (first | ((apply And.intro;· exact Cl4); conv => whnf) | (rw [hqx]; conv => whnf) | (refine Both.mk ?_ ?_ <;> conv => whnf))
         ·exact ⟨[], _, rfl, mR⟩
         ·exact trivial
        conv => whnf
        refine And.intro (fun s hs => ?_) ?_
        ·simp only [inv31k2] at hs
         obtain rfl := hs
         exact trivial
        conv => whnf
        exact trivial
       ·simp only [inv31k2, List.length_cons, List.length_nil] at hs
        subst hs
        unfold inv31k2s14a
        (conv => whnf); repeat ((first | (apply And.intro;· exact Cl4) | apply T1 | apply T2 | apply T3 | apply T4 | apply T6 | apply T5); conv => whnf)
        refine Both.F (by simp) ?_
        (conv => whnf); repeat ((first | (apply And.intro;· exact Cl4) | apply T1 | apply T2 | apply T3 | apply T4 | apply T6 | apply T5); conv => whnf)
        rw [wrap64 (n := (k : Int) + 1) (by omega) (by omega)]
        refine ⟨[], k + 1, hkx, by show f.code.length - (k + 1) < f.code.length - k; omega, ?_⟩
        simp [meets, ghosts, St.le, St.get, look, keys, PV.labs, labsL, lookB, Blk.labs, fdc]
      ·obtain rfl : k = f.code.length := by omega
       rw [decide_eq_false (show ¬ (f.code.length : Int) < (f.code.length : Int) by omega)]
       (conv => whnf); repeat ((first | (apply And.intro;· exact Cl4) | apply T1 | apply T2 | apply T3 | apply T4 | apply T6 | apply T5); conv => whnf)
       rw [wrap64 (n := (i : Int) + 1) (by omega) (by omega)]
       refine ⟨[], i + 1, hix, by show p.funcs.length - (i + 1) < p.funcs.length - i; omega, ?_⟩
       simp [meets, ghosts, St.le, St.get, look, keys, PV.labs, labsL, lookB, Blk.labs, fdc]
    ·unfold inv31s63b
     (conv => whnf); repeat ((first | (apply And.intro;· exact Cl4) | apply T1 | apply T2 | apply T3 | apply T4 | apply T6 | apply T5); conv => whnf)
     refine Both.F (by simp) ?_
     (conv => whnf); repeat ((first | (apply And.intro;· exact Cl4) | apply T1 | apply T2 | apply T3 | apply T4 | apply T6 | apply T5); conv => whnf)
     refine ⟨Nat, fun k => ⟨87, [(8, .int .i64 k), (7, .ptr 2 0), (6, .ptr 3 0), (5, .int .i64 i), (3, .ptr 1 0), (2, .ptr 0 0)], [(0, .box (pgc zf lf tf zc lc tc)), (1, .box (pgc yf mf uf yc mc uc)), (3, .box (fdc f z t)), (2, .box (fdc f y u))], []⟩, fun k => k ≤ f.code.length, fun k => f.code.length - k, ⟨[], 0, Nat.zero_le _, ?_⟩, fun k hk => ?_⟩
     ·simp [meets, ghosts, St.le, St.get, look, keys, PV.labs, labsL, lookB, Blk.labs, fdc]
     ·conv => (arg 5; dsimp only)
      (conv => whnf); repeat ((first | (apply And.intro;· exact Cl4) | apply T1 | apply T2 | apply T3 | apply T4 | apply T6 | apply T5); conv => whnf)
      rw [hcm]
      by_cases hkx : k < f.code.length
      ·rw [decide_eq_true (show (k : Int) < (f.code.length : Int) by omega)]
       have hqx : nth (f.code.map INP) (Int.toNat (k : Int)) = .agg [.int .i64 f.code[k].op, .int .i64 f.code[k].a, .int .i64 f.code[k].b] := by rw [Int.toNat_natCast]; exact code_nth hkx
       generalize f.code[k] = x at hqx
       have hqx1 := hqx
       rw [Int.toNat_natCast] at hqx1
       (conv => whnf); repeat ((first | (apply And.intro;· exact Cl4) | apply T1 | apply T2 | apply T3 | apply T4 | apply T6 | apply T5); conv => whnf)
       refine ⟨inv31k3 zf lf tf zc lc tc yf mf uf yc mc uc f z t o y u o2 i k x, ⟨[], _, rfl, ?_⟩, ?_, fun s hs => ?_⟩
       ·simp [inv31k3s0a, meets, ghosts, St.le, St.get, look, keys, PV.labs, labsL, lookB, Blk.labs, fdc, PV.cells, hqx1]
       ·(conv => whnf)
        refine And.intro (fun s hs => ?_) ?_
        ·simp only [inv31k3] at hs
         obtain rfl := hs
         unfold inv31k3s0a
         (conv => whnf); repeat' (first | ((apply And.intro;· exact Cl4); conv => whnf) | (rw [hqx]; conv => whnf) | (refine Both.mk ?_ ?_ <;> conv => whnf))
         ·exact ⟨[], _, rfl, mR⟩
         ·exact ⟨[], _, rfl, mR⟩
         ·exact trivial
        conv => whnf
        refine And.intro (fun s hs => ?_) ?_
        ·simp only [inv31k3] at hs
         obtain rfl := hs
         unfold inv31k3s1a
         (conv => whnf); repeat' (first | ((apply And.intro;· exact Cl4); conv => whnf) | (rw [hqx]; conv => whnf) | (refine Both.mk ?_ ?_ <;> conv => whnf))
         ·exact ⟨[], _, rfl, mR⟩
         ·exact trivial
        conv => whnf
        refine And.intro (fun s hs => ?_) ?_
        ·simp only [inv31k3] at hs
         obtain rfl := hs
         unfold inv31k3s2a
         (conv => whnf); repeat' (first | ((apply And.intro;· exact Cl4); conv => whnf) | (rw [hqx]; conv => whnf) | (refine Both.mk ?_ ?_ <;> conv => whnf))
         ·exact ⟨[], _, rfl, mR⟩
         ·exact trivial
        conv => whnf
        refine And.intro (fun s hs => ?_) ?_
        ·simp only [inv31k3] at hs
         obtain rfl := hs
         unfold inv31k3s3a
         (conv => whnf); repeat' (first | ((apply And.intro;· exact Cl4); conv => whnf) | (rw [hqx]; conv => whnf) | (refine Both.mk ?_ ?_ <;> conv => whnf))
         ·exact ⟨[], _, rfl, mR⟩
         ·exact ⟨[], _, rfl, mR⟩
         ·exact trivial
        conv => whnf
        refine And.intro (fun s hs => ?_) ?_
        ·simp only [inv31k3] at hs
         obtain rfl := hs
         unfold inv31k3s4a
         (conv => whnf); repeat' (first | ((apply And.intro;· exact Cl4); conv => whnf) | (rw [hqx]; conv => whnf) | (refine Both.mk ?_ ?_ <;> conv => whnf))
         ·exact ⟨[], _, rfl, mR⟩
         ·exact ⟨[], _, rfl, mR⟩
         ·exact trivial
        conv => whnf
        refine And.intro (fun s hs => ?_) ?_
        ·simp only [inv31k3] at hs
         obtain rfl := hs
         unfold inv31k3s5a
         (conv => whnf); repeat' (first | ((apply And.intro;· exact Cl4); conv => whnf) | (rw [hqx]; conv => whnf) | (refine Both.mk ?_ ?_ <;> conv => whnf))
         ·exact ⟨[], _, rfl, mR⟩
         ·exact trivial
        conv => whnf
        refine And.intro (fun s hs => ?_) ?_
        ·simp only [inv31k3] at hs
         obtain rfl := hs
         unfold inv31k3s6a
         (conv => whnf); repeat' (first | ((apply And.intro;· exact Cl4); conv => whnf) | (rw [hqx]; conv => whnf) | (refine Both.mk ?_ ?_ <;> conv => whnf))
         ·exact ⟨[], _, rfl, mR⟩
         ·exact trivial
        conv => whnf
        refine And.intro (fun s hs => ?_) ?_
        ·simp only [inv31k3] at hs
         obtain rfl := hs
         unfold inv31k3s7a
         (conv => whnf); repeat' (first | ((apply And.intro;· exact Cl4); conv => whnf) | (rw [hqx]; conv => whnf) | (refine Both.mk ?_ ?_ <;> conv => whnf))
         ·exact ⟨[], _, rfl, mR⟩
         ·exact trivial
        conv => whnf
        refine And.intro (fun s hs => ?_) ?_
        ·simp only [inv31k3] at hs
         obtain rfl := hs
         unfold inv31k3s8a
         (conv => whnf); repeat' (first | ((apply And.intro;· exact Cl4); conv => whnf) | (rw [hqx]; conv => whnf) | (refine Both.mk ?_ ?_ <;> conv => whnf))
         ·exact ⟨[], _, rfl, mR⟩
         ·exact trivial
        conv => whnf
        refine And.intro (fun s hs => ?_) ?_
        ·simp only [inv31k3] at hs
         obtain rfl := hs
         unfold inv31k3s9a
         (conv => whnf); repeat' (first | ((apply And.intro;· exact Cl4); conv => whnf) | (rw [hqx]; conv => whnf) | (refine Both.mk ?_ ?_ <;> conv => whnf))
         ·exact ⟨[], _, rfl, mR⟩
         ·exact trivial
        conv => whnf
        refine And.intro (fun s hs => ?_) ?_
        ·simp only [inv31k3] at hs
         obtain rfl := hs
         unfold inv31k3s10a
         (conv => whnf); repeat' (first | ((apply And.intro;· exact Cl4); conv => whnf) | (rw [hqx]; conv => whnf) | (refine Both.mk ?_ ?_ <;> conv => whnf))
         ·exact ⟨[], _, rfl, mR⟩
         ·exact ⟨[], _, rfl, mR⟩
         ·exact trivial
        conv => whnf
        refine And.intro (fun s hs => ?_) ?_
        ·simp only [inv31k3] at hs
         obtain rfl := hs
         unfold inv31k3s11a
         (conv => whnf); repeat' (first | ((apply And.intro;· exact Cl4); conv => whnf) | (rw [hqx]; conv => whnf) | (refine Both.mk ?_ ?_ <;> conv => whnf))
         ·exact ⟨[], _, rfl, mR⟩
         ·exact trivial
        conv => whnf
        refine And.intro (fun s hs => ?_) ?_
        ·simp only [inv31k3] at hs
         obtain rfl := hs
         unfold inv31k3s12a
         (conv => whnf); repeat' (first | ((apply And.intro;· exact Cl4); conv => whnf) | (rw [hqx]; conv => whnf) | (refine Both.mk ?_ ?_ <;> conv => whnf))
         ·exact ⟨[], _, rfl, mR⟩
         ·exact trivial
        conv => whnf
        refine And.intro (fun s hs => ?_) ?_
        ·simp only [inv31k3] at hs
         obtain rfl := hs
         unfold inv31k3s13a
         (conv => whnf); repeat' (first | ((apply And.intro;· exact Cl4); conv => whnf) | (rw [hqx]; conv => whnf) | (refine Both.mk ?_ ?_ <;> conv => whnf))
         ·exact ⟨[], _, rfl, mR⟩
         ·exact trivial
        conv => whnf
        refine And.intro (fun s hs => ?_) ?_
        ·simp only [inv31k3] at hs
         obtain rfl := hs
         exact trivial
        conv => whnf
        exact trivial
       ·simp only [inv31k3, List.length_cons, List.length_nil] at hs
        subst hs
        unfold inv31k3s14a
        (conv => whnf); repeat ((first | (apply And.intro;· exact Cl4) | apply T1 | apply T2 | apply T3 | apply T4 | apply T6 | apply T5); conv => whnf)
        refine Both.F (by simp) ?_
        (conv => whnf); repeat ((first | (apply And.intro;· exact Cl4) | apply T1 | apply T2 | apply T3 | apply T4 | apply T6 | apply T5); conv => whnf)
        rw [wrap64 (n := (k : Int) + 1) (by omega) (by omega)]
        refine ⟨[], k + 1, hkx, by show f.code.length - (k + 1) < f.code.length - k; omega, ?_⟩
        simp [meets, ghosts, St.le, St.get, look, keys, PV.labs, labsL, lookB, Blk.labs, fdc]
      ·obtain rfl : k = f.code.length := by omega
       rw [decide_eq_false (show ¬ (f.code.length : Int) < (f.code.length : Int) by omega)]
       (conv => whnf); repeat ((first | (apply And.intro;· exact Cl4) | apply T1 | apply T2 | apply T3 | apply T4 | apply T6 | apply T5); conv => whnf)
       rw [wrap64 (n := (i : Int) + 1) (by omega) (by omega)]
       refine ⟨[], i + 1, hix, by show p.funcs.length - (i + 1) < p.funcs.length - i; omega, ?_⟩
       simp [meets, ghosts, St.le, St.get, look, keys, PV.labs, labsL, lookB, Blk.labs, fdc]
  ·obtain rfl : i = p.funcs.length := by omega
   rw [decide_eq_false (show ¬ (p.funcs.length : Int) < (p.funcs.length : Int) by omega)]
   (conv => whnf); repeat ((first | (apply And.intro;· exact Cl4) | apply T1 | apply T2 | apply T3 | apply T4 | apply T6 | apply T5); conv => whnf)
   exact h
end Go.Vc
