/- What is proved here: contracts of functions of the program: of each function what it hands back and what it leaves in memory. Conditions: those that each theorem names. -/
import Derived.Scope
import Derived.Test.YthhokabbanhllaaGreatDoorTAf
set_option linter.unusedVariables false
set_option linter.unusedSimpArgs false
set_option linter.unusedSectionVars false
namespace Go.Vc
open Go
inductive NT where
 | l (i : Nat)
 | n (m : Nat) (x y : NT)
def goN (n : Nat) (K : Nat → Prop) : NT → Prop
 | .l i => match Nat.beq n i with
  | true => K i
  | false => K n
 | .n m x y => match Nat.blt n m with
  | true => goN n K x
  | false => goN n K y
theorem goN_eq (n : Nat) (K : Nat → Prop) : ∀ l, goN n K l = K n
 | .l i => by
  simp only [goN]
  split
  ·rename_i h
   rw [Nat.eq_of_beq_eq_true h]
  ·rfl
 | .n m x y => by
  simp only [goN]
  split
  ·exact goN_eq n K x
  ·exact goN_eq n K y
def numT : NT := .n 128 (.n 64 (.n 32 (.n 16 (.n 8 (.n 4 (.n 2 (.n 1 (.l 0) (.l 1)) (.n 3 (.l 2) (.l 3))) (.n 6 (.n 5 (.l 4) (.l 5)) (.n 7 (.l 6) (.l 7)))) (.n 12 (.n 10 (.n 9 (.l 8) (.l 9)) (.n 11 (.l 10) (.l 11))) (.n 14 (.n 13 (.l 12) (.l 13)) (.n 15 (.l 14) (.l 15))))) (.n 24 (.n 20 (.n 18 (.n 17 (.l 16) (.l 17)) (.n 19 (.l 18) (.l 19))) (.n 22 (.n 21 (.l 20) (.l 21)) (.n 23 (.l 22) (.l 23)))) (.n 28 (.n 26 (.n 25 (.l 24) (.l 25)) (.n 27 (.l 26) (.l 27))) (.n 30 (.n 29 (.l 28) (.l 29)) (.n 31 (.l 30) (.l 31)))))) (.n 48 (.n 40 (.n 36 (.n 34 (.n 33 (.l 32) (.l 33)) (.n 35 (.l 34) (.l 35))) (.n 38 (.n 37 (.l 36) (.l 37)) (.n 39 (.l 38) (.l 39)))) (.n 44 (.n 42 (.n 41 (.l 40) (.l 41)) (.n 43 (.l 42) (.l 43))) (.n 46 (.n 45 (.l 44) (.l 45)) (.n 47 (.l 46) (.l 47))))) (.n 56 (.n 52 (.n 50 (.n 49 (.l 48) (.l 49)) (.n 51 (.l 50) (.l 51))) (.n 54 (.n 53 (.l 52) (.l 53)) (.n 55 (.l 54) (.l 55)))) (.n 60 (.n 58 (.n 57 (.l 56) (.l 57)) (.n 59 (.l 58) (.l 59))) (.n 62 (.n 61 (.l 60) (.l 61)) (.n 63 (.l 62) (.l 63))))))) (.n 96 (.n 80 (.n 72 (.n 68 (.n 66 (.n 65 (.l 64) (.l 65)) (.n 67 (.l 66) (.l 67))) (.n 70 (.n 69 (.l 68) (.l 69)) (.n 71 (.l 70) (.l 71)))) (.n 76 (.n 74 (.n 73 (.l 72) (.l 73)) (.n 75 (.l 74) (.l 75))) (.n 78 (.n 77 (.l 76) (.l 77)) (.n 79 (.l 78) (.l 79))))) (.n 88 (.n 84 (.n 82 (.n 81 (.l 80) (.l 81)) (.n 83 (.l 82) (.l 83))) (.n 86 (.n 85 (.l 84) (.l 85)) (.n 87 (.l 86) (.l 87)))) (.n 92 (.n 90 (.n 89 (.l 88) (.l 89)) (.n 91 (.l 90) (.l 91))) (.n 94 (.n 93 (.l 92) (.l 93)) (.n 95 (.l 94) (.l 95)))))) (.n 112 (.n 104 (.n 100 (.n 98 (.n 97 (.l 96) (.l 97)) (.n 99 (.l 98) (.l 99))) (.n 102 (.n 101 (.l 100) (.l 101)) (.n 103 (.l 102) (.l 103)))) (.n 108 (.n 106 (.n 105 (.l 104) (.l 105)) (.n 107 (.l 106) (.l 107))) (.n 110 (.n 109 (.l 108) (.l 109)) (.n 111 (.l 110) (.l 111))))) (.n 120 (.n 116 (.n 114 (.n 113 (.l 112) (.l 113)) (.n 115 (.l 114) (.l 115))) (.n 118 (.n 117 (.l 116) (.l 117)) (.n 119 (.l 118) (.l 119)))) (.n 124 (.n 122 (.n 121 (.l 120) (.l 121)) (.n 123 (.l 122) (.l 123))) (.n 126 (.n 125 (.l 124) (.l 125)) (.n 127 (.l 126) (.l 127)))))))) (.n 192 (.n 160 (.n 144 (.n 136 (.n 132 (.n 130 (.n 129 (.l 128) (.l 129)) (.n 131 (.l 130) (.l 131))) (.n 134 (.n 133 (.l 132) (.l 133)) (.n 135 (.l 134) (.l 135)))) (.n 140 (.n 138 (.n 137 (.l 136) (.l 137)) (.n 139 (.l 138) (.l 139))) (.n 142 (.n 141 (.l 140) (.l 141)) (.n 143 (.l 142) (.l 143))))) (.n 152 (.n 148 (.n 146 (.n 145 (.l 144) (.l 145)) (.n 147 (.l 146) (.l 147))) (.n 150 (.n 149 (.l 148) (.l 149)) (.n 151 (.l 150) (.l 151)))) (.n 156 (.n 154 (.n 153 (.l 152) (.l 153)) (.n 155 (.l 154) (.l 155))) (.n 158 (.n 157 (.l 156) (.l 157)) (.n 159 (.l 158) (.l 159)))))) (.n 176 (.n 168 (.n 164 (.n 162 (.n 161 (.l 160) (.l 161)) (.n 163 (.l 162) (.l 163))) (.n 166 (.n 165 (.l 164) (.l 165)) (.n 167 (.l 166) (.l 167)))) (.n 172 (.n 170 (.n 169 (.l 168) (.l 169)) (.n 171 (.l 170) (.l 171))) (.n 174 (.n 173 (.l 172) (.l 173)) (.n 175 (.l 174) (.l 175))))) (.n 184 (.n 180 (.n 178 (.n 177 (.l 176) (.l 177)) (.n 179 (.l 178) (.l 179))) (.n 182 (.n 181 (.l 180) (.l 181)) (.n 183 (.l 182) (.l 183)))) (.n 188 (.n 186 (.n 185 (.l 184) (.l 185)) (.n 187 (.l 186) (.l 187))) (.n 190 (.n 189 (.l 188) (.l 189)) (.n 191 (.l 190) (.l 191))))))) (.n 224 (.n 208 (.n 200 (.n 196 (.n 194 (.n 193 (.l 192) (.l 193)) (.n 195 (.l 194) (.l 195))) (.n 198 (.n 197 (.l 196) (.l 197)) (.n 199 (.l 198) (.l 199)))) (.n 204 (.n 202 (.n 201 (.l 200) (.l 201)) (.n 203 (.l 202) (.l 203))) (.n 206 (.n 205 (.l 204) (.l 205)) (.n 207 (.l 206) (.l 207))))) (.n 216 (.n 212 (.n 210 (.n 209 (.l 208) (.l 209)) (.n 211 (.l 210) (.l 211))) (.n 214 (.n 213 (.l 212) (.l 213)) (.n 215 (.l 214) (.l 215)))) (.n 220 (.n 218 (.n 217 (.l 216) (.l 217)) (.n 219 (.l 218) (.l 219))) (.n 222 (.n 221 (.l 220) (.l 221)) (.n 223 (.l 222) (.l 223)))))) (.n 240 (.n 232 (.n 228 (.n 226 (.n 225 (.l 224) (.l 225)) (.n 227 (.l 226) (.l 227))) (.n 230 (.n 229 (.l 228) (.l 229)) (.n 231 (.l 230) (.l 231)))) (.n 236 (.n 234 (.n 233 (.l 232) (.l 233)) (.n 235 (.l 234) (.l 235))) (.n 238 (.n 237 (.l 236) (.l 237)) (.n 239 (.l 238) (.l 239))))) (.n 248 (.n 244 (.n 242 (.n 241 (.l 240) (.l 241)) (.n 243 (.l 242) (.l 243))) (.n 246 (.n 245 (.l 244) (.l 245)) (.n 247 (.l 246) (.l 247)))) (.n 252 (.n 250 (.n 249 (.l 248) (.l 249)) (.n 251 (.l 250) (.l 251))) (.n 254 (.n 253 (.l 252) (.l 253)) (.n 255 (.l 254) (.l 255))))))))
def forceN (n : Nat) (K : Nat → Prop) : Prop := goN n K numT
theorem forceN_eq (n : Nat) (K : Nat → Prop) : forceN n K = K n := goN_eq n K _
def forceB (b : Bool) (K : Bool → Prop) : Prop :=
 match b with
 | true => K true
 | false => K false
theorem forceB_eq (b : Bool) (K : Bool → Prop) : forceB b K = K b := by cases b <;> rfl
def forceNs : List Nat → (List Nat → Prop) → Prop
 | [], K => K []
 | n :: r, K => forceN n fun n => forceNs r fun r => K (n :: r)
theorem forceNs_eq : ∀ (l : List Nat) (K : List Nat → Prop), forceNs l K = K l
 | [], K => rfl
 | n :: r, K => by simp only [forceNs, forceN_eq, forceNs_eq r]
def force0 (v : PV) (K : PV → Prop) : Prop :=
 match v with
 | .int k n => K (.int k n)
 | .bool b => K (.bool b)
 | .str s => K (.str s)
 | .raw v => K (.raw v)
 | .fn f x y => K (.fn f x y)
 | .ptr i o => forceN i fun i => K (.ptr i o)
 | .eptr z i j o => forceN z fun z => forceN i fun i => K (.eptr z i j o)
 | .ro l o b => K (.ro l o b)
 | .sl z l t o => K (.sl z l t o)
 | .ref z i lo n => forceN z fun z => forceN i fun i => K (.ref z i lo n)
 | .agg l => K (.agg l)
 | .tup l => K (.tup l)
 | .cond c v => K (.cond c v)
 | .undef => K .undef
theorem force0_eq (v : PV) (K : PV → Prop) : force0 v K = K v := by cases v <;> simp only [force0, forceN_eq]
def forceC : List PV → (List PV → Prop) → Prop
 | [], K => K []
 | v :: r, K => force0 v fun v => forceC r fun r => K (v :: r)
theorem forceC_eq : ∀ (l : List PV) (K : List PV → Prop), forceC l K = K l
 | [], K => rfl
 | v :: r, K => by simp only [forceC, force0_eq, forceC_eq r]
def force1 (v : PV) (K : PV → Prop) : Prop :=
 match v with
 | .agg l => forceC l fun l => K (.agg l)
 | .fn f x y => forceC x fun x => forceC y fun y => K (.fn f x y)
 | .int k n => K (.int k n)
 | .bool b => K (.bool b)
 | .str s => K (.str s)
 | .raw v => K (.raw v)
 | .ptr i o => forceN i fun i => K (.ptr i o)
 | .eptr z i j o => forceN z fun z => forceN i fun i => K (.eptr z i j o)
 | .ro l o b => K (.ro l o b)
 | .sl z l t o => K (.sl z l t o)
 | .ref z i lo n => forceN z fun z => forceN i fun i => K (.ref z i lo n)
 | .tup l => K (.tup l)
 | .cond c v => K (.cond c v)
 | .undef => K .undef
theorem force1_eq (v : PV) (K : PV → Prop) : force1 v K = K v := by cases v <;> simp only [force1, forceN_eq, forceC_eq]
def forceL : List PV → (List PV → Prop) → Prop
 | [], K => K []
 | v :: r, K => force1 v fun v => forceL r fun r => K (v :: r)
theorem forceL_eq : ∀ (l : List PV) (K : List PV → Prop), forceL l K = K l
 | [], K => rfl
 | v :: r, K => by simp only [forceL, force1_eq, forceL_eq r]
def force2 (v : PV) (K : PV → Prop) : Prop :=
 match v with
 | .tup l => forceL l fun l => K (.tup l)
 | .cond c v => force1 v fun v => K (.cond c v)
 | .agg l => forceC l fun l => K (.agg l)
 | .fn f x y => forceC x fun x => forceC y fun y => K (.fn f x y)
 | .int k n => K (.int k n)
 | .bool b => K (.bool b)
 | .str s => K (.str s)
 | .raw v => K (.raw v)
 | .ptr i o => forceN i fun i => K (.ptr i o)
 | .eptr z i j o => forceN z fun z => forceN i fun i => K (.eptr z i j o)
 | .ro l o b => K (.ro l o b)
 | .sl z l t o => K (.sl z l t o)
 | .ref z i lo n => forceN z fun z => forceN i fun i => K (.ref z i lo n)
 | .undef => K .undef
theorem force2_eq (v : PV) (K : PV → Prop) : force2 v K = K v := by cases v <;> simp only [force2, forceN_eq, forceC_eq, forceL_eq, force1_eq]
def forceBlk (b : Blk) (K : Blk → Prop) : Prop :=
 match b with
 | .box l => forceC l fun l => K (.box l)
 | .row e z l o => forceN e fun e => forceN z fun z => forceB o fun o => K (.row e z l o)
 | .fro e z l o => forceN e fun e => forceN z fun z => forceB o fun o => K (.fro e z l o)
theorem forceBlk_eq (b : Blk) (K : Blk → Prop) : forceBlk b K = K b := by cases b <;> simp only [forceBlk, forceC_eq, forceB_eq, forceN_eq]
def forceH : List (Nat × Blk) → (List (Nat × Blk) → Prop) → Prop
 | [], K => K []
 | (i, b) :: r, K => forceN i fun i => forceBlk b fun b => forceH r fun r => K ((i, b) :: r)
theorem forceH_eq : ∀ (l : List (Nat × Blk)) (K : List (Nat × Blk) → Prop), forceH l K = K l
 | [], K => rfl
 | (i, b) :: r, K => by simp only [forceH, forceN_eq, forceBlk_eq, forceH_eq r]
def forceS : List (Nat × PV) → (List (Nat × PV) → Prop) → Prop
 | [], K => K []
 | (i, b) :: r, K => forceN i fun i => force2 b fun b => forceS r fun r => K ((i, b) :: r)
theorem forceS_eq : ∀ (l : List (Nat × PV)) (K : List (Nat × PV) → Prop), forceS l K = K l
 | [], K => rfl
 | (i, b) :: r, K => by simp only [forceS, forceN_eq, force2_eq, forceS_eq r]
def forceSt (s : St) (K : St → Prop) : Prop :=
 match s with
 | ⟨n, sl, h, kb⟩ => forceN n fun n => forceS sl fun sl => forceH h fun h => forceNs kb fun kb => K ⟨n, sl, h, kb⟩
theorem forceSt_eq (s : St) (K : St → Prop) : forceSt s K = K s := by cases s; simp only [forceSt, forceN_eq, forceS_eq, forceH_eq, forceNs_eq]
def putF (s : St) (d : Option Nat) (v : PV) (K : St → Prop) : Prop :=
 match s, d with
 | s, none => K s
 | ⟨n, sl, h, kb⟩, some d => match Nat.blt d n with
  | true => force2 v fun v => K ⟨n, (d, v) :: sl, h, kb⟩
  | false => K ⟨n, (d, .undef) :: sl, h, kb⟩
theorem putF_eq (s : St) (d : Option Nat) (v : PV) (K : St → Prop) : putF s d v K = K (s.put d v) := by
 obtain ⟨n, sl, h, kb⟩ := s
 cases d with
 | none => rfl
 | some d =>
  simp only [putF, St.put, force2_eq]
  cases hb : Nat.blt d n with
  | true => simp only [Nat.blt_eq] at hb; simp [hb]
  | false =>
   have : ¬ d < n := fun h => by rw [← Nat.blt_eq] at h; rw [hb] at h; cases h
   simp [this]
def stp (h : List (Nat × Blk)) (l : List Nat) : List Nat := l ++ l.flatMap fun i => match lookB i h with | some b => b.labs | none => []
def reachF (h : List (Nat × Blk)) (l : List Nat) (K : List Nat → Prop) : Prop :=
 forceNs (stp h l) fun l => forceNs (stp h l) fun l => forceNs (stp h l) fun l => forceNs (nub l) fun l => forceNs (l.filter fun i => (lookB i h).isSome) K
theorem reachF_eq (h : List (Nat × Blk)) (l : List Nat) (K : List Nat → Prop) : reachF h l K = K (reached h l) := by
 simp only [reachF, forceNs_eq]
 rfl
def callF (gv : Bool) (S : Callee) (s : St) (dst : Option Nat) (f : Nat) (args : List PV) (k : St → Prop) : Prop :=
 forceL (args.map (through gv s.heap)) fun vs => forceNs (labsL vs) fun l0 => reachF s.heap l0 fun l =>
 (closed s.heap l && l0.all (l.contains ·) && (gv || (args.flatMap PV.cells).all fun u => !u.refIn l)) = true ∧
 forceL (sentL (idx l) vs) fun as => forceH (l.map fun i => (idx l i, (blkAt s.heap i).sent (idx l))) fun su =>
 S f as su fun r h' =>
  let out := fun n => (l[n]?).getD (fresh s.heap + n)
  let s0 := lent (gv || (r.fresh && freshH h')) (args.flatMap PV.cells) s
  let s1 := killAll (l.filter fun i => !(blkAt s.heap i).isBox) s0
  k ({ s1 with heap := h'.map (fun p : Nat × Blk => (out p.1, p.2.mapL out)) ++ rest s1.heap l }.put dst (r.mapL out))
theorem callF_eq (gv : Bool) (S : Callee) (s : St) (dst : Option Nat) (f : Nat) (args : List PV) (k : St → Prop) : callF gv S s dst f args k = callWp gv S s dst f args k := by
 unfold callF callWp
 simp only [forceL_eq, forceNs_eq, reachF_eq, forceH_eq, Bool.and_eq_true, and_assoc]
def storeF (C : Ctx) (s : St) (t : Nat) (p v : PV) (dst : Option Nat) (k : St → Prop) : Prop :=
 v.cells.length = C.size t ∧ v.cells.all PV.one = true ∧ match p with
  | .ptr id off => match lookB id s.heap with
   | some (.box l) => off + C.size t ≤ l.length ∧ k ({ s with heap := updB id (.box (setAt l off v.cells)) s.heap }.put dst .undef)
   | _ => False
  | .eptr z id j off => match lookB id s.heap with
   | some (.row e z' l o) => z = z' ∧ off + C.size t ≤ z ∧ j < l.length ∧ ((v.cells.map (readCell s.heap)).all PV.flat = true) ∧ (v.cells.all (PV.notRef id) = true) ∧
     forceC (v.cells.map (readCell s.heap)) fun cs => k ({ s with heap := updB id (.row e z (l.set j (putElem (nth l j) off cs)) (o || cs.any PV.old)) (freezeAll v.cells s.heap) }.put dst .undef)
   | _ => False
  | _ => False
def hF (C : Ctx) (S : Callee) (s : St) (op : Op) (dst : Option Nat) (k : St → Prop) : Prop :=
 match op with
 | .call { callee := .value f, args, .. } => opd C s True f fun vf => opds C s True args.toList fun vs => match vf with
  | .fn (.func id) first caps => callF (C.give id) S s dst id (first ++ vs ++ caps) k
  | _ => False
 | .store t a x => 0 < C.size t ∧ opd C s True a fun p => opd C s True x fun v => force1 p fun p => force1 v fun v => storeF C s t p v dst k
 | .buildSlice t len parts => match C.ty t with
  | .slice e => opds C s True (parts.toList.map (·.2)) fun vs =>
    parts.toList.map (·.1) = List.range len ∧ (∀ v ∈ vs, v.cells.length = C.size e ∧ (v.cells.map (readCell s.heap)).all PV.flat = true) ∧ len * C.size e ≤ 16777216 ∧ 0 < C.size e ∧ (C.zero e).length = C.size e ∧
    forceL (vs.map (rowElem s.heap)) fun l => forceB ((vs.flatMap PV.cells).any fun v => (readCell s.heap v).old) fun o =>
    k (newRow { s with heap := freezeAll (vs.flatMap PV.cells) s.heap } dst e (C.size e) l o len)
  | _ => False
 | op => hWp C S s op dst k
theorem hF_eq (C : Ctx) (S : Callee) (s : St) (op : Op) (dst : Option Nat) (k : St → Prop) : hF C S s op dst k = hWp C S s op dst k := by
 unfold hF
 split
 ·simp only [callF_eq]; rfl
 ·simp only [force1_eq, storeF, forceC_eq]
  rfl
 ·simp only [forceL_eq, forceB_eq]
  rfl
 ·rfl
structure Both (p q : Prop) : Prop where
 l : p
 r : q
theorem both_eq (p q : Prop) : Both p q = (p ∧ q) := propext ⟨fun h => ⟨h.1, h.2⟩, fun h => ⟨h.1, h.2⟩⟩
theorem gd_ok {c b want : Bool} (h : c = true ∧ b = want) : (c && b == want) = true := by simp [h.1, h.2]
inductive Fop where
 | p (d : Option Nat) (op : Op)
 | h (d : Option Nat) (op : Op)
 | gp (d : Option Nat) (t : Nat) (want : Bool) (op : Op)
 | gh (d : Option Nat) (t : Nat) (want : Bool) (op : Op)
def fopWp (C : Ctx) (S : Callee) (o : Fop) (s : St) (k : St → Prop) : Prop :=
 match o with
 | .p d op => qWp C s True op fun v => putF s d v k
 | .h d op => hF C S s op d fun s' => forceSt s' k
 | .gp d t want op => match (s.get t).word with
  | some (c, b) => qWp C s (c = true ∧ b = want) op fun v => putF s d (.cond (c && b == want) v) k
  | none => False
 | .gh d t want op => match (s.get t).word with
  | some (c, b) => Both (c = true → b = want → hF C S (s.put (some t) (.bool want)) op d fun s' => forceSt s' k) ((c = true → b = !want) → putF s d (.cond false (.bool false)) k)
  | none => False
def fopOf (C : Ctx) (o : Cop) : Fop :=
 match o.g with
 | none => match isPlain C o.op with
  | true => .p o.d o.op
  | false => .h o.d o.op
 | some (t, want) => match isPlain C o.op with
  | true => .gp o.d t want o.op
  | false => .gh o.d t want o.op
theorem fop_eq (C : Ctx) (S : Callee) (o : Cop) (s : St) (k : St → Prop) : fopWp C S (fopOf C o) s k = copWp C S o s k := by
 have hk : (fun s' => forceSt s' k) = k := funext fun s' => forceSt_eq s' k
 obtain ⟨d, g, op⟩ := o
 cases g with
 | none =>
  unfold fopOf copWp
  simp only
  cases isPlain C op with
  | true => simp only [fopWp, putF_eq]
  | false => simp only [fopWp, hF_eq, hk]
 | some p =>
  obtain ⟨t, want⟩ := p
  unfold fopOf copWp
  simp only
  cases isPlain C op with
  | true =>
   simp only [fopWp, putF_eq]
   cases (s.get t).word with
   | none => rfl
   | some p => rfl
  | false =>
   simp only [fopWp, putF_eq, hF_eq, hk, both_eq]
   cases (s.get t).word with
   | none => rfl
   | some p => rfl
def fopOf' (C : Ctx) (all : Array Oper) (o : Oper) : Option Fop :=
 match copOf all o with
 | some x => some (fopOf C x)
 | none => none
theorem fop_eq' {C : Ctx} {S : Callee} {all : Array Oper} {o : Oper} {x : Fop} (hx : fopOf' C all o = some x) (s : St) (k : St → Prop) : opWp C S all o s k = fopWp C S x s k := by
 unfold fopOf' at hx
 split at hx
 ·rename_i y hy
  simp only [Option.some.injEq] at hx
  subst hx
  rw [fop_eq, cop_eq hy]
 ·cases hx
inductive CT where
 | done
 | q (o : Fop) (t : CT)
 | alt (o : Fop) (t r : CT)
 | stop
 | cut (t r : CT)
 | dag (nodes : List (List (Fop × Nat))) (t : CT)
inductive Cd where
 | skip
 | ops (l : List Fop)
 | tree (t : CT)
 | seq (a b : Cd)
 | cond (c : Operand) (a b : Cd)
 | block (id : Nat) (c : Cd)
 | loop (c : Cd)
 | exit (id : Nat)
 | ret
 | bad
 | cut (c : Cd)
 | scope (c : Cd)
def fopsWp (C : Ctx) (S : Callee) : List Fop → St → (St → Prop) → Prop
 | [], s, k => k s
 | o :: r, s, k => fopWp C S o s fun s' => fopsWp C S r s' k
def fedgesWp (C : Ctx) (S : Callee) (Inv : Nat → St → Prop) : List (Fop × Nat) → St → Prop
 | [], _ => True
 | (o, j) :: r, s => Both (fopWp C S o s fun s' => ∃ gs s0, Inv j s0 ∧ meets C gs s' s0) (fedgesWp C S Inv r s)
def fnodesWp (C : Ctx) (S : Callee) (Inv : Nat → St → Prop) : Nat → List (List (Fop × Nat)) → Prop
 | _, [] => True
 | k, es :: r => (∀ s, Inv k s → fedgesWp C S Inv es s) ∧ fnodesWp C S Inv (k + 1) r
def ctWp (C : Ctx) (S : Callee) : CT → St → (St → Prop) → Prop
 | .done, s, k => k s
 | .q o t, s, k => fopWp C S o s fun s' => ctWp C S t s' k
 | .alt o t r, s, k => Both (fopWp C S o s fun s' => ctWp C S t s' k) (ctWp C S r s k)
 | .stop, _, _ => True
 | .cut t r, s, k => ∃ (α : Type) (shape : α → St) (I : α → Prop), ctWp C S t s (fun s' => ∃ gs x, I x ∧ meets C gs s' (shape x)) ∧ ∀ x, I x → ctWp C S r (shape x) k
 | .dag nodes t, s, k => ∃ (Inv : Nat → St → Prop), (∃ gs s0, Inv 0 s0 ∧ meets C gs s s0) ∧ fnodesWp C S Inv 0 nodes ∧ ∀ s, Inv (nodes.length - 1) s → ctWp C S t s k
def cdWp (C : Ctx) (S : Callee) : Cd → (Ex → St → Prop) → St → Prop
 | .skip, Q, s => Q .normal s
 | .ops l, Q, s => fopsWp C S l s (Q .normal)
 | .tree t, Q, s => ctWp C S t s (Q .normal)
 | .seq a b, Q, s => cdWp C S a (Ex.thn (cdWp C S b Q) Q) s
 | .cond c a b, Q, s => opd C s True c fun v => match v with
  | .bool v => Both (v = true → cdWp C S a Q s) (v = false → cdWp C S b Q s)
  | _ => False
 | .block id c, Q, s => cdWp C S c (Ex.blk id Q) s
 | .loop c, Q, s => ∃ (α : Type) (shape : α → St) (I : α → Prop) (μ : α → Nat), (∃ gs x, I x ∧ meets C gs s (shape x)) ∧
   ∀ x, I x → cdWp C S c (Ex.thn (fun s' => ∃ gs y, I y ∧ μ y < μ x ∧ meets C gs s' (shape y)) Q) (shape x)
 | .exit id, Q, s => Q (.exit id) s
 | .ret, Q, s => Q .ret s
 | .bad, _, _ => False
 | .scope c, Q, s => cdWp C S c Q s
 | .cut c, Q, s => ∃ (α : Type) (shape : α → St) (I : α → Prop), cdWp C S c (Ex.thn (fun s' => ∃ gs x, I x ∧ meets C gs s' (shape x)) Q) s ∧ ∀ x, I x → Q .normal (shape x)
def fopsOf (C : Ctx) (all : Array Oper) : List Oper → Option (List Fop)
 | [] => some []
 | o :: r => match fopOf' C all o, fopsOf C all r with
  | some x, some l => some (x :: l)
  | _, _ => none
def edgesOf (C : Ctx) (all : Array Oper) : List (Nat × Nat) → Option (List (Fop × Nat))
 | [] => some []
 | (i, j) :: r => match fopOf' C all (all.getD i default), edgesOf C all r with
  | some o, some l => some ((o, j) :: l)
  | _, _ => none
def nodesOf (C : Ctx) (all : Array Oper) : List (Array Bool × Nat × List (Nat × Nat)) → Option (List (List (Fop × Nat)))
 | [] => some []
 | (_, _, es) :: r => match edgesOf C all es, nodesOf C all r with
  | some l, some k => some (l :: k)
  | _, _ => none
def ctOf (C : Ctx) (all : Array Oper) : PT → Option CT
 | .done => some .done
 | .q i t => match fopOf' C all (all.getD i default), ctOf C all t with
  | some o, some t => some (.q o t)
  | _, _ => none
 | .alt i t r => match fopOf' C all (all.getD i default), ctOf C all t, ctOf C all r with
  | some o, some t, some .stop => some (.q o t)
  | some o, some t, some r => some (.alt o t r)
  | _, _, _ => none
 | .stop => some .stop
 | .cut _ _ t r => match ctOf C all t, ctOf C all r with
  | some t, some r => some (.cut t r)
  | _, _ => none
 | .dag nodes t => match nodesOf C all nodes, ctOf C all t with
  | some l, some t => some (.dag l t)
  | _, _ => none
def find (C : Ctx) (all : Array Oper) : Nat → Array Bool → PT
 | 0, _ => .done
 | n + 1, listed =>
  match (Region.ready .any all listed).find? fun i => Region.free .any all listed i && (match all[i]? with | some o => isPlain C o.op && !isLoad o.op | none => false) with
  | some i => .q i (find C all n (listed.setIfInBounds i true))
  | none => match Region.ready .any all listed with
   | [] => .done
   | l => l.foldr (fun i r => .alt i (find C all n (listed.setIfInBounds i true)) r) .stop
def comp (C : Ctx) (pl : Nat → Option PT) : Code → Cd
 | .skip => .skip
 | .region _ ops false => match fopsOf C ops ops.toList with
  | some l => .ops l
  | none => .bad
 | .region id ops true =>
  let t := (pl id).getD (find C ops (ops.size + 1) (Array.replicate ops.size false))
  match planned C ops t, ctOf C ops t with
  | true, some t => .tree t
  | _, _ => .bad
 | .seq a b => .seq (comp C pl a) (comp C pl b)
 | .cond c a b => .cond c (comp C pl a) (comp C pl b)
 | .block id c => .block id (comp C pl c)
 | .loop c => .loop (comp C pl c)
 | .exit id => .exit id
 | .ret => .ret
 | .scope c => .scope (comp C pl c)
 | .label _ => .skip
 | _ => .bad
theorem fops_eq {C : Ctx} {S : Callee} {all : Array Oper} : ∀ (l : List Oper) (xs : List Fop), fopsOf C all l = some xs → ∀ (s : St) (k : St → Prop), opsWp C S all l s k = fopsWp C S xs s k
 | [], xs, h, s, k => by
  simp only [fopsOf, Option.some.injEq] at h
  subst h; rfl
 | o :: r, xs, h, s, k => by
  simp only [fopsOf] at h
  split at h
  ·rename_i x l hx hl
   simp only [Option.some.injEq] at h
   subst h
   simp only [opsWp, fopsWp]
   rw [fop_eq' hx]
   exact congrArg _ (funext fun s' => fops_eq r l hl s' k)
  ·cases h
theorem edges_eq {C : Ctx} {S : Callee} {all : Array Oper} {Inv : Nat → St → Prop} : ∀ (es : List (Nat × Nat)) (x : List (Fop × Nat)), edgesOf C all es = some x → ∀ s, edgesWp C S all Inv es s = fedgesWp C S Inv x s
 | [], x, h, s => by
  simp only [edgesOf, Option.some.injEq] at h
  subst h; rfl
 | (i, j) :: r, x, h, s => by
  simp only [edgesOf] at h
  split at h
  ·rename_i o l ho hl
   simp only [Option.some.injEq] at h
   subst h
   simp only [edgesWp, fedgesWp]
   rw [fop_eq' ho, edges_eq r l hl s, both_eq]
  ·cases h
theorem nodes_eq {C : Ctx} {S : Callee} {all : Array Oper} {Inv : Nat → St → Prop} : ∀ (ns : List (Array Bool × Nat × List (Nat × Nat))) (x : List (List (Fop × Nat))), nodesOf C all ns = some x → x.length = ns.length ∧ ∀ k, nodesWp C S all Inv k ns = fnodesWp C S Inv k x
 | [], x, h => by
  simp only [nodesOf, Option.some.injEq] at h
  subst h; exact ⟨rfl, fun _ => rfl⟩
 | (e, m, es) :: r, x, h => by
  simp only [nodesOf] at h
  split at h
  ·rename_i l k hl hk
   simp only [Option.some.injEq] at h
   subst h
   obtain ⟨h1, h2⟩ := nodes_eq (S := S) (Inv := Inv) r k hk
   refine ⟨by simp [h1], fun j => ?_⟩
   simp only [nodesWp, fnodesWp]
   rw [h2]
   have h3 : ∀ s, edgesWp C S all Inv es s = fedgesWp C S Inv l s := edges_eq es l hl
   simp only [h3]
  ·cases h
theorem ct_eq {C : Ctx} {S : Callee} {all : Array Oper} : ∀ (t : PT) (x : CT), ctOf C all t = some x → ∀ (s : St) (k : St → Prop), treeWp C S all t s k = ctWp C S x s k
 | .done, x, h, s, k => by
  simp only [ctOf, Option.some.injEq] at h
  subst h; rfl
 | .stop, x, h, s, k => by
  simp only [ctOf, Option.some.injEq] at h
  subst h; rfl
 | .dag ns t, x, h, s, k => by
  simp only [ctOf] at h
  split at h
  ·rename_i l t' hl ht
   simp only [Option.some.injEq] at h
   subst h
   simp only [treeWp, ctWp]
   have h1 := fun s => ct_eq (S := S) t t' ht s k
   refine congrArg _ (funext fun Inv => ?_)
   obtain ⟨e1, e2⟩ := nodes_eq (S := S) (Inv := Inv) ns l hl
   rw [e2, e1]
   simp only [h1]
  ·cases h
 | .cut m e t r, x, h, s, k => by
  simp only [ctOf] at h
  split at h
  ·rename_i t' r' ht hr
   simp only [Option.some.injEq] at h
   subst h
   simp only [treeWp, ctWp]
   have h1 := fun s k => ct_eq (S := S) t t' ht s k
   have h2 := fun s => ct_eq (S := S) r r' hr s k
   simp only [h1, h2]
  ·cases h
 | .q i t, x, h, s, k => by
  simp only [ctOf] at h
  split at h
  ·rename_i o t' ho ht
   simp only [Option.some.injEq] at h
   subst h
   simp only [treeWp, ctWp]
   rw [fop_eq' ho]
   exact congrArg _ (funext fun s' => ct_eq t t' ht s' k)
  ·cases h
 | .alt i t r, x, h, s, k => by
  simp only [ctOf] at h
  cases ho : fopOf' C all (all.getD i default) with
  | none => rw [ho] at h; simp at h
  | some o =>
   cases ht : ctOf C all t with
   | none => rw [ho, ht] at h; simp at h
   | some t' =>
    cases hr : ctOf C all r with
    | none => rw [ho, ht, hr] at h; simp at h
    | some r' =>
     rw [ho, ht, hr] at h
     have h1 := fun s' => ct_eq (S := S) t t' ht s' k
     have h2 := ct_eq (S := S) r r' hr s k
     simp only [treeWp]
     rw [fop_eq' ho, h2, funext h1]
     cases r' <;> (simp only [Option.some.injEq] at h; subst h; simp only [ctWp, both_eq, and_true])
variable {C : Ctx} {E : Env} {pl : Nat → Option PT}
theorem cd_sound (hT : TyOk C) (hmix : C.P.follows .mixedOrders = true) (c : Code) : ∀ (Q : Ex → St → Prop) (Q' : Exit → Act → World → Prop) (s : St) (a : Act) (w : World),
  (∀ e s a w, Q e s → Holds C E s a w → Q' e.to a w) → (∀ ch a w, Q' (.panic ch) a w → False) → cdWp C (Spec C) (comp C pl c) Q s → Holds C E s a w → c.wp C.P Q' a w := by
 induction c with
 | skip => intro Q Q' s a w hQ hP hq h; exact wp_skip (hQ .normal s a w hq h)
 | region id ops draw =>
  intro Q Q' s a w hQ hP hq h
  cases draw with
  | false =>
   refine wp_region ?_
   rw [List.range_eq_range']
   simp only [comp] at hq
   split at hq
   ·rename_i l hl
    refine ops_sound hT (k := Q .normal) (fun s a w hk hh => hQ .normal s a w hk hh) ops.size 0 s a w (by omega) h ?_
    rw [List.drop_zero, fops_eq _ _ hl]
    exact hq
   ·exact hq.elim
  | true =>
   simp only [comp] at hq
   split at hq
   ·rename_i t hp ht
    unfold planned at hp
    rw [Bool.and_eq_true] at hp
    refine wp_region_any hmix (tree_sound hT hp.1 hP (k := Q .normal) (fun s a w hk hh => hQ .normal s a w hk hh) ops.size _ _ s a _ hp.2 h.drawn ?_)
    rw [ct_eq _ _ ht]
    exact hq
   ·exact hq.elim
 | seq x y ihx ihy =>
  intro Q Q' s a w hQ hP hq h
  refine wp_seq (ihx _ _ s a w (fun e s a w hq h => ?_) (fun ch a w hp => hP ch a w hp) hq h)
  cases e with
  | normal => exact ihy Q Q' s a w hQ hP hq h
  | exit id => exact hQ (.exit id) s a w hq h
  | ret => exact hQ .ret s a w hq h
 | cond c x y ihx ihy =>
  intro Q Q' s a w hQ hP hq h
  simp only [comp, cdWp] at hq
  obtain ⟨Z, φ, hr⟩ := h
  obtain ⟨v, hq, hv⟩ := hr.opd hq
  split at hq
  ·rename_i b
   have hb := (hv trivial).bool_inv
   exact wp_cond_split hb (fun ht => ihx Q Q' s a w hQ hP (hq.l ht) ⟨Z, φ, hr⟩) (fun ht => ihy Q Q' s a w hQ hP (hq.r ht) ⟨Z, φ, hr⟩)
  ·exact hq.elim
 | block id c ih =>
  intro Q Q' s a w hQ hP hq h
  refine wp_block (ih _ _ s a w (fun e s a w hq h => ?_) (fun ch a w hp => hP ch a w hp) hq h)
  cases e with
  | normal => exact hQ .normal s a w hq h
  | exit i =>
   simp only [Ex.blk] at hq
   simp only [Ex.to, Exit.inBlock]
   split
   ·rename_i hi; rw [if_pos hi] at hq; exact hQ .normal s a w hq h
   ·rename_i hi; rw [if_neg hi] at hq; exact hQ (.exit i) s a w hq h
  | ret => exact hQ .ret s a w hq h
 | loop c ih =>
  intro Q Q' s a w hQ hP hq h
  obtain ⟨α, shape, I, μ, ⟨gs, x0, hI, hm⟩, hround⟩ := hq
  have key : ∀ n x a w, μ x < n → I x → Holds C E (shape x) a w → Code.rounds C.P c Q' n a w := by
   intro n
   induction n with
   | zero => intro x a w hlt; exact absurd hlt (Nat.not_lt_zero _)
   | succ n ihn =>
    intro x a w hlt hx hh
    rw [rounds_succ]
    refine ih _ _ (shape x) a w (fun e s a w hq h => ?_) (fun ch a w hp => hP ch a w hp) (hround x hx) hh
    cases e with
    | normal =>
     obtain ⟨gs, y, hy, hlt', hm⟩ := hq
     exact ihn y a w (by omega) hy (meets_sound h hm)
    | exit id => exact hQ (.exit id) s a w hq h
    | ret => exact hQ .ret s a w hq h
  exact wp_loop_rounds (μ x0 + 1) (key _ x0 a w (Nat.lt_succ_self _) hI (meets_sound h hm))
 | scope c ih =>
  intro Q Q' s a w hQ hP hq h
  refine wp_scope_straight (ih _ _ s a w (fun e s a w hq h => ?_) (fun ch a w hp => hP ch a w hp) hq h)
  cases e with
  | normal => exact hQ .normal s a w hq h
  | exit id => exact hQ (.exit id) s a w hq h
  | ret => exact hQ .ret s a w hq h
 | label n => intro Q Q' s a w hQ hP hq h; exact wp_label (hQ .normal s a w hq h)
 | exit id => intro Q Q' s a w hQ hP hq h; exact wp_exit (hQ (.exit id) s a w hq h)
 | ret => intro Q Q' s a w hQ hP hq h; exact wp_ret (hQ .ret s a w hq h)
 | _ => intro Q Q' s a w hQ hP hq h; exact hq.elim
def Cd.plain : Cd → Cd
 | .scope c => .scope c.plain
 | .cut c => c.plain
 | .seq a b => .seq a.plain b.plain
 | .cond c a b => .cond c a.plain b.plain
 | .block id c => .block id c.plain
 | .loop c => .loop c.plain
 | .skip => .skip
 | .ops l => .ops l
 | .tree t => .tree t
 | .exit id => .exit id
 | .ret => .ret
 | .bad => .bad
theorem comp_region (id : Nat) (ops : Array Oper) (draw : Bool) : (∃ l, comp C pl (.region id ops draw) = .ops l) ∨ (∃ t, comp C pl (.region id ops draw) = .tree t) ∨ comp C pl (.region id ops draw) = .bad := by
 cases draw with
 | false =>
  simp only [comp]
  split
  ·exact .inl ⟨_, rfl⟩
  ·exact .inr (.inr rfl)
 | true =>
  simp only [comp]
  split
  ·exact .inr (.inl ⟨_, rfl⟩)
  ·exact .inr (.inr rfl)
theorem cut_sound (hT : TyOk C) (hmix : C.P.follows .mixedOrders = true) (cd : Cd) : ∀ (c : Code), cd.plain = comp C pl c → ∀ (Q : Ex → St → Prop) (Q' : Exit → Act → World → Prop) (s : St) (a : Act) (w : World),
  (∀ e s a w, Q e s → Holds C E s a w → Q' e.to a w) → (∀ ch a w, Q' (.panic ch) a w → False) → cdWp C (Spec C) cd Q s → Holds C E s a w → c.wp C.P Q' a w := by
 induction cd with
 | cut d ih =>
  intro c hc Q Q' s a w hQ hP hq h
  obtain ⟨α, shape, I, h1, h2⟩ := hq
  refine ih c hc _ Q' s a w (fun e s a w hq hh => ?_) hP h1 h
  cases e with
  | normal =>
   obtain ⟨gs, x, hI, hm⟩ := hq
   exact hQ .normal _ a w (h2 x hI) (meets_sound hh hm)
  | exit id => exact hQ (.exit id) s a w hq hh
  | ret => exact hQ .ret s a w hq hh
 | seq x y ihx ihy =>
  intro c hc Q Q' s a w hQ hP hq h
  cases c with
  | seq cx cy =>
   simp only [Cd.plain, comp, Cd.seq.injEq] at hc
   refine wp_seq (ihx cx hc.1 _ _ s a w (fun e s a w hq h => ?_) (fun ch a w hp => hP ch a w hp) hq h)
   cases e with
   | normal => exact ihy cy hc.2 Q Q' s a w hQ hP hq h
   | exit id => exact hQ (.exit id) s a w hq h
   | ret => exact hQ .ret s a w hq h
  | region id ops draw =>
   rcases comp_region (C := C) (pl := pl) id ops draw with ⟨l, hl⟩ | ⟨l, hl⟩ | hl
   all_goals (rw [hl] at hc; simp [Cd.plain] at hc)
  | _ => simp [Cd.plain, comp] at hc
 | cond o x y ihx ihy =>
  intro c hc Q Q' s a w hQ hP hq h
  cases c with
  | cond co cx cy =>
   simp only [Cd.plain, comp, Cd.cond.injEq] at hc
   obtain ⟨rfl, hc1, hc2⟩ := hc
   simp only [cdWp] at hq
   obtain ⟨Z, φ, hr⟩ := h
   obtain ⟨v, hq, hv⟩ := hr.opd hq
   split at hq
   ·rename_i b
    have hb := (hv trivial).bool_inv
    exact wp_cond_split hb (fun ht => ihx cx hc1 Q Q' s a w hQ hP (hq.l ht) ⟨Z, φ, hr⟩) (fun ht => ihy cy hc2 Q Q' s a w hQ hP (hq.r ht) ⟨Z, φ, hr⟩)
   ·exact hq.elim
  | region id ops draw =>
   rcases comp_region (C := C) (pl := pl) id ops draw with ⟨l, hl⟩ | ⟨l, hl⟩ | hl
   all_goals (rw [hl] at hc; simp [Cd.plain] at hc)
  | _ => simp [Cd.plain, comp] at hc
 | block id d ih =>
  intro c hc Q Q' s a w hQ hP hq h
  cases c with
  | block ci cc =>
   simp only [Cd.plain, comp, Cd.block.injEq] at hc
   obtain ⟨rfl, hc⟩ := hc
   refine wp_block (ih cc hc _ _ s a w (fun e s a w hq h => ?_) (fun ch a w hp => hP ch a w hp) hq h)
   cases e with
   | normal => exact hQ .normal s a w hq h
   | exit i =>
    simp only [Ex.blk] at hq
    simp only [Ex.to, Exit.inBlock]
    split
    ·rename_i hi; rw [if_pos hi] at hq; exact hQ .normal s a w hq h
    ·rename_i hi; rw [if_neg hi] at hq; exact hQ (.exit i) s a w hq h
   | ret => exact hQ .ret s a w hq h
  | region id ops draw =>
   rcases comp_region (C := C) (pl := pl) id ops draw with ⟨l, hl⟩ | ⟨l, hl⟩ | hl
   all_goals (rw [hl] at hc; simp [Cd.plain] at hc)
  | _ => simp [Cd.plain, comp] at hc
 | loop d ih =>
  intro c hc Q Q' s a w hQ hP hq h
  cases c with
  | loop cc =>
   simp only [Cd.plain, comp, Cd.loop.injEq] at hc
   obtain ⟨α, shape, I, μ, ⟨gs, x0, hI, hm⟩, hround⟩ := hq
   have key : ∀ n x a w, μ x < n → I x → Holds C E (shape x) a w → Code.rounds C.P cc Q' n a w := by
    intro n
    induction n with
    | zero => intro x a w hlt; exact absurd hlt (Nat.not_lt_zero _)
    | succ n ihn =>
     intro x a w hlt hx hh
     rw [rounds_succ]
     refine ih cc hc _ _ (shape x) a w (fun e s a w hq h => ?_) (fun ch a w hp => hP ch a w hp) (hround x hx) hh
     cases e with
     | normal =>
      obtain ⟨gs, y, hy, hlt', hm⟩ := hq
      exact ihn y a w (by omega) hy (meets_sound h hm)
     | exit id => exact hQ (.exit id) s a w hq h
     | ret => exact hQ .ret s a w hq h
   exact wp_loop_rounds (μ x0 + 1) (key _ x0 a w (Nat.lt_succ_self _) hI (meets_sound h hm))
  | region id ops draw =>
   rcases comp_region (C := C) (pl := pl) id ops draw with ⟨l, hl⟩ | ⟨l, hl⟩ | hl
   all_goals (rw [hl] at hc; simp [Cd.plain] at hc)
  | _ => simp [Cd.plain, comp] at hc
 | scope d ih =>
  intro c hc Q Q' s a w hQ hP hq h
  cases c with
  | scope cc =>
   simp only [Cd.plain, comp, Cd.scope.injEq] at hc
   refine wp_scope_straight (ih cc hc _ _ s a w (fun e s a w hq h => ?_) (fun ch a w hp => hP ch a w hp) hq h)
   cases e with
   | normal => exact hQ .normal s a w hq h
   | exit id => exact hQ (.exit id) s a w hq h
   | ret => exact hQ .ret s a w hq h
  | region id ops draw =>
   rcases comp_region (C := C) (pl := pl) id ops draw with ⟨l, hl⟩ | ⟨l, hl⟩ | hl
   all_goals (rw [hl] at hc; simp [Cd.plain] at hc)
  | _ => simp [Cd.plain, comp] at hc
 | skip => intro c hc Q Q' s a w hQ hP hq h; exact cd_sound hT hmix c Q Q' s a w hQ hP (by rw [← hc]; exact hq) h
 | ops l => intro c hc Q Q' s a w hQ hP hq h; exact cd_sound hT hmix c Q Q' s a w hQ hP (by rw [← hc]; exact hq) h
 | tree t => intro c hc Q Q' s a w hQ hP hq h; exact cd_sound hT hmix c Q Q' s a w hQ hP (by rw [← hc]; exact hq) h
 | exit i => intro c hc Q Q' s a w hQ hP hq h; exact cd_sound hT hmix c Q Q' s a w hQ hP (by rw [← hc]; exact hq) h
 | ret => intro c hc Q Q' s a w hQ hP hq h; exact cd_sound hT hmix c Q Q' s a w hQ hP (by rw [← hc]; exact hq) h
 | bad => intro c hc Q Q' s a w hQ hP hq h; exact hq.elim
theorem cspec_of_cd (hT : TyOk C) (hmix : C.P.follows .mixedOrders = true) {f : Nat} {fn : Func} {c : Code} (hf : C.P.funcs[f]? = some fn) (hb : fn.body = some c) (gv : Bool) {args : List PV} {h : List (Nat × Blk)}
  {Post : PV → List (Nat × Blk) → Prop} {cd : Cd} {rs : List ResultVar} {n : Nat} (hcd : comp C pl c = cd) (hrs : fn.results.toList = rs) (hnt : fn.ntmps = n) (hlen : args.length ≤ n) (hnd : (keys h).Nodup)
  (hwp : cdWp C (Spec C) cd (bodyQ C gv (fresh h) (boxes h) rs Post) (St.entry n args h)) : CSpec C f args h Post := by
 subst hcd hrs hnt
 exact cspec_core hT hf hb gv hlen hnd fun E Q' a w hQ hP hh => cd_sound hT hmix c _ _ _ _ _ hQ hP hwp hh
theorem spec_of_cd (hT : TyOk C) (hmix : C.P.follows .mixedOrders = true) {f : Nat} {fn : Func} {c : Code} (hf : C.P.funcs[f]? = some fn) (hname : (fn.name == "runtime.NumGoroutine") = false) (hb : fn.body = some c) (gv : Bool) {args : List PV} {h : List (Nat × Blk)}
  {Post : PV → List (Nat × Blk) → Prop} {cd : Cd} {rs : List ResultVar} {n : Nat} (hcd : comp C pl c = cd) (hrs : fn.results.toList = rs) (hnt : fn.ntmps = n) (hlen : args.length ≤ n) (hnd : (keys h).Nodup)
  (hwp : cdWp C (Spec C) cd (bodyQ C gv (fresh h) (boxes h) rs Post) (St.entry n args h)) : Spec C f args h Post :=
 spec_of_cspec hf hname hb (cspec_of_cd hT hmix hf hb gv hcd hrs hnt hlen hnd hwp)
def retF (C : Ctx) (gv : Bool) (n0 : Nat) (keep : List Nat) (rs : List ResultVar) (Post : PV → List (Nat × Blk) → Prop) (s : St) : Prop :=
 match resultP C s rs with
 | some us => forceL (us.map (through gv s.heap)) fun vs => forceNs (keep ++ labsL vs) fun l0 => reachF s.heap l0 fun l =>
  (closed s.heap l && l0.all (l.contains ·) && (gv || (us.flatMap PV.cells).all fun u => !u.refIn l)) = true ∧
  force2 (single (mapLL (outL n0 l) vs)) fun r => forceH (l.map fun i => (outL n0 l i, (blkAt s.heap i).mapL (outL n0 l))) fun h => Post r h
 | none => False
theorem retF_eq (C : Ctx) (gv : Bool) (n0 : Nat) (keep : List Nat) (rs : List ResultVar) (Post : PV → List (Nat × Blk) → Prop) (s : St) : retF C gv n0 keep rs Post s = retWp C gv n0 keep rs Post s := by
 unfold retF retWp
 simp only [forceL_eq, forceNs_eq, reachF_eq, forceH_eq, force2_eq, Bool.and_eq_true, and_assoc]
 cases resultP C s rs <;> rfl
def bodyF (C : Ctx) (gv : Bool) (n0 : Nat) (keep : List Nat) (rs : List ResultVar) (Post : PV → List (Nat × Blk) → Prop) : Ex → St → Prop
 | .normal, s => s.kb = keep ∧ retF C gv n0 keep rs Post s
 | .ret, s => s.kb = keep ∧ retF C gv n0 keep rs Post s
 | .exit _, _ => False
theorem bodyF_eq (C : Ctx) (gv : Bool) (n0 : Nat) (keep : List Nat) (rs : List ResultVar) (Post : PV → List (Nat × Blk) → Prop) : bodyF C gv n0 keep rs Post = bodyQ C gv n0 keep rs Post := by
 funext e s
 cases e <;> simp only [bodyF, bodyQ, retF_eq]
def noPl : Nat → Option PT := fun _ => none
structure FnIs (C : Ctx) (f : Nat) (n : Nat) (rs : List ResultVar) (cd : Cd) : Prop where
 is : ∃ fn c pl, C.P.funcs[f]? = some fn ∧ (fn.name == "runtime.NumGoroutine") = false ∧ fn.body = some c ∧ comp C pl c = cd ∧ fn.results.toList = rs ∧ fn.ntmps = n
theorem FnIs.cspec {f n : Nat} {rs : List ResultVar} {cd : Cd} (hF : FnIs C f n rs cd) (hT : TyOk C) (hmix : C.P.follows .mixedOrders = true) (gv : Bool) {args : List PV} {h : List (Nat × Blk)} {Post : PV → List (Nat × Blk) → Prop}
  (hlen : args.length ≤ n) (hnd : (keys h).Nodup) (hwp : forceSt (St.entry n args h) fun s => forceN (Vc.fresh h) fun n0 => forceNs (boxes h) fun kb => cdWp C (Spec C) cd (bodyF C gv n0 kb rs Post) s) : CSpec C f args h Post := by
 rw [forceSt_eq, forceN_eq, forceNs_eq, bodyF_eq] at hwp
 obtain ⟨fn, c, pl, h1, h2, h3, h4, h5, h6⟩ := hF.is
 exact cspec_of_cd hT hmix h1 h3 gv h4 h5 h6 hlen hnd hwp
theorem FnIs.spec {f n : Nat} {rs : List ResultVar} {cd : Cd} (hF : FnIs C f n rs cd) (hT : TyOk C) (hmix : C.P.follows .mixedOrders = true) (gv : Bool) {args : List PV} {h : List (Nat × Blk)} {Post : PV → List (Nat × Blk) → Prop}
  (hlen : args.length ≤ n) (hnd : (keys h).Nodup) (hwp : forceSt (St.entry n args h) fun s => forceN (Vc.fresh h) fun n0 => forceNs (boxes h) fun kb => cdWp C (Spec C) cd (bodyF C gv n0 kb rs Post) s) : Spec C f args h Post := by
 rw [forceSt_eq, forceN_eq, forceNs_eq, bodyF_eq] at hwp
 obtain ⟨fn, c, pl, h1, h2, h3, h4, h5, h6⟩ := hF.is
 exact spec_of_cd hT hmix h1 h2 h3 gv h4 h5 h6 hlen hnd hwp
def PV.weak1 : PV → PV
 | .sl z l _ _ => .sl z l false true
 | v => v
def PV.weak2 : PV → PV
 | .agg l => .agg (l.map PV.weak1)
 | v => v.weak1
def PV.weak : PV → PV
 | .tup l => .tup (l.map PV.weak2)
 | v => v.weak2
theorem Rep.weak1 {R : RC} {v : PV} {x : Value} (h : Rep R v x) : Rep R v.weak1 x := by
 cases v <;> first | exact h | skip
 case sl z l t o =>
  cases h with
  | sl _ _ _ _ _ h =>
   have := h.step (Z' := R.Zc true) (w' := R.w) fun b hb => ⟨⟨hb.1, .inl rfl⟩, rfl⟩
   cases this with
   | sl _ _ _ _ a n c cs hn hc ht hz hm he => exact .sl z l false true _ (.sl z l false true a n c cs hn hc (fun h => by cases h) hz hm he)
theorem Rep.weak2 {R : RC} {v : PV} {x : Value} (h : Rep R v x) : Rep R v.weak2 x := by
 cases v <;> first | exact h.weak1 | skip
 case agg l =>
  cases h with
  | agg _ cs hl h1 =>
   refine .agg _ cs (by rw [List.length_map]; exact hl) fun i u x hu hx => ?_
   rw [List.getElem?_map, Option.map_eq_some_iff] at hu
   obtain ⟨u', hu', rfl⟩ := hu
   exact (h1 i u' x hu' hx).weak1
theorem Rep.weak {R : RC} {v : PV} {x : Value} (h : Rep R v x) : Rep R v.weak x := by
 cases v <;> first | exact h.weak2 | skip
 case tup l =>
  cases h with
  | tup _ cs hl h1 =>
   refine .tup _ cs (by rw [List.length_map]; exact hl) fun i u x hu hx => ?_
   rw [List.getElem?_map, Option.map_eq_some_iff] at hu
   obtain ⟨u', hu', rfl⟩ := hu
   exact (h1 i u' x hu' hx).weak2
theorem Spec.weak {C : Ctx} {f : Nat} {args : List PV} {h : List (Nat × Blk)} {Post : PV → List (Nat × Blk) → Prop} (hs : Spec C f args h fun r h' => force2 r.weak fun r => Post r h') : Spec C f args h Post := by
 refine ⟨fun w Z φ vs hb o a next Q hn => hs.run w Z φ vs hb o a next Q fun v w' ⟨r, h', φ', Z', h1, h2, h3⟩ => hn v w' ⟨r.weak, h', φ', Z', ?_, h2.weak, h3⟩⟩
 simp only [force2_eq] at h1
 exact h1
theorem FnIs.specW {C : Ctx} {f n : Nat} {rs : List ResultVar} {cd : Cd} (hF : FnIs C f n rs cd) (hT : TyOk C) (hmix : C.P.follows .mixedOrders = true) (gv : Bool) {args : List PV} {h : List (Nat × Blk)} {Post : PV → List (Nat × Blk) → Prop}
  (hlen : args.length ≤ n) (hnd : (keys h).Nodup) (hwp : forceSt (St.entry n args h) fun s => forceN (Vc.fresh h) fun n0 => forceNs (boxes h) fun kb => cdWp C (Spec C) cd (bodyF C gv n0 kb rs fun r h' => force2 r.weak fun r => Post r h') s) : Spec C f args h Post :=
 Spec.weak (hF.spec hT hmix gv hlen hnd hwp)
def CT.fst : CT → Option Nat
 | .cut t _ => t.fst
 | .dag (((.p d _, _) :: _) :: _) _ | .dag (((.h d _, _) :: _) :: _) _ | .dag (((.gp d _ _ _, _) :: _) :: _) _ | .dag (((.gh d _ _ _, _) :: _) :: _) _ => d
 | .q (.p d _) _ | .q (.h d _) _ | .alt (.p d _) _ _ | .alt (.h d _) _ _ => d
 | .q (.gp d _ _ _) _ | .q (.gh d _ _ _) _ | .alt (.gp d _ _ _) _ _ | .alt (.gh d _ _ _) _ _ => d
 | _ => none
def Cd.cutAt (l : List Nat) : Cd → Cd
 | .scope c => .scope (c.cutAt l)
 | .tree t => match t.fst with
  | some d => if l.contains d then .cut (.tree t) else .tree t
  | none => .tree t
 | .seq a b => .seq (a.cutAt l) (b.cutAt l)
 | .cond (.tmp t) a b => if l.contains t then .cut (.cond (.tmp t) (a.cutAt l) (b.cutAt l)) else .cond (.tmp t) (a.cutAt l) (b.cutAt l)
 | .cond c a b => .cond c (a.cutAt l) (b.cutAt l)
 | .block id c => .block id (c.cutAt l)
 | .loop c => .loop (c.cutAt l)
 | .cut c => .cut c
 | .skip => .skip
 | .ops l => .ops l
 | .exit id => .exit id
 | .ret => .ret
 | .bad => .bad
theorem plain_cutAt (l : List Nat) (c : Cd) : (c.cutAt l).plain = c.plain := by
 induction c with
 | tree t =>
  simp only [Cd.cutAt]
  split
  ·split <;> rfl
  ·rfl
 | seq a b iha ihb => simp only [Cd.cutAt, Cd.plain, iha, ihb]
 | cond c a b iha ihb =>
  cases c with
  | tmp t =>
   simp only [Cd.cutAt]
   split <;> simp only [Cd.plain, iha, ihb]
  | _ => simp only [Cd.cutAt, Cd.plain, iha, ihb]
 | block id c ih => simp only [Cd.cutAt, Cd.plain, ih]
 | loop c ih => simp only [Cd.cutAt, Cd.plain, ih]
 | scope c ih => simp only [Cd.cutAt, Cd.plain, ih]
 | _ => rfl
theorem plain_comp (c : Code) : (comp C pl c).plain = comp C pl c := by
 induction c with
 | region id ops draw =>
  rcases comp_region (C := C) (pl := pl) id ops draw with ⟨l, hl⟩ | ⟨l, hl⟩ | hl
  all_goals (rw [hl]; rfl)
 | seq a b iha ihb => simp only [comp, Cd.plain, iha, ihb]
 | cond c a b iha ihb => simp only [comp, Cd.plain, iha, ihb]
 | block id c ih => simp only [comp, Cd.plain, ih]
 | loop c ih => simp only [comp, Cd.plain, ih]
 | scope c ih => simp only [comp, Cd.plain, ih]
 | _ => rfl
theorem FnIs.cspecC {f n : Nat} {rs : List ResultVar} {cd : Cd} (hF : FnIs C f n rs cd) (l : List Nat) (hT : TyOk C) (hmix : C.P.follows .mixedOrders = true) (gv : Bool) {args : List PV} {h : List (Nat × Blk)} {Post : PV → List (Nat × Blk) → Prop}
  (hlen : args.length ≤ n) (hnd : (keys h).Nodup) (hwp : forceSt (St.entry n args h) fun s => forceN (Vc.fresh h) fun n0 => forceNs (boxes h) fun kb => cdWp C (Spec C) (cd.cutAt l) (bodyF C gv n0 kb rs Post) s) : CSpec C f args h Post := by
 rw [forceSt_eq, forceN_eq, forceNs_eq, bodyF_eq] at hwp
 obtain ⟨fn, c, pl, h1, h2, h3, h4, h5, h6⟩ := hF.is
 subst h4 h5 h6
 exact cspec_core hT h1 h3 gv hlen hnd fun E Q' a w hQ hP hh => cut_sound hT hmix _ c (by rw [plain_cutAt, plain_comp]) _ _ _ _ _ hQ hP hwp hh
theorem FnIs.specC {f n : Nat} {rs : List ResultVar} {cd : Cd} (hF : FnIs C f n rs cd) (l : List Nat) (hT : TyOk C) (hmix : C.P.follows .mixedOrders = true) (gv : Bool) {args : List PV} {h : List (Nat × Blk)} {Post : PV → List (Nat × Blk) → Prop}
  (hlen : args.length ≤ n) (hnd : (keys h).Nodup) (hwp : forceSt (St.entry n args h) fun s => forceN (Vc.fresh h) fun n0 => forceNs (boxes h) fun kb => cdWp C (Spec C) (cd.cutAt l) (bodyF C gv n0 kb rs fun r h' => force2 r.weak fun r => Post r h') s) : Spec C f args h Post := by
 obtain ⟨fn, c, pl, h1, h2, h3, _⟩ := hF.is
 exact Spec.weak (spec_of_cspec h1 h2 h3 (hF.cspecC l hT hmix gv hlen hnd hwp))
end Go.Vc
