/- The checks of the small code against the loaded functions. -/
import Derived.Test.YtnjgakngmbbmfaaGreatDoorClapState
import Derived.Lib.Bytealg
import Derived.Laws.BytesArg
set_option linter.unusedVariables false
set_option linter.unusedSimpArgs false
namespace Go.Clap
inductive Opd (T : TyS) where
 | t (k : Nat)
 | c (x : C T)
 | g (cs : List (C T))
inductive BTy where
 | num | str | bool | slice | ptr | two (n : Nat)
 deriving DecidableEq
inductive IOp (T : TyS) where
 | mv (x : Opd T)
 | pick (c a b : Opd T)
 | box (k : Nat) (x : Opd T)
 | alloc (k : Nat) (zero : List (C T))
 | build (zero : List (C T)) (parts : List ((Nat × Nat) × Opd T))
 | bslice (k : Nat) (c : T.Ty) (parts : List (Opd T))
 | bsl (c : T.Ty) (parts : List (Opd T))
 | load (p : Opd T) (n : Nat) (agg : Bool)
 | store (p x : Opd T) (n : Nat)
 | fa (p : Opd T) (off : Nat)
 | fld (x : Opd T) (off n : Nat) (agg : Bool)
 | nilck (x : Opd T)
 | idxA (x i : Opd T) (sz : Nat)
 | idxArr (p i : Opd T) (sz len : Nat)
 | idxS (x i : Opd T)
 | idxG (x i : Opd T) (ln : Nat)
 | ext (x : Opd T) (i : Nat)
 | bin (op : BinOp) (ty : BTy) (x y : Opd T)
 | un (op : UnOp) (x : Opd T)
 | conv (k : IntKind) (x : Opd T)
 | len (st : Bool) (x : Opd T)
 | app (k : Nat) (c : T.Ty) (mx : Nat) (x y : Opd T)
 | apps (k : Nat) (c : T.Ty) (mx : Nat) (x y : Opd T)
 | slc (sz : Nat) (x : Opd T) (lo hi : Option (Opd T))
 | mk (k : Nat) (c : T.Ty) (z : T.U c) (mx : Nat) (n : Opd T)
 | mkf (f : Nat) (caps : List (Opd T))
 | mn (xs : List (Opd T))
 | mx (xs : List (Opd T))
 | s2b (x : Opd T)
 | xcmp (x y : Opd T)
 | xidx (x y : Opd T)
 | b2s (x : Opd T)
 | mark (x : Opd T)
 | idxC (p i : Opd T) (sz len : Nat)
 | allocR (k : Nat) (c : T.Ty) (n : Nat) (z : T.U c)
 | idxR (p i : Opd T) (sz len : Nat)
 | loadR (p : Opd T) (n : Nat)
 | bslR (c : T.Ty) (x : Opd T)
 | mkmap (k : Nat) (kc vc : T.Ty)
 | mapget (n : Nat) (x y : Opd T) (zero : C T) (ok : Bool)
 | mapadd (n : Nat) (x y z : Opd T)
 | isnil (ne : Bool) (x : Opd T)
 | mke (x : Opd T)
 | eqe (ne : Bool) (x y : Opd T)
 | mki
 | ldg (b : Nat)
 | call (k : Nat) (f : Nat) (args : List (Opd T))
 | callv (k : Nat) (f : Opd T) (args : List (Opd T))
structure Ins (T : TyS) where
 dst : Option Nat
 guard : Option (Nat × Bool)
 op : IOp T
inductive OT where
 | nil
 | go (i : Nat) (rest : OT)
 | alt (i : Nat) (a : OT) (j : Nat) (b : OT)
 | alt3 (i : Nat) (a : OT) (j : Nat) (b : OT) (k : Nat) (c : OT)
 | alt4 (i : Nat) (a : OT) (j : Nat) (b : OT) (k : Nat) (c : OT) (l : Nat) (d : OT)
def ol : List Nat → OT
 | [] => .nil
 | i :: l => .go i (ol l)
inductive Ps (T : TyS) where
 | keep (ks : List Nat) (ids : List Id)
 | own (k j : Nat) (c : T.Ty) (id : Id)
 | ownc (v : Id) (j : Nat) (c : T.Ty) (id : Id)
 | frz (k j : Nat) (c : T.Ty)
 | frzc (v : Id) (j : Nat) (c : T.Ty)
inductive IC (T : TyS) where
 | skip
 | reg (ops : List (Ins T))
 | drw (M : List Id) (ord : OT) (late fl : List Nat) (ops : List (Ins T))
 | seq (a b : IC T)
 | cond (k : Nat) (a b : IC T)
 | condc (t : Bool) (a b : IC T)
 | block (id : Nat) (a : IC T)
 | loop (a : IC T)
 | exit (id : Nat)
 | ret
 | fz (k j : Nat) (rest : IC T)
 | fzc (id : Id) (j : Nat) (rest : IC T)
 | own (k : Nat) (c : T.Ty) (id : Id) (rest : IC T)
 | ownc (v : Id) (j : Nat) (c : T.Ty) (id : Id) (rest : IC T)
 | keep (ks : List Nat) (ids : List Id) (rest : IC T)
 | tab (id : Id) (c : T.Ty) (rest : IC T)
 | untab (id : Id) (c : T.Ty) (rest : IC T)
 | fzt (id : Id) (rest : IC T)
 | pre (ps : List (Ps T)) (rest : IC T)
 | aft (a : IC T) (ps : List (Ps T))
 | regc (segs : List (List (Ins T) × List Nat × List Id)) (last : List (Ins T))
 | cut1 (ks : List Nat) (ids : List Id) (a : IC T)
 | cut (ks : List Nat) (ids : List Id) (a b : IC T)
 | dead
section
variable {T : TyS}
def St.ev (σ : St T) : Opd T → D T
 | .t k => σ.get k
 | .c x => .c x
 | .g cs => .agg cs
def D.cells : D T → Option (List (C T))
 | .c x => some [x]
 | .agg cs => some cs
 | _ => none
def mkD (agg : Bool) (cs : List (C T)) : D T :=
 match agg, cs with
 | true, cs => .agg cs
 | false, [c] => .c c
 | _, _ => .any
def splice {α : Type} (l : List α) (off : Nat) (xs : List α) : List α := l.take off ++ xs ++ l.drop (off + xs.length)
def fillC (σ : St T) : List (C T) → List ((Nat × Nat) × Opd T) → Option (List (C T))
 | cs, [] => some cs
 | cs, ((off, sz), x) :: rest => match (σ.ev x).cells with
  | some xs => if xs.length = sz ∧ off + sz ≤ cs.length then fillC σ (splice cs off xs) rest else none
  | none => none
def C.ren (f : Id → Option Id) : C T → C T
 | .osl id off len => match f id with | some i => .osl i off len | none => .any
 | .ptr id e off => match f id with | some i => .ptr i e off | none => .any
 | .fn g caps => match caps.mapM f with | some l => .fn g l | none => .any
 | .mapp id => match f id with | some i => .mapp i | none => .any
 | c => c
def D.ren1 (f : Id → Option Id) : D T → D T
 | .c x => .c (x.ren f)
 | .agg cs => .agg (cs.map (C.ren f))
 | d => d
def D.ren (f : Id → Option Id) : D T → D T
 | .tup ds => .tup (ds.map (D.ren1 f))
 | d => d.ren1 f
def Ent.ren (f : Id → Option Id) : Ent T → Ent T
 | .row ro c xs => .row ro c xs
 | .var cs => .var (cs.map (C.ren f))
 | .tab c rows none => .tab c rows none
 | .tab c rows (some (j, none)) => .tab c rows (some (j, none))
 | .tab c rows (some (j, some (id, len))) => match f id with
  | some i => .tab c rows (some (j, some (i, len)))
  | none => .tab c rows (some (j, none))
 | .map kc vc l => .map kc vc l
def toX (L : List Id) (id : Id) : Option Id := (L.idxOf? id).map Id.x
def entOf (loc : List (Id × Option (Ent T))) (id : Id) : Option (Ent T) := (loc.lookup id).getD none
def fromX (L : List Id) (k : Nat) (loc : List (Id × Option (Ent T))) : Id → Option Id
 | .x j => match L[j]? with
  | some id => some id
  | none => if (entOf loc (.x j)).isSome then some (.sub (.s k) (j - L.length)) else none
 | _ => none
def okL (σ : St T) (ds : List (D T)) (L : List Id) : Bool :=
 (ds.all fun d => d.ids.all fun i => L.contains i) && (L.all fun i => match σ.ent i with | some e => !e.ro && e.ids.all fun j => L.contains j | none => false) && L.Nodup
def locX (σ : St T) (L : List Id) : List (Id × Option (Ent T)) :=
 L.zipIdx.map fun (i, j) => (Id.x j, (σ.ent i).map (Ent.ren (toX L)))
def okNew (σ : St T) (L : List Id) (k : Nat) (loc : List (Id × Option (Ent T))) : Bool :=
 loc.all fun p => match p.1 with
  | .x j => decide (j < L.length) || σ.fresh (.sub (.s k) (j - L.length))
  | _ => false
def St.after (σ : St T) (L : List Id) (k : Nat) (loc : List (Id × Option (Ent T))) : St T :=
 { σ with loc := (loc.filterMap fun p => (fromX L k loc p.1).map fun i => (i, p.2.map (Ent.ren (fromX L k loc)))) ++ L.map (fun i => (i, none)) ++ σ.loc }
def chk (b : Bool) (X : Prop) : Prop :=
 match b with
 | true => X
 | false => False
theorem chk_iff {b : Bool} {X : Prop} : chk b X ↔ b = true ∧ X := by cases b <;> simp [chk]
def bsel (b : Bool) (X Y : Prop) : Prop :=
 match b with
 | true => X
 | false => Y
theorem bsel_iff {b : Bool} {X Y : Prop} : bsel b X Y ↔ (b = true → X) ∧ (b = false → Y) := by cases b <;> simp [bsel]
def gsel (b want : Bool) (X Y : Prop) : Prop :=
 match want with
 | true => bsel b X Y
 | false => bsel b Y X
theorem gsel_iff {b want : Bool} {X Y : Prop} : gsel b want X Y ↔ (b = want → X) ∧ (b ≠ want → Y) := by
 cases b <;> cases want <;> simp [gsel, bsel]
def binInt (op : BinOp) (k : IntKind) (a b : Int) (K : C T → Prop) : Prop :=
 match op with
 | .add => K (.int k (k.wrap (a + b)))
 | .sub => K (.int k (k.wrap (a - b)))
 | .mul => K (.int k (k.wrap (a * b)))
 | .quo => b ≠ 0 ∧ K (.int k (k.wrap (a.tdiv b)))
 | .rem => b ≠ 0 ∧ K (.int k (a.tmod b))
 | .and => K (.int k (k.wrap (BitVec.ofInt k.bits a &&& BitVec.ofInt k.bits b).toNat))
 | .or => K (.int k (k.wrap (BitVec.ofInt k.bits a ||| BitVec.ofInt k.bits b).toNat))
 | .xor => K (.int k (k.wrap (BitVec.ofInt k.bits a ^^^ BitVec.ofInt k.bits b).toNat))
 | .andNot => K (.int k (k.wrap (BitVec.ofInt k.bits a &&& ~~~ BitVec.ofInt k.bits b).toNat))
 | .eql => ∀ t, t = (a == b) → K (.bool t)
 | .neq => ∀ t, t = (a != b) → K (.bool t)
 | .lss => ∀ t, t = (decide (a < b)) → K (.bool t)
 | .leq => ∀ t, t = (decide (a ≤ b)) → K (.bool t)
 | .gtr => ∀ t, t = (decide (a > b)) → K (.bool t)
 | .geq => ∀ t, t = (decide (a ≥ b)) → K (.bool t)
 | _ => False
def binStr (op : BinOp) (a b : ByteArray) (K : C T → Prop) : Prop :=
 match op with
 | .add => ((a.size + b.size : Nat) : Int) ≤ 9223372036854775807 ∧ K (.str (a ++ b))
 | .eql => ∀ t, t = (a.toList == b.toList) → K (.bool t)
 | .neq => ∀ t, t = (!(a.toList == b.toList)) → K (.bool t)
 | .lss => ∀ t, t = (Op.bytesLess a.toList b.toList) → K (.bool t)
 | .leq => ∀ t, t = (Op.bytesLess a.toList b.toList || a.toList == b.toList) → K (.bool t)
 | .gtr => ∀ t, t = (!(Op.bytesLess a.toList b.toList || a.toList == b.toList)) → K (.bool t)
 | .geq => ∀ t, t = (!(Op.bytesLess a.toList b.toList)) → K (.bool t)
 | _ => False
def binShift (op : BinOp) (k : IntKind) (a b : Int) (K : C T → Prop) : Prop :=
 0 ≤ b ∧ match op with
 | .shl => K (.int k (k.wrap (a * 2 ^ (min b.toNat k.bits))))
 | .shr => K (.int k (a.fdiv (2 ^ (min b.toNat k.bits))))
 | _ => False
def eqNe (op : BinOp) (A B : Prop) : Prop :=
 match op with
 | .eql => A
 | .neq => B
 | _ => False
theorem eqNe_iff {op : BinOp} {A B : Prop} : eqNe op A B ↔ (op = .eql ∧ A) ∨ (op = .neq ∧ B) := by
 cases op <;> simp [eqNe]
def eqCells {T : TyS} : List (C T) → List (C T) → Option Bool
 | [], [] => some true
 | .int k a :: cs, .int k' b :: ds => if k = k' then (eqCells cs ds).map ((a == b) && ·) else none
 | _, _ => none
def vcBin (op : BinOp) (ty : BTy) (x y : D T) (K : C T → Prop) : Prop :=
 match ty, x, y with
 | .num, .c (.int k a), .c (.int k' b) => if op = .shl ∨ op = .shr then binShift op k a b K else chk (decide (k = k')) (binInt op k a b K)
 | .str, .c (.str a), .c (.str b) => binStr op a b K
 | .bool, .c (.bool a), .c (.bool b) => eqNe op (K (.bool (a == b))) (K (.bool (!(a == b))))
 | .slice, .c (.isl _ xs), .c .nils => eqNe op (∀ t : Bool, (xs ≠ [] → t = false) → K (.bool t)) (∀ t : Bool, (xs ≠ [] → t = false) → K (.bool (!t)))
 | .slice, .c .nils, .c .nils => eqNe op (K (.bool true)) (K (.bool false))
 | .ptr, .c .nilp, .c .nilp => eqNe op (K (.bool true)) (K (.bool false))
 | .two n, .agg cs, .agg ds => chk (decide (cs.length = n)) (match eqCells cs ds with
  | some b => eqNe op (∀ t, t = b → K (.bool t)) (∀ t, t = !b → K (.bool t))
  | none => False)
 | _, _, _ => False
def vcUn (op : UnOp) (x : D T) (K : C T → Prop) : Prop :=
 match op, x with
 | .not, .c (.bool b) => K (.bool (!b))
 | .neg, .c (.int k n) => K (.int k (k.wrap (0 - n)))
 | .xor, .c (.int k n) => K (.int k (k.wrap (BitVec.ofInt k.bits (if k.signed then -1 else k.max) ^^^ BitVec.ofInt k.bits n).toNat))
 | _, _ => False
def bound (o : Option (D T)) (dflt : Nat) (K : Nat → Prop) : Prop :=
 match o with
 | none => K dflt
 | some (.c (.int _ a)) => 0 ≤ a ∧ K a.toNat
 | _ => False
def mapOpt (f : Opd T → D T) : Option (Opd T) → Option (D T)
 | none => none
 | some x => some (f x)
def vcMin (mxx : Bool) : D T → List (D T) → (C T → Prop) → Prop
 | .c (.int k a), [], K => K (.int k a)
 | .c (.int k a), .c (.int _ b) :: rest, K => vcMin mxx (.c (.int k (if mxx then (if b > a then b else a) else (if b < a then b else a)))) rest K
 | _, _, _ => False
def capIds : List (D T) → Option (List Id)
 | [] => some []
 | .c (.ptr id 0 0) :: rest => (capIds rest).map (id :: ·)
 | _ => none
end
def mfind (S : Sig) (kc vc : S.Ty) : List (S.U kc × S.U vc) → S.U kc → Option (Option (S.U vc))
 | [], _ => some none
 | (a, v) :: l, u => match eqCells (S.row kc u) (S.row kc a) with
  | some true => some (some v)
  | some false => mfind S kc vc l u
  | none => none
abbrev Oracle (T : TyS) := Nat → List (D T) → List (Id × Option (Ent T)) → (D T → List (Id × Option (Ent T)) → Prop) → Prop
section
variable {S : Sig}
def rowsOf (S : Sig) (σ : St S.toTyS) (c : S.Ty) : List (Opd S.toTyS) → Option (List (S.U c))
 | [] => some []
 | x :: rest => match (σ.ev x).cells with
  | some cs => match S.unrow c cs, rowsOf S σ c rest with
   | some u, some us => some (u :: us)
   | _, _ => none
  | none => none
def vcSrc (σ : St S.toTyS) (c : S.Ty) (y : D S.toTyS) (K : List (S.U c) → Prop) : Prop :=
 match y with
 | .c .nils => K []
 | .c (.isl c' ys) => ∃ h : c' = c, K (h ▸ ys)
 | .c (.osl id off len) => match σ.ent id with
  | some (.row _ c' ys) => off + len ≤ ys.length ∧ ∃ h : c' = c, K (h ▸ ((ys.drop off).take len))
  | _ => False
 | _ => False
def vcCallL (O : Oracle S.toTyS) (σ : St S.toTyS) (k f : Nat) (ds : List (D S.toTyS)) (L : List Id) (K : D S.toTyS → St S.toTyS → Prop) : Prop :=
 chk (okL σ ds L) (O f (ds.map (D.ren (toX L))) (locX σ L) fun r loc =>
  chk (okNew σ L k loc) (K (r.ren (fromX L k loc)) (σ.after L k loc)))
def vcCall (O : Oracle S.toTyS) (σ : St S.toTyS) (k f : Nat) (ds : List (D S.toTyS)) (K : D S.toTyS → St S.toTyS → Prop) : Prop :=
 ∃ L : List Id, vcCallL O σ k f ds L K
def notOsl {T : TyS} (id : Id) : D T → Bool
 | .c (.osl i _ _) => decide (i ≠ id)
 | _ => true
def isVar {T : TyS} : Option (Ent T) → Bool
 | some (.var _) => true
 | _ => false
def entSz (S : Sig) : Option (Ent S.toTyS) → Option Nat
 | some (.row _ c _) => some (S.sz c)
 | some (.tab _ _ _) => some 1
 | _ => none
def tabRd {T : TyS} (c : T.Ty) (rows : List (List (T.U c))) (cur : Option (Nat × Option (Id × Nat))) (e : Nat) (K : C T → Prop) : Prop :=
 match cur with
 | none => ∀ r, rows[e]? = some r → K (.isl c r)
 | some (j, none) => e ≠ j ∧ ∀ r, rows[e]? = some r → K (.isl c r)
 | some (j, some (id, len)) => (e = j → K (.osl id 0 len)) ∧ (e ≠ j → ∀ r, rows[e]? = some r → K (.isl c r))
def vcStr {S : Sig} (c : S.Ty) (y : D S.toTyS) (K : List (S.U c) → Prop) : Prop :=
 match y with
 | .c (.str s) => ∃ ys : List (S.U c), ys.map (S.row c) = s.data.toList.map (fun b => [C.int .u8 (b.toNat : Int)]) ∧ K ys
 | _ => False
def appVC {S : Sig} (σ : St S.toTyS) (k : Nat) (c : S.Ty) (m : Nat) (d : D S.toTyS) (no : Id → Bool) (VS : (List (S.U c) → Prop) → Prop) (K : D S.toTyS → St S.toTyS → Prop) : Prop :=
 match d with
 | .c .nils => VS fun ys => ys.length ≤ m ∧ chk (σ.fresh (.s k))
  (K (.c (.osl (.s k) 0 ys.length)) (σ.put (.s k) (some (.row false c ys))))
 | .c (.osl id off ln) => match σ.ent id with
  | some (.row false c' xs) => chk (decide (off = 0)) (ln = xs.length ∧ ∃ h : c' = c, VS fun ys =>
   chk (no id) (xs.length + ys.length ≤ m ∧ chk (σ.fresh (.s k))
   (K (.c (.osl (.s k) 0 (xs.length + ys.length))) ((σ.put id none).put (.s k) (some (.row false c ((h ▸ xs : List (S.U c)) ++ ys)))))))
  | _ => False
 | _ => False
def IOp.vc (O : Oracle S.toTyS) (σ : St S.toTyS) (K : D S.toTyS → St S.toTyS → Prop) : IOp S.toTyS → Prop
 | .mv x => K (σ.ev x) σ
 | .pick c a b => match σ.ev c, σ.ev a, σ.ev b with
  | .c (.bool t), .c (.bool p), .c (.bool q) => K (.c (.bool (cond t p q))) σ
  | .c (.bool t), x, y => bsel t (K x σ) (K y σ)
  | _, _, _ => False
 | .box k x => match (σ.ev x).cells with
  | some cs => chk (σ.fresh (.s k)) (K (.c (.ptr (.s k) 0 0)) (σ.put (.s k) (some (.var cs))))
  | none => False
 | .alloc k zero => chk (σ.fresh (.s k)) (K (.c (.ptr (.s k) 0 0)) (σ.put (.s k) (some (.var zero))))
 | .build zero parts => match fillC σ zero parts with
  | some cs => K (.agg cs) σ
  | none => False
 | .bslice k c parts => match rowsOf S σ c parts with
  | some xs => chk (σ.fresh (.s k)) (K (.c (.osl (.s k) 0 xs.length)) (σ.put (.s k) (some (.row false c xs))))
  | none => False
 | .bsl c parts => match rowsOf S σ c parts with
  | some xs => K (.c (.isl c xs)) σ
  | none => False
 | .load p n agg => match σ.ev p with
  | .c (.ptr id e off) => match σ.ent id with
   | some (.var cs) => chk (decide (e = 0)) (chk (decide (off + n ≤ cs.length)) (K (mkD agg ((cs.drop off).take n)) σ))
   | some (.row _ c xs) => e < xs.length ∧ chk (decide (off + n ≤ S.sz c)) (∀ x, xs[e]? = some x → K (mkD agg (((S.row c x).drop off).take n)) σ)
   | some (.tab c rows cur) => e < rows.length ∧ chk (decide (off = 0 ∧ n = 1) && !agg) (tabRd c rows cur e fun d => K (.c d) σ)
   | _ => False
  | .c (.iptr c x off) => chk (decide (off + n ≤ S.sz c)) (K (mkD agg (((S.row c x).drop off).take n)) σ)
  | _ => False
 | .store p x n => match σ.ev p, (σ.ev x).cells with
  | .c (.ptr id e off), some vs => chk (decide (vs.length = n)) (match σ.ent id with
   | some (.var cs) => chk (decide (e = 0)) (chk (decide (off + n ≤ cs.length)) (K .any (σ.put id (some (.var (splice cs off vs))))))
   | some (.row false c xs) => e < xs.length ∧ chk (decide (off + n ≤ S.sz c)) (∀ x, xs[e]? = some x → ∃ x', S.unrow c (splice (S.row c x) off vs) = some x' ∧ K .any (σ.put id (some (.row false c (xs.set e x')))))
   | some (.tab c rows none) => match vs with
    | [.osl i 0 ln] => e < rows.length ∧ chk (decide (off = 0)) (K .any (σ.put id (some (.tab c rows (some (e, some (i, ln)))))))
    | _ => False
   | _ => False)
  | _, _ => False
 | .fa p off => match σ.ev p with
  | .c (.ptr id e o) => chk (σ.ent id).isSome (K (.c (.ptr id e (o + off))) σ)
  | .c (.iptr c x o) => K (.c (.iptr c x (o + off))) σ
  | _ => False
 | .fld x off n agg => match σ.ev x with
  | .agg cs => chk (decide (off + n ≤ cs.length)) (K (mkD agg ((cs.drop off).take n)) σ)
  | _ => False
 | .nilck x => match σ.ev x with
  | .c (.ptr id e o) => chk (σ.ent id).isSome (K (.c (.ptr id e o)) σ)
  | .c (.iptr c x o) => K (.c (.iptr c x o)) σ
  | _ => False
 | .idxA x i sz => match σ.ev x, σ.ev i with
  | .c (.isl c xs), .c (.int _ a) => chk (decide (S.sz c = sz)) ((0 ≤ a ∧ a < xs.length) ∧ ∀ u, xs[a.toNat]? = some u → K (.c (.iptr c u 0)) σ)
  | .c (.osl id off ln), .c (.int _ a) => chk (decide (entSz S (σ.ent id) = some sz)) ((0 ≤ a ∧ a < ln) ∧ K (.c (.ptr id (off + a.toNat) 0)) σ)
  | _, _ => False
 | .idxArr p i sz ln => match σ.ev p, σ.ev i with
  | .c (.ptr id e o), .c (.int _ a) => chk (σ.ent id).isSome ((0 ≤ a ∧ a < ln) ∧ K (.c (.ptr id e (o + a.toNat * sz))) σ)
  | .c (.iptr c x o), .c (.int _ a) => (0 ≤ a ∧ a < ln) ∧ K (.c (.iptr c x (o + a.toNat * sz))) σ
  | _, _ => False
 | .idxS x i => match σ.ev x, σ.ev i with
  | .c (.str s), .c (.int _ a) => (0 ≤ a ∧ a < s.size) ∧ ∀ b, s.data[a.toNat]? = some b → K (.c (.int .u8 b.toNat)) σ
  | _, _ => False
 | .idxG x i ln => match σ.ev x, σ.ev i with
  | .agg cs, .c (.int _ a) => (0 ≤ a ∧ a < ln) ∧ ln ≤ cs.length ∧ ∀ c, cs[a.toNat]? = some c → K (.c c) σ
  | _, _ => False
 | .ext x i => match σ.ev x with
  | .tup ds => match ds[i]? with
   | some d => K d σ
   | none => False
  | _ => False
 | .bin op ty x y => vcBin op ty (σ.ev x) (σ.ev y) fun r => K (.c r) σ
 | .un op x => vcUn op (σ.ev x) fun r => K (.c r) σ
 | .conv k x => match σ.ev x with
  | .c (.int _ a) => K (.c (.int k (k.wrap a))) σ
  | _ => False
 | .len st x => match st, σ.ev x with
  | false, .c (.isl _ xs) => xs.length ≤ 9223372036854775807 → K (.c (.int .i64 xs.length)) σ
  | false, .c (.osl id _ ln) => chk (σ.ent id).isSome (ln ≤ 9223372036854775807 → K (.c (.int .i64 ln)) σ)
  | false, .c .nils => K (.c (.int .i64 0)) σ
  | true, .c (.str s) => K (.c (.int .i64 s.size)) σ
  | _, _ => False
 | .app k c m x y => appVC σ k c m (σ.ev x) (fun id => notOsl id (σ.ev y)) (vcSrc σ c (σ.ev y)) K
 | .apps k c m x y => appVC σ k c m (σ.ev x) (fun _ => true) (vcStr c (σ.ev y)) K
 | .slc sz x lo hi => match σ.ev x with
  | .c (.isl c xs) => chk (decide (S.sz c = sz)) (bound (mapOpt σ.ev hi) xs.length fun h => bound (mapOpt σ.ev lo) 0 fun l => (l ≤ h ∧ h ≤ xs.length) ∧ K (.c (.isl c ((xs.drop l).take (h - l)))) σ)
  | .c (.osl id off ln) => chk (decide (entSz S (σ.ent id) = some sz)) (bound (mapOpt σ.ev hi) ln fun h => bound (mapOpt σ.ev lo) 0 fun l => (l ≤ h ∧ h ≤ ln) ∧ K (.c (.osl id (off + l) (h - l))) σ)
  | .c (.str s) => chk (decide (sz = 0)) (bound (mapOpt σ.ev hi) s.size fun h => bound (mapOpt σ.ev lo) 0 fun l => (l ≤ h ∧ h ≤ s.size) ∧ K (.c (.str (s.extract l h))) σ)
  | _ => False
 | .mk k c z m n => match σ.ev n with
  | .c (.int _ a) => (0 ≤ a ∧ a ≤ m) ∧ chk (σ.fresh (.s k)) (K (.c (.osl (.s k) 0 a.toNat)) (σ.put (.s k) (some (.row false c (List.replicate a.toNat z)))))
  | _ => False
 | .mkf f caps => match capIds (caps.map σ.ev) with
  | some l => chk (l.all fun i => (σ.ent i).isSome) (K (.c (.fn f l)) σ)
  | none => False
 | .mn xs => match xs.map σ.ev with
  | d :: ds => vcMin false d ds fun r => K (.c r) σ
  | [] => False
 | .mx xs => match xs.map σ.ev with
  | d :: ds => vcMin true d ds fun r => K (.c r) σ
  | [] => False
 | .s2b x => match σ.ev x with
  | .c (.str s) => s.size ≤ 9223372036854775807 ∧ K (.c (.isl S.byte (s.data.toList.map S.byteV))) σ
  | _ => False
 | .xcmp x y => match σ.ev x, σ.ev y with
  | .c (.str a), .c (.str b) => K (.c (.int .i64 (Lib.compareBytes a.data.toList b.data.toList))) σ
  | _, _ => False
 | .xidx x y => match σ.ev x, σ.ev y with
  | .c (.str a), .c (.int .u8 c) => K (.c (.int .i64 (firstIdx a c.toNat.toUInt8))) σ
  | _, _ => False
 | .b2s x => match σ.ev x with
  | .c (.isl c xs) => ∃ ns : List Int, xs.map (S.row c) = ns.map (fun n => [C.int .u8 n]) ∧ K (.c (.str (strOfNums ns))) σ
  | .c .nils => K (.c (.str ⟨#[]⟩)) σ
  | .c (.osl id off ln) => match σ.ent id with
   | some (.row _ c xs) => chk (decide (off = 0)) (ln = xs.length ∧ ∃ ns : List Int, xs.map (S.row c) = ns.map (fun n => [C.int .u8 n]) ∧ K (.c (.str (strOfNums ns))) σ)
   | _ => False
  | _ => False
 | .mark x => match σ.ev x with
  | .c (.osl id off ln) => match σ.ent id with
   | some (.row false c xs) => chk (decide (off = 0)) (ln = xs.length ∧ 0 < ln ∧ K (.c (.isl c xs)) (σ.put id none))
   | _ => False
  | _ => False
 | .idxC p i sz ln => match σ.ev p, σ.ev i with
  | .c (.ptr id e o), .c (.int _ a) => chk (σ.ent id).isSome ((0 ≤ a ∧ a < ln) ∧ ∀ j : Nat, (j : Int) = a → K (.c (.ptr id e (o + j * sz))) σ)
  | .c (.iptr c x o), .c (.int _ a) => (0 ≤ a ∧ a < ln) ∧ ∀ j : Nat, (j : Int) = a → K (.c (.iptr c x (o + j * sz))) σ
  | _, _ => False
 | .allocR k c n z => chk (σ.fresh (.s k)) (K (.c (.ptr (.s k) 0 0)) (σ.put (.s k) (some (.row false c (List.replicate n z)))))
 | .idxR p i sz ln => match σ.ev p, σ.ev i with
  | .c (.ptr id e o), .c (.int _ a) => match σ.ent id with
   | some (.row _ c xs) => chk (decide (e = 0) && decide (o = 0) && decide (S.sz c = sz)) ((0 ≤ a ∧ a < ln) ∧ K (.c (.ptr id a.toNat 0)) σ)
   | _ => False
  | .c (.iptr c x o), .c (.int _ a) => chk (decide (o = 0)) (∃ (e : S.Ty) (ys : List (S.U e)), S.row c x = ys.flatMap (S.row e) ∧ S.sz e = sz ∧ ys.length = ln ∧ (0 ≤ a ∧ a < ln) ∧ ∀ u, ys[a.toNat]? = some u → K (.c (.iptr e u 0)) σ)
  | _, _ => False
 | .loadR p n => match σ.ev p with
  | .c (.ptr id e o) => match σ.ent id with
   | some (.row _ c xs) => chk (decide (e = 0) && decide (o = 0)) ((0 < xs.length ∧ xs.length * S.sz c = n) ∧ K (.arrv c xs) σ)
   | _ => False
  | _ => False
 | .bslR c x => match σ.ev x with
  | .arrv c' xs => ∃ u, S.unrow c (xs.flatMap (S.row c')) = some u ∧ K (.c (.isl c [u])) σ
  | _ => False
 | .isnil ne x => match σ.ev x with
  | .c (.ifc b) => ∀ t, t = (bne b ne) → K (.c (.bool t)) σ
  | .c (.ife o) => ∀ t, t = (bne o.isNone ne) → K (.c (.bool t)) σ
  | _ => False
 | .mke x => match σ.ev x with
  | .c (.int .i64 n) => K (.c (.ife (some n))) σ
  | _ => False
 | .eqe ne x y => match σ.ev x, σ.ev y with
  | .c (.ife o), .c (.ife (some n)) => ∀ t, t = (bne (o == some n) ne) → K (.c (.bool t)) σ
  | _, _ => False
 | .mki => K (.c (.ifc false)) σ
 | .ldg _ => K (.c .any) σ
 | .mkmap k kc vc => chk (σ.fresh (.s k)) (K (.c (.mapp (.s k))) (σ.put (.s k) (some (.map kc vc []))))
 | .mapget n x y z ok => match σ.ev x with
  | .c (.mapp id) => match σ.ent id with
   | some (.map kc vc l) => match σ.ev y with
    | .agg ks => chk (decide (S.sz vc = 1) && decide (S.sz kc = n) && intCells ks) (∃ (u : S.U kc) (f : Option (S.U vc)), S.row kc u = ks ∧ mfind S kc vc l u = some f ∧ ∀ d, d = (match f with | some v => (S.row vc v).headD .any | none => z) →
     match ok with
     | true => K (.tup [.c d, .c (.bool f.isSome)]) σ
     | false => K (.c d) σ)
    | _ => False
   | _ => False
  | _ => False
 | .mapadd n x y z => match σ.ev x with
  | .c (.mapp id) => match σ.ent id with
   | some (.map kc vc l) => match σ.ev y, σ.ev z with
    | .agg ks, .c vd => chk (decide (S.sz vc = 1) && decide (S.sz kc = n) && intCells ks) (∃ (u : S.U kc) (v : S.U vc), S.row kc u = ks ∧ S.row vc v = [vd] ∧ mfind S kc vc l u = some none ∧ K .any (σ.put id (some (.map kc vc (l ++ [(u, v)])))))
    | _, _ => False
   | _ => False
  | _ => False
 | .call k f args => vcCall O σ k f (args.map σ.ev) K
 | .callv k fx args => match σ.ev fx with
  | .c (.fn f caps) => chk (caps.all fun i => isVar (σ.ent i)) (vcCall O σ k f (args.map σ.ev ++ caps.map fun i => .c (.ptr i 0 0)) K)
  | _ => False
def IOp.tvc (O : Oracle S.toTyS) (M : List Id) (σ : St S.toTyS) (K : D S.toTyS → St S.toTyS → Prop) : IOp S.toTyS → Prop
 | .call k f args => ∃ L : List Id, chk (L.all fun i => M.contains i) (vcCallL O σ k f (args.map σ.ev) L K)
 | .callv k fx args => match σ.ev fx with
  | .c (.fn f caps) => chk (caps.all fun i => isVar (σ.ent i)) (∃ L : List Id, chk (L.all fun i => M.contains i) (vcCallL O σ k f (args.map σ.ev ++ caps.map fun i => .c (.ptr i 0 0)) L K))
  | _ => False
 | .apps k c m x y => chk (match σ.ev x with | .c (.osl id _ _) => M.contains id | _ => true) ((IOp.apps k c m x y).vc O σ K)
 | .app k c m x y => chk (match σ.ev x with | .c (.osl id _ _) => M.contains id | _ => true) ((IOp.app k c m x y).vc O σ K)
 | .store p x n => chk (match σ.ev p with | .c (.ptr id _ _) => M.contains id | _ => true) ((IOp.store p x n).vc O σ K)
 | .mapadd n x y z => chk (match σ.ev x with | .c (.mapp id) => M.contains id | _ => true) ((IOp.mapadd n x y z).vc O σ K)
 | .mark x => chk (match σ.ev x with | .c (.osl id _ _) => M.contains id | _ => true) ((IOp.mark x).vc O σ K)
 | i => i.vc O σ K
def setO (σ : St S.toTyS) (dst : Option Nat) (d : D S.toTyS) : St S.toTyS :=
 match dst with
 | some k => σ.set k d
 | none => σ
def Ins.vc (O : Oracle S.toTyS) (σ : St S.toTyS) (K : St S.toTyS → Prop) (i : Ins S.toTyS) : Prop :=
 match i.guard with
 | none => i.op.vc O σ fun d σ' => K (setO σ' i.dst d)
 | some (j, want) => match σ.get j with
  | .c (.bool b) => gsel b want (i.op.vc O σ fun d σ' => K (setO σ' i.dst d)) (K (setO σ i.dst (.tup [])))
  | .tup [] => K (setO σ i.dst (.tup []))
  | _ => False
def vcOps (O : Oracle S.toTyS) : List (Ins S.toTyS) → St S.toTyS → (St S.toTyS → Prop) → Prop
 | [], σ, K => K σ
 | i :: rest, σ, K => i.vc O σ fun σ' => vcOps O rest σ' K
def IOp.isFloat {T : TyS} : IOp T → Bool
 | .mv _ | .pick _ _ _ | .build _ _ | .load _ _ _ | .fa _ _ | .fld _ _ _ _ | .nilck _ | .idxA _ _ _ | .idxArr _ _ _ _ | .idxS _ _ | .idxG _ _ _ | .ext _ _ | .bin _ _ _ _ | .un _ _ | .conv _ _ | .len _ _ | .slc _ _ _ _ | .mkf _ _ | .mn _ | .mx _ | .idxC _ _ _ _ | .idxR _ _ _ _ | .isnil _ _ | .mki | .mke _ | .eqe _ _ _ => true
 | _ => false
def IOp.isLoad {T : TyS} : IOp T → Bool
 | .load _ _ _ => true
 | _ => false
def loadOk (M : List Id) (σ : St S.toTyS) : IOp S.toTyS → Bool
 | .load p _ _ => match σ.ev p with
  | .c (.ptr id _ _) => !M.contains id
  | _ => true
 | _ => true
def Ins.dvc (O : Oracle S.toTyS) (M : List Id) (late fl : List Nat) (idx : Nat) (σ : St S.toTyS) (K : St S.toTyS → Prop) (i : Ins S.toTyS) : Prop :=
 let body := if fl.contains idx then chk (loadOk M σ i.op) (i.op.vc O σ fun d σ' => K (setO σ' i.dst d))
  else if late.contains idx then i.op.vc O σ fun d σ' => K (setO σ' i.dst d)
  else i.op.tvc O M σ fun d σ' => K (setO σ' i.dst d)
 match i.guard with
 | none => body
 | some (j, want) => match σ.get j with
  | .c (.bool b) => gsel b want body (K (setO σ i.dst (.tup [])))
  | .tup [] => K (setO σ i.dst (.tup []))
  | _ => False
def vcOrd (O : Oracle S.toTyS) (M : List Id) (late fl : List Nat) (is : List (Ins S.toTyS)) : OT → St S.toTyS → (St S.toTyS → Prop) → Prop
 | .nil, σ, K => K σ
 | .go idx rest, σ, K => match is[idx]? with
  | some i => i.dvc O M late fl idx σ fun σ' => vcOrd O M late fl is rest σ' K
  | none => False
 | .alt i1 r1 i2 r2, σ, K =>
  (match is[i1]? with
  | some i => i.dvc O M late fl i1 σ fun σ' => vcOrd O M late fl is r1 σ' K
  | none => False) ∧
  (match is[i2]? with
  | some i => i.dvc O M late fl i2 σ fun σ' => vcOrd O M late fl is r2 σ' K
  | none => False)
 | .alt3 i1 r1 i2 r2 i3 r3, σ, K =>
  (match is[i1]? with
  | some i => i.dvc O M late fl i1 σ fun σ' => vcOrd O M late fl is r1 σ' K
  | none => False) ∧
  (match is[i2]? with
  | some i => i.dvc O M late fl i2 σ fun σ' => vcOrd O M late fl is r2 σ' K
  | none => False) ∧
  (match is[i3]? with
  | some i => i.dvc O M late fl i3 σ fun σ' => vcOrd O M late fl is r3 σ' K
  | none => False)
 | .alt4 i1 r1 i2 r2 i3 r3 i4 r4, σ, K =>
  (match is[i1]? with
  | some i => i.dvc O M late fl i1 σ fun σ' => vcOrd O M late fl is r1 σ' K
  | none => False) ∧
  (match is[i2]? with
  | some i => i.dvc O M late fl i2 σ fun σ' => vcOrd O M late fl is r2 σ' K
  | none => False) ∧
  (match is[i3]? with
  | some i => i.dvc O M late fl i3 σ fun σ' => vcOrd O M late fl is r3 σ' K
  | none => False) ∧
  (match is[i4]? with
  | some i => i.dvc O M late fl i4 σ fun σ' => vcOrd O M late fl is r4 σ' K
  | none => False)
end
end Go.Clap
