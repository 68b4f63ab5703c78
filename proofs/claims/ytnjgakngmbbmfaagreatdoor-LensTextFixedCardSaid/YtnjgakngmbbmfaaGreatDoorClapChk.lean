/- The checks of the small code against the loaded functions. -/
import Derived.Test.YtnjgakngmbbmfaaGreatDoorClapIR
set_option linter.unusedVariables false
set_option linter.unusedSimpArgs false
namespace Go.Clap
variable {S : Sig}
def okConst (T : TyS) : Value → C T → Bool
 | .int k n, .int k' m => decide (k = k') && decide (n = m)
 | .bool a, .bool b => decide (a = b)
 | .string a, .str b => decide (a.data.toList = b.data.toList)
 | .slice none 0 0, .nils => true
 | .slice none 0 0, .isl _ [] => true
 | .pointer none, .nilp => true
 | .nilFunc, .nilf => true
 | .nilIface, .any => true
 | .nilIface, .ifc b => b
 | .nilIface, .ife none => true
 | _, _ => false
def okConsts (T : TyS) : List Value → List (C T) → Bool
 | [], [] => true
 | v :: vs, c :: cs => okConst T v c && okConsts T vs cs
 | _, _ => false
def okZero (T : TyS) (P : Program) (t : TypeId) (cs : List (C T)) : Bool :=
 match (P.info? t).bind (·.zero) with
 | some z => okConsts T z.cells.toList cs
 | none => false
def okOpd (T : TyS) (fid : Nat → FuncId) : Operand → Opd T → Bool
 | .tmp t, .t k => t == k
 | .const v, .c x => okConst T v x
 | .func f, .c (.fn g []) => fid g == f
 | .const (.agg xs), .g cs => okConsts T xs.toList cs
 | _, _ => false
def okOpds (T : TyS) (fid : Nat → FuncId) : List Operand → List (Opd T) → Bool
 | [], [] => true
 | x :: xs, y :: ys => okOpd T fid x y && okOpds T fid xs ys
 | _, _ => false
def okOpdO (T : TyS) (fid : Nat → FuncId) : Option Operand → Option (Opd T) → Bool
 | none, none => true
 | some x, some y => okOpd T fid x y
 | _, _ => false
def isAggB (P : Program) (t : TypeId) : Option Bool :=
 match P.underlying t with
 | some (.struct _) | some (.array _ _) => some true
 | some _ => some false
 | none => none
def szOf (P : Program) (t : TypeId) : Option Nat := (P.info? t).map (·.size)
def elemOfB (P : Program) (t : TypeId) : Option TypeId :=
 match P.underlying t with
 | some (.slice e) => some e
 | _ => none
def placeOf (P : Program) (t : TypeId) (i : Nat) : Option (Nat × Nat) :=
 match P.underlying t with
 | some (.struct fs) => match fs[i]? with
  | some f => (szOf P f.type).map fun s => (f.offset, s)
  | none => none
 | some (.array _ e) => (szOf P e).map fun s => (i * s, s)
 | _ => none
def okParts (T : TyS) (fid : Nat → FuncId) (P : Program) (t : TypeId) : List (Nat × Operand) → List ((Nat × Nat) × Opd T) → Bool
 | [], [] => true
 | (i, x) :: ps, (pl, y) :: qs => decide (placeOf P t i = some pl) && okOpd T fid x y && okParts T fid P t ps qs
 | _, _ => false
def fieldsOk (P : Program) (t : TypeId) : Bool :=
 match P.underlying t with
 | some (.struct fs) => fs.all fun f => (szOf P f.type).isSome
 | some (.array _ e) => (szOf P e).isSome
 | _ => false
def okIdx (T : TyS) (fid : Nat → FuncId) : Nat → List (Nat × Operand) → List (Opd T) → Bool
 | _, [], [] => true
 | n, (i, x) :: ps, y :: ys => i == n && okOpd T fid x y && okIdx T fid (n + 1) ps ys
 | _, _, _ => false
def okPlain (P : Program) : Nat → List Field → Bool
 | _, [] => true
 | i, f :: fs => decide (f.offset = i) && decide (f.name ≠ "_") && (match P.underlying f.type with | some (.int _) => true | _ => false) && okPlain P (i + 1) fs
def okKey (P : Program) (n : Nat) (t : TypeId) : Bool :=
 match P.underlying t with
 | some (.struct fs) => okPlain P 0 fs.toList && decide (fs.toList.length = n) && !P.stoodInHeld t
 | some (.array m e) => decide (m = n) && decide (szOf P e = some 1) && (match P.underlying e with | some (.int _) => true | _ => false)
 | _ => false
def okBTy (P : Program) (t : TypeId) : BTy → Bool
 | .num | .str => true
 | .two n => okKey P n t && !P.eqGuardType P.depth t
 | .bool => match P.underlying t with | some .bool => true | _ => false
 | .slice => match P.underlying t with | some (.slice _) => true | _ => false
 | .ptr => match P.underlying t with | some (.pointer _) => true | _ => false
def okElem (S : Sig) (P : Program) (t : TypeId) (c : S.Ty) (mx : Nat) : Bool :=
 match elemOfB P t with
 | some e => match P.info? e with
  | some i => decide (i.size = S.sz c) && decide (4 * mx * i.bytes ≤ 2 ^ 48) && decide (4 * mx ≤ 2 ^ 62) &&
   (match i.zero with | some z => decide (z.cells.size = S.sz c) && z.cells.all (·.oneCell') | none => false)
  | none => false
 | none => false
def isExt (P : Program) (f : FuncId) (nm : String) : Bool :=
 match P.funcs[f]? with
 | some fn => decide (fn.name = nm) && decide (fn.origin = "") && fn.body.isNone
 | none => false
def chkI (S : Sig) (P : Program) (fid : Nat → FuncId) (o : Op) : IOp S.toTyS → Bool
 | .mv y => match o with
  | .move x | .assign x => okOpd _ fid x y
  | _ => false
 | .pick c a b => match o with
  | .pick c' a' b' => okOpd _ fid c' c && okOpd _ fid a' a && okOpd _ fid b' b
  | _ => false
 | .box k y => match o with
  | .box t x => okOpd _ fid x y
  | _ => false
 | .alloc k zero => match o with
  | .alloc t => okZero _ P t zero
  | _ => false
 | .build zero qs => match o with
  | .build t ps => okZero _ P t zero && fieldsOk P t && okParts _ fid P t ps.toList qs
  | _ => false
 | .bslice k c ys => match o with
  | .buildSlice t n ps => okElem S P t c n && decide (n = ys.length) && okIdx _ fid 0 ps.toList ys && decide (n * S.sz c ≤ 2 ^ 24)
  | _ => false
 | .bsl c ys => match o with
  | .buildSlice t n ps => okElem S P t c n && decide (n = ys.length) && okIdx _ fid 0 ps.toList ys && decide (n * S.sz c ≤ 2 ^ 24)
  | _ => false
 | .load q n agg => match o with
  | .load t p => okOpd _ fid p q && decide (isAggB P t = some agg) && decide (szOf P t = some n) && (agg || decide (n = 1))
  | _ => false
 | .store q y n => match o with
  | .store t p x => okOpd _ fid p q && okOpd _ fid x y && decide (szOf P t = some n)
  | _ => false
 | .fa q off => match o with
  | .fieldAddr t p f => okOpd _ fid p q && (match P.underlying t with
   | some (.struct fs) => match fs[f]? with
    | some fd => decide (fd.offset = off) && (match szOf P fd.type with | some n => decide (n ≠ 0) | none => false)
    | none => false
   | _ => false)
  | _ => false
 | .fld y off n agg => match o with
  | .field t x f => okOpd _ fid x y && (match P.underlying t with
   | some (.struct fs) => match fs[f]? with
    | some fd => decide (fd.offset = off) && decide (szOf P fd.type = some n) && decide (isAggB P fd.type = some agg) && (agg || decide (n = 1))
    | none => false
   | _ => false)
  | _ => false
 | .nilck y => match o with
  | .nilCheck x => okOpd _ fid x y
  | _ => false
 | .idxA y j sz => match o with
  | .indexAddr t x i => okOpd _ fid x y && okOpd _ fid i j && (match elemOfB P t with | some e => decide (szOf P e = some sz) | none => false)
  | _ => false
 | .idxArr y j sz ln => match o with
  | .indexAddr t x i => okOpd _ fid x y && okOpd _ fid i j && (match P.underlying t with | some (.array n e) => decide (n = ln) && decide (szOf P e = some sz) | _ => false)
  | _ => false
 | .idxS y j => match o with
  | .index t x i => okOpd _ fid x y && okOpd _ fid i j && (match P.underlying t with | some .string => true | _ => false)
  | _ => false
 | .idxG y j ln => match o with
  | .index t x i => okOpd _ fid x y && okOpd _ fid i j && (match P.underlying t with | some (.array n e) => decide (n = ln) && decide (szOf P e = some 1) && decide (isAggB P e = some false) | _ => false)
  | _ => false
 | .ext y j => match o with
  | .extract x i => okOpd _ fid x y && decide (i = j)
  | _ => false
 | .bin op ty y z => match o with
  | .binOp op' t x x' _ => decide (op = op') && okOpd _ fid x y && okOpd _ fid x' z && okBTy P t ty
  | _ => false
 | .un op y => match o with
  | .unOp op' _ x => decide (op = op') && okOpd _ fid x y
  | _ => false
 | .conv k y => match o with
  | .convert s d x => okOpd _ fid x y && (P.underlying s).isSome && (match P.underlying d with | some (.int k') => decide (k = k') | _ => false)
  | _ => false
 | .len st y => match o with
  | .call { callee := .builtin .len, args := xs, argTypes := ts } => okOpds _ fid xs.toList [y] && (match ts.toList with
   | [t] => (match P.underlying t with | some (.slice _) => !st | some .string => st | _ => false)
   | _ => false)
  | _ => false
 | .app k c mx y z => match o with
  | .call { callee := .builtin .append, args := xs, argTypes := ts } => okOpds _ fid xs.toList [y, z] && (match ts.toList with
   | [t, t'] => okElem S P t c mx && (match P.underlying t' with | some (.slice _) => true | _ => false)
   | _ => false)
  | _ => false
 | .apps k c mx y z => match o with
  | .call { callee := .builtin .append, args := xs, argTypes := ts } => okOpds _ fid xs.toList [y, z] && (match ts.toList with
   | [t, t'] => okElem S P t c mx && (match P.underlying t' with | some .string => true | _ => false)
   | _ => false)
  | _ => false
 | .slc sz y lo hi => match o with
  | .slice t x lo' hi' none => okOpd _ fid x y && okOpdO _ fid lo' lo && okOpdO _ fid hi' hi && (match P.underlying t with
   | some (.slice e) => decide (szOf P e = some sz) && decide (sz ≠ 0)
   | some .string => decide (sz = 0)
   | _ => false)
  | _ => false
 | .mk k c z mx n => match o with
  | .makeSlice t l r => okOpd _ fid l n && okOpd _ fid r n && okElem S P t c mx && (match elemOfB P t with | some e => okZero _ P e (S.row c z) | none => false)
  | _ => false
 | .mkf g caps => match o with
  | .makeFunc (.func f) first cs => decide (fid g = f) && first.isEmpty && okOpds _ fid cs.toList caps
  | _ => false
 | .mn ys => match o with
  | .call { callee := .builtin .min, args := xs, argTypes := _ } => okOpds _ fid xs.toList ys
  | _ => false
 | .mx ys => match o with
  | .call { callee := .builtin .max, args := xs, argTypes := _ } => okOpds _ fid xs.toList ys
  | _ => false
 | .s2b y => match o with
  | .convert s d x => okOpd _ fid x y && (match P.underlying s with | some .string => true | _ => false) && (match elemOfB P d with
   | some e => (match P.underlying e with | some (.int .u8) => true | _ => false)
   | none => false)
  | _ => false
 | .b2s y => match o with
  | .convert s d x => okOpd _ fid x y && (match P.underlying d with | some .string => true | _ => false) && (match elemOfB P s with
   | some e => (match P.underlying e with | some (.int .u8) => true | _ => false)
   | none => false)
  | _ => false
 | .mark y => match o with
  | .convert s d x => okOpd _ fid x y && (s == d) && (match elemOfB P s with
   | some e => (match P.underlying e with | some (.int .u8) => true | _ => false)
   | none => false)
  | _ => false
 | .idxC y j sz ln => match o with
  | .indexAddr t x i => okOpd _ fid x y && okOpd _ fid i j && (match P.underlying t with | some (.array n e) => decide (n = ln) && decide (szOf P e = some sz) | _ => false)
  | _ => false
 | .idxR y j sz ln => match o with
  | .indexAddr t x i => okOpd _ fid x y && okOpd _ fid i j && (match P.underlying t with | some (.array n e) => decide (n = ln) && decide (szOf P e = some sz) | _ => false)
  | _ => false
 | .allocR k c n z => match o with
  | .alloc t => okZero _ P t ((List.replicate n z).flatMap (S.row c)) && decide (0 < n)
  | _ => false
 | .loadR q n => match o with
  | .load t p => okOpd _ fid p q && decide (isAggB P t = some true) && decide (szOf P t = some n)
  | _ => false
 | .bslR c y => match o with
  | .buildSlice t n ps => okElem S P t c n && decide (n = 1) && okIdx _ fid 0 ps.toList [y] && decide (n * S.sz c ≤ 2 ^ 24)
  | _ => false
 | .isnil ne y => match o with
  | .binOp op t x (.const .nilIface) _ => decide (op = if ne then .neq else .eql) && okOpd _ fid x y && (match P.underlying t with | some (.interface _) => true | _ => false)
  | _ => false
 | .mke y => match o with
  | .makeInterface t x => okOpd _ fid x y && decide (t = S.errT) && (match P.underlying t with | some (.int _) => true | _ => false)
  | _ => false
 | .eqe ne y z => match o with
  | .binOp op t x x' _ => decide (op = if ne then .neq else .eql) && okOpd _ fid x y && okOpd _ fid x' z && (match P.underlying t with | some (.interface _) => true | _ => false) &&
   (match P.underlying S.errT with | some (.int _) => true | _ => false) && decide ((P.info? S.errT).map (·.comparable) = some true)
  | _ => false
 | .mki => match o with
  | .makeInterface t x => (match P.underlying t with | some (.interface _) => false | some _ => true | none => false)
  | _ => false
 | .ldg b => match o with
  | .load t (.global b') => decide (b = b') && S.gone.contains b && decide (isAggB P t = some false) && decide (szOf P t = some 1)
  | _ => false
 | .mkmap k kc vc => match o with
  | .makeMap t none => true
  | _ => false
 | .mapget n y z zero ok => match o with
  | .lookup t x i ok' => okOpd _ fid x y && okOpd _ fid i z && decide (ok = ok') && (match P.underlying t with
   | some (.map key elem) => okKey P n key && okZero _ P elem [zero] && (match P.info? elem with | some i => (match i.zero with | some z => z.oneCell' | none => false) | none => false)
   | _ => false)
  | _ => false
 | .mapadd n y z v => match o with
  | .mapUpdate t x i u | .insert t x i u => okOpd _ fid x y && okOpd _ fid i z && okOpd _ fid u v && (match P.underlying t with
   | some (.map key _) => okKey P n key
   | _ => false)
  | _ => false
 | .xcmp y z => match o with
  | .call { callee := .value (.func f), args := xs, argTypes := _ } => isExt P f "internal/bytealg.abigen_runtime_cmpstring" && okOpds _ fid xs.toList [y, z]
  | _ => false
 | .xidx y z => match o with
  | .call { callee := .value (.func f), args := xs, argTypes := _ } => isExt P f "internal/bytealg.IndexByteString" && okOpds _ fid xs.toList [y, z]
  | _ => false
 | .call k g ys => match o with
  | .call { callee := .value (.func f), args := xs, argTypes := _ } => decide (fid g = f) && okOpds _ fid xs.toList ys
  | _ => false
 | .callv k g ys => match o with
  | .call { callee := .value f, args := xs, argTypes := _ } => okOpd _ fid f g && okOpds _ fid xs.toList ys
  | _ => false
end Go.Clap
