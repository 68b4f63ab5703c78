/- The checks of the small code against the loaded functions. -/
import Derived.Test.YtnjgakngmbbmfaaGreatDoorClapFn
import Derived.Lib.ItoaNum
set_option linter.unusedVariables false
set_option linter.unusedSimpArgs false
namespace Go.Clap
inductive V where
 | mk (kind n : Int) (s : ByteArray) (fs : List (ByteArray × V))
inductive Tp where
 | mk (kind : Int) (name : ByteArray) (low high : Int) (pattern : ByteArray) (parts : List (ByteArray × Tp))
inductive Ln where
 | mk (op : Int) (name to : ByteArray) (names : List ByteArray) (n low high sep : Int) (val : V) (pairs : List (V × V)) (kids : List Ln)
inductive Cd where
 | int | u8 | bool | str | fld | val | typ | part | dfn | two | pair | lens | ints | vpairs | i16 | a16 | set4 | node | pr16
 deriving DecidableEq
abbrev CU : Cd → Type
 | .int => Int
 | .u8 => Int
 | .bool => Bool
 | .str => ByteArray
 | .fld => ByteArray × V
 | .val => V
 | .typ => Tp
 | .part => ByteArray × Tp
 | .dfn => ByteArray × Tp
 | .two => V × V
 | .pair => Int × Int
 | .lens => Ln
 | .ints => List Int
 | .vpairs => List (V × V)
 | .i16 => Int
 | .a16 => List Int
 | .set4 => Int × Int × Int × Int
 | .node => Int × Int × Int × Int
 | .pr16 => Int × Int
abbrev TT : TyS := ⟨Cd, CU⟩
def rowV : V → List (C TT)
 | .mk k n s fs => [.int .i64 k, .int .i64 n, .str s, .isl .fld fs]
def rowT : Tp → List (C TT)
 | .mk k nm lo hi p ps => [.int .i64 k, .str nm, .int .i64 lo, .int .i64 hi, .str p, .isl .part ps]
def rowL : Ln → List (C TT)
 | .mk op nm to ns n lo hi sep v ps ks => [.int .i64 op, .str nm, .str to, .isl .str ns, .int .i64 n, .int .i64 lo, .int .i64 hi, .int .u8 sep] ++ rowV v ++ [.isl .two ps, .isl .lens ks]
def pad256 (l : List Int) : List Int := if l.length = 256 then l else List.replicate 256 0
theorem pad256_len (l : List Int) : (pad256 l).length = 256 := by
 unfold pad256
 split
 · assumption
 · exact List.length_replicate ..
theorem pad256_of {l : List Int} (h : l.length = 256) : pad256 l = l := if_pos h
def row16 (n : Int) : List (C TT) := [.int .i16 n]
def rowC : (c : Cd) → CU c → List (C TT)
 | .int, n => [.int .i64 n]
 | .u8, n => [.int .u8 n]
 | .bool, b => [.bool b]
 | .str, s => [.str s]
 | .fld, (s, v) => .str s :: rowV v
 | .val, v => rowV v
 | .typ, t => rowT t
 | .part, (s, t) => .str s :: rowT t
 | .dfn, (s, t) => .str s :: rowT t
 | .two, (v, w) => rowV v ++ rowV w
 | .pair, (a, b) => [.int .i64 a, .int .i64 b]
 | .lens, l => rowL l
 | .ints, l => [.isl .int l]
 | .vpairs, l => [.isl .two l]
 | .i16, n => row16 n
 | .a16, l => (pad256 l).flatMap row16
 | .set4, (a, b, c, d) => [.int .u64 a, .int .u64 b, .int .u64 c, .int .u64 d]
 | .node, (a, b, f, y) => [.int .i16 a, .int .i16 b, .int .i64 f, .int .u8 y]
 | .pr16, (a, b) => [.int .i16 a, .int .i16 b]
def szC : Cd → Nat
 | .int | .u8 | .bool | .str | .ints | .vpairs => 1
 | .pair => 2
 | .val => 4
 | .fld => 5
 | .typ => 6
 | .part | .dfn => 7
 | .two => 8
 | .lens => 14
 | .i16 => 1
 | .a16 => 256
 | .set4 | .node => 4
 | .pr16 => 2
def slF : C TT → Option (List (ByteArray × V))
 | .isl .fld fs => some fs
 | .nils => some []
 | _ => none
def slP : C TT → Option (List (ByteArray × Tp))
 | .isl .part fs => some fs
 | .nils => some []
 | _ => none
def slS : C TT → Option (List ByteArray)
 | .isl .str fs => some fs
 | .nils => some []
 | _ => none
def slW : C TT → Option (List (V × V))
 | .isl .two fs => some fs
 | .nils => some []
 | _ => none
def slL : C TT → Option (List Ln)
 | .isl .lens fs => some fs
 | .nils => some []
 | _ => none
def slI : C TT → Option (List Int)
 | .isl .int fs => some fs
 | .nils => some []
 | _ => none
theorem slF_le {x : C TT} {l : List (ByteArray × V)} (h : slF x = some l) : C.le x (.isl .fld l) := by
 unfold slF at h
 split at h <;> first | (cases h; exact .inl rfl) | (cases h; exact .inr ⟨rfl, _, rfl⟩) | cases h
theorem slP_le {x : C TT} {l : List (ByteArray × Tp)} (h : slP x = some l) : C.le x (.isl .part l) := by
 unfold slP at h
 split at h <;> first | (cases h; exact .inl rfl) | (cases h; exact .inr ⟨rfl, _, rfl⟩) | cases h
theorem slS_le {x : C TT} {l : List ByteArray} (h : slS x = some l) : C.le x (.isl .str l) := by
 unfold slS at h
 split at h <;> first | (cases h; exact .inl rfl) | (cases h; exact .inr ⟨rfl, _, rfl⟩) | cases h
theorem slW_le {x : C TT} {l : List (V × V)} (h : slW x = some l) : C.le x (.isl .two l) := by
 unfold slW at h
 split at h <;> first | (cases h; exact .inl rfl) | (cases h; exact .inr ⟨rfl, _, rfl⟩) | cases h
theorem slL_le {x : C TT} {l : List Ln} (h : slL x = some l) : C.le x (.isl .lens l) := by
 unfold slL at h
 split at h <;> first | (cases h; exact .inl rfl) | (cases h; exact .inr ⟨rfl, _, rfl⟩) | cases h
theorem slI_le {x : C TT} {l : List Int} (h : slI x = some l) : C.le x (.isl .int l) := by
 unfold slI at h
 split at h <;> first | (cases h; exact .inl rfl) | (cases h; exact .inr ⟨rfl, _, rfl⟩) | cases h
inductive Fits : List (C TT) → List (C TT) → Prop
 | nil : Fits [] []
 | cons {a b : C TT} {as bs : List (C TT)} (h : C.le a b) (t : Fits as bs) : Fits (a :: as) (b :: bs)
theorem Fits.spec {cs row : List (C TT)} (h : Fits cs row) : cs.length = row.length ∧ ∀ (j : Nat) (a b : C TT), cs[j]? = some a → row[j]? = some b → C.le a b := by
 induction h with
 | nil => exact ⟨rfl, fun j a b h => by simp at h⟩
 | cons h1 _ ih =>
  refine ⟨by simp [ih.1], fun j a b ha hb => ?_⟩
  cases j with
  | zero => simp at ha hb; subst ha; subst hb; exact h1
  | succ j => simp at ha hb; exact ih.2 j a b ha hb
theorem Fits.append {a b c d : List (C TT)} (h : Fits a b) (h' : Fits c d) : Fits (a ++ c) (b ++ d) := by
 induction h with
 | nil => exact h'
 | cons h1 _ ih => exact .cons h1 ih
def unV : List (C TT) → Option V
 | [.int .i64 k, .int .i64 n, .str s, f] => (slF f).map (.mk k n s)
 | _ => none
def unT : List (C TT) → Option Tp
 | [.int .i64 k, .str nm, .int .i64 lo, .int .i64 hi, .str p, f] => (slP f).map (.mk k nm lo hi p)
 | _ => none
def unL : List (C TT) → Option Ln
 | [.int .i64 op, .str nm, .str to, ns, .int .i64 n, .int .i64 lo, .int .i64 hi, .int .u8 sep, v1, v2, v3, v4, ps, ks] =>
  match slS ns, unV [v1, v2, v3, v4], slW ps, slL ks with
  | some ns, some v, some ps, some ks => some (.mk op nm to ns n lo hi sep v ps ks)
  | _, _, _, _ => none
 | _ => none
theorem unV_fits {cs : List (C TT)} {v : V} (h : unV cs = some v) : Fits cs (rowV v) := by
 unfold unV at h
 split at h
 · simp only [Option.map_eq_some_iff] at h
   obtain ⟨fs, h1, rfl⟩ := h
   exact .cons (.inl rfl) (.cons (.inl rfl) (.cons (.inl rfl) (.cons (slF_le h1) .nil)))
 · cases h
theorem unT_fits {cs : List (C TT)} {v : Tp} (h : unT cs = some v) : Fits cs (rowT v) := by
 unfold unT at h
 split at h
 · simp only [Option.map_eq_some_iff] at h
   obtain ⟨fs, h1, rfl⟩ := h
   exact .cons (.inl rfl) (.cons (.inl rfl) (.cons (.inl rfl) (.cons (.inl rfl) (.cons (.inl rfl) (.cons (slP_le h1) .nil)))))
 · cases h
theorem unL_fits {cs : List (C TT)} {v : Ln} (h : unL cs = some v) : Fits cs (rowL v) := by
 unfold unL at h
 split at h
 · split at h
   · rename_i h1 h2 h3 h4
     cases h
     exact Fits.append (Fits.append (a := [_, _, _, _, _, _, _, _]) (.cons (.inl rfl) (.cons (.inl rfl) (.cons (.inl rfl) (.cons (slS_le h1) (.cons (.inl rfl) (.cons (.inl rfl) (.cons (.inl rfl) (.cons (.inl rfl) .nil))))))))
      (unV_fits h2)) (.cons (slW_le h3) (.cons (slL_le h4) .nil))
   · cases h
 · cases h
def unInt : List (C TT) → Option Int
 | [.int .i64 n] => some n
 | _ => none
def unU8 : List (C TT) → Option Int
 | [.int .u8 n] => some n
 | _ => none
def unBool : List (C TT) → Option Bool
 | [.bool b] => some b
 | _ => none
def unStr : List (C TT) → Option ByteArray
 | [.str b] => some b
 | _ => none
def unFld : List (C TT) → Option (ByteArray × V)
 | .str s :: cs => (unV cs).map fun v => (s, v)
 | _ => none
def unPart : List (C TT) → Option (ByteArray × Tp)
 | .str s :: cs => (unT cs).map fun v => (s, v)
 | _ => none
def unTwo : List (C TT) → Option (V × V)
 | [a1, a2, a3, a4, b1, b2, b3, b4] => match unV [a1, a2, a3, a4], unV [b1, b2, b3, b4] with
  | some v, some w => some (v, w)
  | _, _ => none
 | _ => none
def unPair : List (C TT) → Option (Int × Int)
 | [.int .i64 a, .int .i64 b] => some (a, b)
 | _ => none
def unInts : List (C TT) → Option (List Int)
 | [f] => slI f
 | _ => none
def unVps : List (C TT) → Option (List (V × V))
 | [f] => slW f
 | _ => none
theorem unInt_fits {cs : List (C TT)} {x : Int} (h : unInt cs = some x) : Fits cs (rowC .int x) := by
 unfold unInt at h
 split at h
 · cases h; exact .cons (.inl rfl) .nil
 · cases h
theorem unU8_fits {cs : List (C TT)} {x : Int} (h : unU8 cs = some x) : Fits cs (rowC .u8 x) := by
 unfold unU8 at h
 split at h
 · cases h; exact .cons (.inl rfl) .nil
 · cases h
theorem unBool_fits {cs : List (C TT)} {x : Bool} (h : unBool cs = some x) : Fits cs (rowC .bool x) := by
 unfold unBool at h
 split at h
 · cases h; exact .cons (.inl rfl) .nil
 · cases h
theorem unStr_fits {cs : List (C TT)} {x : ByteArray} (h : unStr cs = some x) : Fits cs (rowC .str x) := by
 unfold unStr at h
 split at h
 · cases h; exact .cons (.inl rfl) .nil
 · cases h
theorem unFld_fits {cs : List (C TT)} {x : ByteArray × V} (h : unFld cs = some x) : Fits cs (rowC .fld x) := by
 unfold unFld at h
 split at h
 · simp only [Option.map_eq_some_iff] at h
   obtain ⟨v, h1, rfl⟩ := h
   exact .cons (.inl rfl) (unV_fits h1)
 · cases h
theorem unPart_fits {cs : List (C TT)} {x : ByteArray × Tp} (h : unPart cs = some x) : Fits cs (rowC .part x) := by
 unfold unPart at h
 split at h
 · simp only [Option.map_eq_some_iff] at h
   obtain ⟨v, h1, rfl⟩ := h
   exact .cons (.inl rfl) (unT_fits h1)
 · cases h
theorem unTwo_fits {cs : List (C TT)} {x : V × V} (h : unTwo cs = some x) : Fits cs (rowC .two x) := by
 unfold unTwo at h
 split at h
 · split at h
   · rename_i h1 h2
     cases h
     exact Fits.append (unV_fits h1) (unV_fits h2)
   · cases h
 · cases h
theorem unPair_fits {cs : List (C TT)} {x : Int × Int} (h : unPair cs = some x) : Fits cs (rowC .pair x) := by
 unfold unPair at h
 split at h
 · cases h; exact .cons (.inl rfl) (.cons (.inl rfl) .nil)
 · cases h
theorem unInts_fits {cs : List (C TT)} {x : List Int} (h : unInts cs = some x) : Fits cs (rowC .ints x) := by
 unfold unInts at h
 split at h
 · exact .cons (slI_le h) .nil
 · cases h
theorem unVps_fits {cs : List (C TT)} {x : List (V × V)} (h : unVps cs = some x) : Fits cs (rowC .vpairs x) := by
 unfold unVps at h
 split at h
 · exact .cons (slW_le h) .nil
 · cases h
def un16 : List (C TT) → Option Int
 | [.int .i16 n] => some n
 | _ => none
def un16s : List (C TT) → Option (List Int)
 | [] => some []
 | .int .i16 n :: cs => (un16s cs).map (n :: ·)
 | _ => none
def unA16 (cs : List (C TT)) : Option (List Int) :=
 match un16s cs with
 | some l => if l.length = 256 then some l else none
 | none => none
def unSet4 : List (C TT) → Option (Int × Int × Int × Int)
 | [.int .u64 a, .int .u64 b, .int .u64 c, .int .u64 d] => some (a, b, c, d)
 | _ => none
def unNode : List (C TT) → Option (Int × Int × Int × Int)
 | [.int .i16 a, .int .i16 b, .int .i64 c, .int .u8 d] => some (a, b, c, d)
 | _ => none
def unPr16 : List (C TT) → Option (Int × Int)
 | [.int .i16 a, .int .i16 b] => some (a, b)
 | _ => none
theorem Fits.refl : ∀ cs : List (C TT), Fits cs cs
 | [] => .nil
 | c :: cs => .cons (.inl rfl) (Fits.refl cs)
theorem un16s_eq : ∀ {cs : List (C TT)} {l : List Int}, un16s cs = some l → cs = l.flatMap row16
 | [], l, h => by simp [un16s] at h; subst h; rfl
 | c :: cs, l, h => by
  unfold un16s at h
  split at h
  · rename_i e; cases e
  · rename_i e
    cases e
    simp only [Option.map_eq_some_iff] at h
    obtain ⟨l', h1, rfl⟩ := h
    rw [un16s_eq h1]
    rfl
  · cases h
theorem un16s_of : ∀ l : List Int, un16s (l.flatMap row16) = some l
 | [] => rfl
 | n :: l => by
  show un16s (.int .i16 n :: l.flatMap row16) = _
  rw [un16s, un16s_of l]
  rfl
theorem unA16_of {l : List Int} (h : l.length = 256) : unA16 (l.flatMap row16) = some l := by
 unfold unA16
 rw [un16s_of]
 simp [h]
theorem un16_fits {cs : List (C TT)} {x : Int} (h : un16 cs = some x) : Fits cs (rowC .i16 x) := by
 unfold un16 at h
 split at h
 · cases h; exact .cons (.inl rfl) .nil
 · cases h
theorem unA16_fits {cs : List (C TT)} {x : List Int} (h : unA16 cs = some x) : Fits cs (rowC .a16 x) := by
 unfold unA16 at h
 split at h
 · rename_i l hl
   split at h
   · rename_i hlen
     cases h
     show Fits cs ((pad256 x).flatMap row16)
     rw [pad256_of hlen, ← un16s_eq hl]
     exact Fits.refl cs
   · cases h
 · cases h
theorem unSet4_fits {cs : List (C TT)} {x : Int × Int × Int × Int} (h : unSet4 cs = some x) : Fits cs (rowC .set4 x) := by
 unfold unSet4 at h
 split at h
 · cases h; exact Fits.refl _
 · cases h
theorem unNode_fits {cs : List (C TT)} {x : Int × Int × Int × Int} (h : unNode cs = some x) : Fits cs (rowC .node x) := by
 unfold unNode at h
 split at h
 · cases h; exact Fits.refl _
 · cases h
theorem unPr16_fits {cs : List (C TT)} {x : Int × Int} (h : unPr16 cs = some x) : Fits cs (rowC .pr16 x) := by
 unfold unPr16 at h
 split at h
 · cases h; exact Fits.refl _
 · cases h
def unC (c : Cd) : List (C TT) → Option (CU c) :=
 match c with
 | .int => unInt
 | .u8 => unU8
 | .bool => unBool
 | .str => unStr
 | .fld => unFld
 | .val => unV
 | .typ => unT
 | .part => unPart
 | .dfn => unPart
 | .two => unTwo
 | .pair => unPair
 | .lens => unL
 | .ints => unInts
 | .vpairs => unVps
 | .i16 => un16
 | .a16 => unA16
 | .set4 => unSet4
 | .node => unNode
 | .pr16 => unPr16
theorem unC_fits (c : Cd) (cs : List (C TT)) (x : CU c) (h : unC c cs = some x) : Fits cs (rowC c x) := by
 cases c with
 | int => exact unInt_fits h
 | u8 => exact unU8_fits h
 | bool => exact unBool_fits h
 | str => exact unStr_fits h
 | fld => exact unFld_fits h
 | val => exact unV_fits h
 | typ => exact unT_fits h
 | part => exact unPart_fits h
 | dfn => exact unPart_fits h
 | two => exact unTwo_fits h
 | pair => exact unPair_fits h
 | lens => exact unL_fits h
 | ints => exact unInts_fits h
 | vpairs => exact unVps_fits h
 | i16 => exact un16_fits h
 | a16 => exact unA16_fits h
 | set4 => exact unSet4_fits h
 | node => exact unNode_fits h
 | pr16 => exact unPr16_fits h
theorem rowV_len (v : V) : (rowV v).length = 4 := by cases v; rfl
theorem rowT_len (v : Tp) : (rowT v).length = 6 := by cases v; rfl
theorem rowL_len (v : Ln) : (rowL v).length = 14 := by cases v; simp [rowL, rowV_len]
theorem row16s_len : ∀ l : List Int, (l.flatMap row16).length = l.length
 | [] => rfl
 | n :: l => by
  show (_ :: l.flatMap row16).length = _
  rw [List.length_cons, row16s_len l, List.length_cons]
theorem rowC_len (c : Cd) (x : CU c) : (rowC c x).length = szC c := by
 cases c with
 | fld => obtain ⟨s, v⟩ := x; simp [rowC, rowV_len, szC]
 | val => exact rowV_len x
 | typ => exact rowT_len x
 | part => obtain ⟨s, v⟩ := x; simp [rowC, rowT_len, szC]
 | dfn => obtain ⟨s, v⟩ := x; simp [rowC, rowT_len, szC]
 | two => obtain ⟨s, v⟩ := x; simp [rowC, rowV_len, szC]
 | lens => exact rowL_len x
 | pair => obtain ⟨a, b⟩ := x; rfl
 | a16 => show ((pad256 x).flatMap row16).length = 256; rw [row16s_len, pad256_len]
 | _ => rfl
theorem rowV_data (v : V) : ∀ d ∈ rowV v, d.data = true := by
 cases v; simp [rowV, C.data]
theorem rowT_data (v : Tp) : ∀ d ∈ rowT v, d.data = true := by
 cases v; simp [rowT, C.data]
theorem rowL_data (v : Ln) : ∀ d ∈ rowL v, d.data = true := by
 cases v
 intro d hd
 simp only [rowL, List.mem_append] at hd
 rcases hd with (h | h) | h
 · revert d; simp [C.data]
 · exact rowV_data _ d h
 · revert d; simp [C.data]
theorem rowC_data (c : Cd) (x : CU c) : ∀ d, d ∈ rowC c x → d.data = true := by
 cases c with
 | fld => obtain ⟨s, v⟩ := x; intro d hd; exact (List.mem_cons.1 hd).elim (fun e => e ▸ rfl) (fun h => rowV_data _ d h)
 | val => exact rowV_data x
 | typ => exact rowT_data x
 | part => obtain ⟨s, v⟩ := x; intro d hd; exact (List.mem_cons.1 hd).elim (fun e => e ▸ rfl) (fun h => rowT_data _ d h)
 | dfn => obtain ⟨s, v⟩ := x; intro d hd; exact (List.mem_cons.1 hd).elim (fun e => e ▸ rfl) (fun h => rowT_data _ d h)
 | two => obtain ⟨s, v⟩ := x; intro d hd; exact (List.mem_append.1 hd).elim (fun h => rowV_data _ d h) (fun h => rowV_data _ d h)
 | lens => exact rowL_data x
 | pair => obtain ⟨a, b⟩ := x; intro d hd; revert d; simp [rowC, C.data]
 | i16 => intro d hd; simp [rowC, row16] at hd; subst hd; rfl
 | a16 =>
  intro d hd
  simp only [rowC, List.mem_flatMap] at hd
  obtain ⟨n, _, hn⟩ := hd
  simp [row16] at hn
  subst hn
  rfl
 | set4 => obtain ⟨a, b, c, e⟩ := x; intro d hd; revert d; simp [rowC, C.data]
 | node => obtain ⟨a, b, c, e⟩ := x; intro d hd; revert d; simp [rowC, C.data]
 | pr16 => obtain ⟨a, b⟩ := x; intro d hd; revert d; simp [rowC, C.data]
 | _ => intro d hd; revert d; simp [rowC, C.data]
abbrev SS : Sig where
 toTyS := TT
 sz := szC
 row := rowC
 row_len := rowC_len
 sz_pos := by intro c; cases c <;> decide
 row_data := rowC_data
 byte := .u8
 byteV b := (b.toNat : Int)
 byte_row _ := rfl
 unrow := unC
 unrow_spec := fun c cs x h => by
  have h1 := unC_fits c cs x h
  exact ⟨h1.spec.1.trans (rowC_len c x), h1.spec.2⟩
 errT := 147
 glob := [1, 2, 3]
 gok b arr := (b = 1 → arr = (Lib.pow10Tab.map fun z => Value.int .u64 z).toArray) ∧ (b = 2 ∨ b = 3 → ∃ tp p, arr = #[.iface tp p])
 gone := [2, 3]
 gok1 := by
  intro b hb
  have hb : b = 2 ∨ b = 3 := by simpa using hb
  refine ⟨by rcases hb with rfl | rfl <;> decide, fun arr h => ?_⟩
  obtain ⟨tp, p, rfl⟩ := h.2 hb
  exact ⟨.iface tp p, rfl, rfl⟩
end Go.Clap
