/- The contracts of values and alignments, of the loaded functions. -/
import Derived.Test.YtnielhfaioakkaaGreatClapV9
set_option linter.unusedVariables false
set_option linter.unusedSimpArgs false
namespace Go.Clap
variable {P : Program} {fid : Nat → FuncId}

/-- The checks of values. -/
structure HChk (P : Program) (fid : Nat → FuncId) : Prop extends HCmp P fid where
  c75 : chkF SS P fid 75 ir75 = true
  c76 : chkF SS P fid 76 ir76 = true
  c127 : chkF SS P fid 127 ir127 = true
  c99 : chkF SS P fid 99 ir99 = true
  c100 : chkF SS P fid 100 ir100 = true
  c128 : chkF SS P fid 128 ir128 = true
  c151 : chkF SS P fid 151 ir151 = true
  c163 : chkF SS P fid 163 ir163 = true
  c152 : chkF SS P fid 152 ir152 = true
  c129 : chkF SS P fid 129 ir129 = true
  c101 : chkF SS P fid 101 ir101 = true
  c77 : chkF SS P fid 77 ir77 = true
  c51 : chkF SS P fid 51 ir51 = true
  c44 : chkF SS P fid 44 ir44 = true
  c26 : chkF SS P fid 26 ir26 = true
  c132 : chkF SS P fid 132 ir132 = true

structure HVal (P : Program) (fid : Nat → FuncId) : Prop extends HChk P fid where
  c30 : chkF SS P fid 30 ir30 = true
  c8 : chkF SS P fid 8 ir8 = true
  c31 : chkF SS P fid 31 ir31 = true
  c33 : chkF SS P fid 33 ir33 = true
  c32 : chkF SS P fid 32 ir32 = true
  c9 : chkF SS P fid 9 ir9 = true

theorem g75 (H : HChk P fid) : ∀ v : V, Gives (Spec SS P fid) 75 [vD v] (iD (sizeV v))
  | .mk k n s fs => fun R hR => spec_of_vc H.mx H.c75 (vc75 (.mk k n s fs) (fun x hx => g75 H x.2) R hR)
termination_by v => SizeOf.sizeOf v
decreasing_by exact size_fs hx
theorem g76 (H : HChk P fid) : ∀ v : V, Gives (Spec SS P fid) 76 [vD v] (iD (deepV v))
  | .mk k n s fs => fun R hR => spec_of_vc H.mx H.c76 (vc76 (.mk k n s fs) (fun x hx => g76 H x.2) R hR)
termination_by v => SizeOf.sizeOf v
decreasing_by exact size_fs hx
theorem g127 (H : HChk P fid) (k : Int) : Gives (Spec SS P fid) 127 [iD k] (bD (scalB k)) := fun R hR => spec_of_vc H.mx H.c127 (vc127 k R hR)
theorem g99 (H : HChk P fid) (v : V) : Gives (Spec SS P fid) 99 [vD v] (bD (unusedB v)) := fun R hR => spec_of_vc H.mx H.c99 (vc99 (g127 H) v R hR)
theorem g100 (H : HChk P fid) (v : V) : Gives (Spec SS P fid) 100 [vD v] (bD (numberB v)) := fun R hR => spec_of_vc H.mx H.c100 (vc100 v R hR)
theorem g132 (H : HChk P fid) (s : ByteArray) : Gives (Spec SS P fid) 132 [sD s] (bD (nameB s)) := fun R hR => spec_of_vc H.mx H.c132 (vc132 s R hR)
theorem g152 (H : HChk P fid) (g f : ByteArray × V) (R : RR) (hR : R (bD (g.1.toList == f.1.toList)) (fE f)) : Spec SS P fid 152 [fD g, .c (.ptr (.x 0) 0 0)] (fE f) R := spec_of_vc H.mx H.c152 (vc152 g f R hR)
theorem g163 (H : HChk P fid) (f : ByteArray × V) (l : List (ByteArray × V)) (R : RR) (hR : R (iD (idxName f.1 l 0)) (fE f)) : Spec SS P fid 163 [lD .fld l, .c (.fn 152 [.x 0])] (fE f) R :=
  spec_of_vc H.mx H.c163 (vc163 f (fun g R hR => g152 H g f R hR) l R hR)
theorem g151 (H : HChk P fid) (f : ByteArray × V) (l : List (ByteArray × V)) (R : RR) (hR : R (bD (hasName f.1 l)) (fE f)) : Spec SS P fid 151 [lD .fld l, .c (.fn 152 [.x 0])] (fE f) R :=
  spec_of_vc H.mx H.c151 (vc151 f l (fun R hR => g163 H f l R hR) R hR)
theorem g128 (H : HChk P fid) (l : List (ByteArray × V)) : Gives (Spec SS P fid) 128 [lD .fld l] (iD (namesAcc [] l)) := fun R hR => spec_of_vc H.mx H.c128 (vc128 (g132 H) (g151 H) l R hR)
theorem g129 (H : HChk P fid) (v : V) : Gives (Spec SS P fid) 129 [vD v] (iD (keysAcc v.kind none v.fs)) := fun R hR => spec_of_vc H.mx H.c129 (vc129 v R hR)
theorem g101 (H : HChk P fid) (v : V) : Gives (Spec SS P fid) 101 [vD v] (iD (fieldsI v)) := fun R hR => spec_of_vc H.mx H.c101 (vc101 (g128 H) (g129 H) v R hR)
theorem g77 (H : HChk P fid) : ∀ (v : V) (root : Bool), Gives (Spec SS P fid) 77 [vD v, bD root] (iD (nodeV v root))
  | .mk k n s fs, root => fun R hR => spec_of_vc H.mx H.c77 (vc77 (g99 H) (g100 H) (g101 H) (.mk k n s fs) root (fun x hx => g77 H x.2 false) R hR)
termination_by v => SizeOf.sizeOf v
decreasing_by exact size_fs hx
theorem g51 (H : HChk P fid) (v : V) : Gives (Spec SS P fid) 51 [vD v] (iD (checkV v)) := fun R hR => spec_of_vc H.mx H.c51 (vc51 v (g75 H v) (g76 H v) (g77 H v true) R hR)
theorem g44 (H : HChk P fid) (n : Int) : Gives (Spec SS P fid) 44 [iD n] (vD (numV n)) := fun R hR => spec_of_vc H.mx H.c44 (vc44 n R hR)
theorem g30 (H : HVal P fid) (a b : Int) : Gives (Spec SS P fid) 30 [iD a, iD b] (vD (recV a b)) := fun R hR => spec_of_vc H.mx H.c30 (vc30 (g44 H.toHChk) a b R hR)
theorem g26 (H : HChk P fid) (x n : Int) (hn : n ≠ 0) : Gives (Spec SS P fid) 26 [iD x, iD n] (iD (bel x n)) := fun R hR => spec_of_vc H.mx H.c26 (vc26 x n hn R hR)
theorem g8 (H : HVal P fid) (l : LIS) : Gives (Spec SS P fid) 8 [lD .int l] (vD (listV l)) := fun R hR => spec_of_vc H.mx H.c8 (vc8 (g26 H.toHChk) (g30 H) l R hR)
theorem g31 (H : HVal P fid) (a b : V) : Gives (Spec SS P fid) 31 [vD a, vD b] (iD (checkL [a, b])) := fun R hR => spec_of_vc H.mx H.c31 (vc31 (g51 H.toHChk) a b R hR)
theorem g33 (H : HVal P fid) (a b : V) : Gives (Spec SS P fid) 33 [vD a, vD b] (iD (costV a b)) := fun R hR => spec_of_vc H.mx H.c33 (vc33 (g11 H.toHCmp) a b R hR)
theorem g32 (H : HVal P fid) (xs ys : FL) (hx : xs.length ≤ 100000) (hy : ys.length ≤ 100000) (hc : CostOk xs ys) : Gives (Spec SS P fid) 32 [lD .fld xs, lD .fld ys] (lD .ints (rwsT xs ys 0)) :=
  fun R hR => spec_of_vc H.mx H.c32 (vc32 (g33 H) xs ys hx hy hc R hR)
theorem g9 (H : HVal P fid) (x y : LIS) : Gives (Spec SS P fid) 9 [vD (listV x), vD (listV y)] (edD x y) := by
  have hx := len_list x
  have hy := len_list y
  have hc := costOk_el (el_list x) (el_list y)
  have h31 : Gives (Spec SS P fid) 31 [vD (listV x), vD (listV y)] (iD 0) := by
    have := g31 H (listV x) (listV y)
    rwa [check_two x y] at this
  exact fun R hR => spec_of_vc H.mx H.c9 (vc9 (listV x) (listV y) h31 (g33 H) (g32 H _ _ (by omega) (by omega) hc) (by omega) (by omega) hc R hR)

/-- The fact on alignments and the law. -/
structure HMetric (P : Program) (fid : Nat → FuncId) : Prop extends HVal P fid where
  c10 : chkF SS P fid 10 ir10 = true
  c3 : chkF SS P fid 3 ir3 = true
theorem g10 (H : HVal P fid) (c10 : chkF SS P fid 10 ir10 = true) : Gives (Spec SS P fid) 10 [] (bD true) := fun R hR => spec_of_vc H.mx c10 (vc10 (g8 H) (g9 H) R hR)
theorem g3 (H : HMetric P fid) (x y : LIS) : Gives (Spec SS P fid) 3 [lD .int x, lD .int y] (bD true) :=
  fun R hR => spec_of_vc H.mx H.c3 (vc3 (g8 H.toHVal) (g9 H.toHVal) (g10 H.toHVal H.c10) (g11 H.toHCmp) x y R hR)

end Go.Clap
