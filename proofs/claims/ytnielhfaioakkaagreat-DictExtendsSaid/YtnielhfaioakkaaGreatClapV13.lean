/- The law AlignLeast, of the loaded functions. -/
import Derived.Test.YtnielhfaioakkaaGreatClapP1
import Derived.Test.YtnielhfaioakkaaGreatClapV10
set_option linter.unusedVariables false
set_option linter.unusedSimpArgs false
namespace Go.Clap
variable {P : Program} {fid : Nat → FuncId}

structure HLeast (P : Program) (fid : Nat → FuncId) : Prop extends HVal P fid where
  c10 : chkF SS P fid 10 ir10 = true
  c12 : chkF SS P fid 12 ir12 = true
  c13 : chkF SS P fid 13 ir13 = true
  c14 : chkF SS P fid 14 ir14 = true
  c15 : chkF SS P fid 15 ir15 = true
  c4 : chkF SS P fid 4 ir4 = true

theorem g12 (H : HVal P fid) (c12 : chkF SS P fid 12 ir12 = true) (l : PL) (n m : Int) : Gives (Spec SS P fid) 12 [lD .pair l, iD n, iD m] (iD (checkP l n m)) := fun R hR => spec_of_vc H.mx c12 (vc12 l n m R hR)
theorem g13 (H : HVal P fid) (c13 : chkF SS P fid 13 ir13 = true) (l : PL) : Gives (Spec SS P fid) 13 [lD .pair l] (iD (crossOut 0 [] l)) := fun R hR => spec_of_vc H.mx c13 (vc13 l R hR)
theorem g14 (H : HVal P fid) (c14 : chkF SS P fid 14 ir14 = true) (a b : V) (l : PL) (h : InR a.fs b.fs l) : Gives (Spec SS P fid) 14 [vD a, vD b, lD .pair l] (iD (costP a.fs b.fs l)) :=
  fun R hR => spec_of_vc H.mx c14 (vc14 (g33 H) a b l h R hR)
theorem g15 (H : HChk P fid) (c15 : chkF SS P fid 15 ir15 = true) (l : LIS) (n : Int) (R : RR) (hR : R (iD (nextD l n).1) [(.x 0, some (.var [.isl .int (nextD l n).2]))]) :
    Spec SS P fid 15 [.c (.ptr (.x 0) 0 0), iD n] [(.x 0, some (.var [.isl .int l]))] R := spec_of_vc H.mx c15 (vc15 (g26 H) l n R hR)

theorem g4 (H : HLeast P fid) (x y picks : LIS) : Gives (Spec SS P fid) 4 [lD .int x, lD .int y, lD .int picks] (bD true) := by
  have hx := len_list x
  have hy := len_list y
  have hc := costOk_el (el_list x) (el_list y)
  intro R hR
  refine spec_of_vc H.mx H.c4 (vc4_of x y picks (listV x).fs (listV y).fs (pathL (listV x).fs (listV y).fs 0 0) (distL (listV x).fs (listV y).fs) (g8 H.toHVal x) (g8 H.toHVal y) (g9 H.toHVal x y) (g10 H.toHVal H.c10)
    ?_ ?_ (fun l hl => g14 H.toHVal H.c14 (listV x) (listV y) l hl) (inR_path _ _) (costP_path hc hx hy) (fun l n R hR => g15 H.toHChk H.c15 l n R hR) (picks_ok hc hx hy) hx hy R hR)
  · have := g12 H.toHVal H.c12 (pathL (listV x).fs (listV y).fs 0 0) (listV x).fs.length (listV y).fs.length
    rwa [checkP_path hx hy] at this
  · have := g13 H.toHVal H.c13 (pathL (listV x).fs (listV y).fs 0 0)
    rwa [crossOut_none _ [] (by rw [List.nil_append]; exact path_rise _ _ 0 0)] at this

end Go.Clap
