/- The checks of the small code against the loaded functions. -/
import Derived.Test.YtnjgakngmbbmfaaGreatDoorClapJ3
set_option linter.unusedVariables false
set_option linter.unusedSimpArgs false
set_option maxHeartbeats 4000000
set_option maxRecDepth 100000
namespace Go.Clap
open Go.IntKind (wrap)
def f44_num : Int → Option (V)
 | v1 => some (V.mk 2 v1 (⟨#[]⟩ : BA) [])
def C44_num (O : Oracle TT) (m : Int → Option (V)) : Prop :=
 ∀ (v1 : Int) (Q : V → Prop) (R : RR) (_ : ∀ (k2 : Int) (n3 : Int) (s4 : BA) (f5 : FV), Q (V.mk k2 n3 s4 f5) → R (.agg [ci k2, ci n3, .str s4, .isl .fld f5]) []) (_ : sat (m v1) Q), O 44 [iD v1] [] R
def j44_num : Fn TT := ⟨5, [.cell 2 4 true], (.seq (.reg [qo 2 (.alloc 2 zV)]) (.seq (.reg [qo 3 (.mv 0),qo 4 (.build zV [((0, 1), (iC 2)), ((1, 1), 3)]),qp (.store 2 4 4)]) .ret))⟩
theorem w44_num {O : Oracle TT} : C44_num (fun _ => vcF (S := SS) O j44_num) f44_num := by
 intro v1 Q R hQ h
 unfold f44_num at h
 refine ⟨nle rfl, rfl, ?_⟩
 exact kR [] (ND 0) (hQ _ _ _ _ (sat_some h))
theorem c44_num {P : Program} {fid : Nat → FuncId} (mx : MX P) (k44_num : KF P fid 44 j44_num) : C44_num (SP P fid) f44_num :=
 fun a0 Q R hQ h => spec_of_vc mx k44_num (w44_num a0 Q R hQ h)
def f325_drop : Option (Ln) := (f44_num (7 : Int)).bind fun (.mk k1 n2 s3 f4) => some (Ln.mk 4 (⟨#[98]⟩ : BA) (⟨#[]⟩ : BA) [] 0 0 0 0 (V.mk k1 n2 s3 f4) [] [])
def C325_drop (O : Oracle TT) (m : Option (Ln)) : Prop :=
 ∀ (Q : Ln → Prop) (R : RR) (_ : ∀ (op5 : Int) (nm6 : BA) (to7 : BA) (ns8 : LB) (n9 : Int) (lo10 : Int) (hi11 : Int) (sep12 : Int) (k13 : Int) (n14 : Int) (s15 : BA) (f16 : FV) (prs17 : LW) (ks18 : List Ln), Q (Ln.mk op5 nm6 to7 ns8 n9 lo10 hi11 sep12 (V.mk k13 n14 s15 f16) prs17 ks18) → R (.agg [ci op5, .str nm6, .str to7, .isl .str ns8, ci n9, ci lo10, ci hi11, .int .u8 sep12, ci k13, ci n14, .str s15, .isl .fld f16, .isl .two prs17, .isl .lens ks18]) []) (_ : sat (m) Q), O 325 [] [] R
def j325_drop : Fn TT := ⟨3, [.cell 0 14 true], (.seq (.reg [qo 0 (.alloc 0 zLn)]) (.seq (.reg [qo 1 (.call 1 44 [(iC 7)]),qo 2 (.build zLn [((0, 1), (iC 4)), ((1, 1), (.c (.str (⟨#[98]⟩ : BA)))), ((8, 4), 1)]),qp (.store 0 2 14)]) .ret))⟩
theorem w325_drop {O : Oracle TT} (h44_num : C44_num O f44_num) : C325_drop (fun _ => vcF (S := SS) O j325_drop) f325_drop := by
 intro Q R hQ h
 unfold f325_drop at h
 refine ⟨nle rfl, rfl, ?_⟩
 refine kL [] (h44_num _ _ _ ?_ (sat_bind h))
 rintro k1 n2 s3 f4 h
 exact kR [] (ND 0) (hQ _ _ _ _ _ _ _ _ _ _ _ _ _ _ (sat_some h))
theorem c325_drop {P : Program} {fid : Nat → FuncId} (mx : MX P) (k325_drop : KF P fid 325 j325_drop) (h44_num : C44_num (SP P fid) f44_num) : C325_drop (SP P fid) f325_drop :=
 fun Q R hQ h => spec_of_vc mx k325_drop (w325_drop h44_num Q R hQ h)
def f1001_Equal_L2 (l2 : LB) : LB → Nat → Option (Sum (Bool) (Unit))
 | [], j37 => some (.inr ())
 | w42 :: tl39, j37 => getL l2 ((j37 : Nat) : Int) fun w44 => cond (!(w42.toList == w44.toList)) (lft (some false)) (f1001_Equal_L2 l2 tl39 (j37 + 1))
def f1001_Equal : LB → LB → Option (Bool)
 | l1, l2 => cond (((l1.length : Nat) : Int) != ((l2.length : Nat) : Int)) (some false) (sbind (ο := Unit) (f1001_Equal_L2 l2 l1 0) (fun () => some true))
def C1001_Equal (O : Oracle TT) (m : LB → LB → Option (Bool)) : Prop :=
 ∀ (l1 : LB) (l2 : LB) (Q : Bool → Prop) (R : RR) (_ : ∀ (q47 : Bool), Q q47 → R (bD q47) []) (_ : sat (m l1 l2) Q), O 1001 [.c (.isl .str l1), .c (.isl .str l2)] [] R
def j1001_Equal : Fn TT := ⟨26, [.t 4], (.seq (.reg [qo 4 (.mv bF)]) (.seq (.seq (.reg [qo 6 (.mv 0),qo 7 (.len false 6),qo 8 (.mv 1),qo 9 (.len false 8),qo 10 (.bin .neq .num 7 9)]) (.cond 10 (.seq (.reg [qo 4 (.mv bF)]) .ret) .skip)) (.cut [] [] (.seq (.reg [qo 11 (.mv 0),qo 12 (.len false 11),qo 13 (.mv (iC 0))]) (.block 0 (.loop (.keep [0, 1, 12, 13] [] (.aft (.seq
 (.reg [qo 14 (.bin .lss .num 13 12)]) (.seq (.cond 14 .skip (.exit 0)) (.seq (.block 1 (.seq (.reg [qo 15 (.mv 13),qo 5 (.mv 15)]) (.seq (.drw [] (oR 9) [] (List.range 9) [qo 16 (.mv 0),qo 17 (.mv 5),qo 18 (.idxA 16 17 1),qo 19 (.load 18 1 false),qo 20 (.mv 1),qo 21 (.mv 5),qo 22 (.idxA 20 21 1),qo 23 (.load 22 1 false),qo 24 (.bin .neq .str 19 23)]) (.cond 24 (.seq (.reg [qo 4 (.mv bF)])
 .ret) .skip)))) (.reg [qo 25 (.bin .add .num 13 (iC 1)),qo 13 (.mv 25)])))) [.keep [0, 1, 12, 13] []]))))) (.seq (.reg [qo 4 (.mv bT)]) .ret))))⟩
theorem w1001_Equal {O : Oracle TT} : C1001_Equal (fun _ => vcF (S := SS) O j1001_Equal) f1001_Equal := by
 intro l1 l2 Q R hQ h
 unfold f1001_Equal at h
 refine ⟨nle rfl, rfl, ?_⟩
 intro hl3
 intro hl4
 refine kc h (fun h => ?_) fun h => ?_
 obtain ⟨R26, h, hlR26, hrR26⟩ := sat_sbind h
 refine kX (fun σ => R26 (.inr ()) ∧ σ = ⟨[], []⟩) ?_ ?_
 intro hl27
 refine kX (fun σ n => ∃ (rem38 : LB) (j37 : Nat) (z : Int), n = rem38.length ∧ l1.drop j37 = rem38 ∧ z = ((j37 : Nat) : Int) ∧ sat (f1001_Equal_L2 l2 rem38 j37) R26 ∧ σ.keep [0, 1, 12, 13] [] = ⟨[(0, .c (.isl .str l1)), (1, .c (.isl .str l2)), (12, iD ((l1.length : Nat) : Int)), (13, iD z)], []⟩) ⟨_, l1, 0, _, rfl, rfl, rfl, h, rfl⟩ ?_
 rintro σ n ⟨rem38, j37, _, rfl, hrem38, rfl, h, hσ⟩
 refine kk hσ ?_
 intro t41 (ht41 : t41 = decide (((j37 : Nat) : Int) < ((l1.length : Nat) : Int)))
 cases t41
 obtain rfl := ll_nil hrem38 ht41
 rw [f1001_Equal_L2] at h
 conv => whnf
 exact ⟨sat_some h, rfl⟩
 obtain ⟨w42, tl39, rfl, hx40, htl39⟩ := ll_cons hrem38 ht41
 rw [f1001_Equal_L2] at h
 conv => whnf
 refine ⟨lx_bd hx40, fun uu43 huu43 => ?_⟩
 obtain rfl := lx_eq hx40 huu43
 refine kg (sat_getL h) fun w44 huu45 h => ?_
 refine kc h (fun h => ?_) fun h => ?_
 conv => whnf
 exact ⟨tl39.length, nls, tl39, j37 + 1, _, rfl, htl39, lx_wr hx40 hl27, h, rfl⟩
 replace h := sat_lft hlR26 h
 exact kR [] (ND 0) (hQ _ (sat_some h))
 rintro _ ⟨h, rfl⟩
 replace h := hrR26 _ h
 exact kR [] (ND 0) (hQ _ (sat_some h))
 exact kR [] (ND 0) (hQ _ (sat_some h))
theorem c1001_Equal {P : Program} {fid : Nat → FuncId} (mx : MX P) (k1001_Equal : KF P fid 1001 j1001_Equal) : C1001_Equal (SP P fid) f1001_Equal :=
 fun a0 a1 Q R hQ h => spec_of_vc mx k1001_Equal (w1001_Equal a0 a1 Q R hQ h)
def f1002_samePair (fuel : Nat) : (V × V) → (V × V) → Option (Bool)
 | (.mk k1 n2 s3 f4, .mk k5 n6 s7 f8), (.mk k9 n10 s11 f12, .mk k13 n14 s15 f16) => (f11_Same fuel (V.mk k1 n2 s3 f4) (V.mk k9 n10 s11 f12)).bind fun q17 => cond q17 ((f11_Same fuel (V.mk k5 n6 s7 f8) (V.mk k13 n14 s15 f16)).bind fun q18 => some q18) (some false)
def C1002_samePair (O : Oracle TT) (m : (V × V) → (V × V) → Option (Bool)) : Prop :=
 ∀ (k1 : Int) (n2 : Int) (s3 : BA) (f4 : FV) (k5 : Int) (n6 : Int) (s7 : BA) (f8 : FV) (k9 : Int) (n10 : Int) (s11 : BA) (f12 : FV) (k13 : Int) (n14 : Int) (s15 : BA) (f16 : FV) (Q : Bool → Prop) (R : RR) (_ : ∀ (q19 : Bool), Q q19 → R (bD q19) []) (_ : sat (m ((V.mk k1 n2 s3 f4), (V.mk k5 n6 s7 f8)) ((V.mk k9 n10 s11 f12), (V.mk k13 n14 s15 f16))) Q), O 1002 [.agg [ci k1, ci n2, .str s3, .isl .fld f4, ci k5, ci n6, .str s7, .isl .fld f8], .agg [ci k9, ci n10, .str s11, .isl .fld f12, ci k13, ci n14, .str s15, .isl .fld f16]] [] R
def j1002_samePair : Fn TT := ⟨17, [.t 4], (.seq (.reg [qo 2 (.box 2 0),qo 3 (.box 3 1),qo 4 (.mv bF)]) (.seq (.reg [qo 5 (.idxArr 2 (iC 0) 4 2),qo 6 (.load 5 4 true),qo 7 (.idxArr 3 (iC 0) 4 2),qo 8 (.load 7 4 true),qo 9 (.call 9 11 [6, 8]),qo 10 (.mv 9),qg 10 11 (.idxArr 2 (iC 1) 4 2),qg 10 12 (.load 11 4 true),qg 10 13 (.idxArr 3 (iC 1) 4 2),qg 10 14 (.load 13 4 true),
 qg 10 15 (.call 15 11 [12, 14]),qo 16 (.pick 10 15 bF),qo 4 (.mv 16)]) .ret))⟩
theorem w1002_samePair {O : Oracle TT} (fuel : Nat) (h11_Same : C11_Same O (f11_Same fuel)) : C1002_samePair (fun _ => vcF (S := SS) O j1002_samePair) (f1002_samePair fuel) := by
 intro k1 n2 s3 f4 k5 n6 s7 f8 k9 n10 s11 f12 k13 n14 s15 f16 Q R hQ h
 unfold f1002_samePair at h
 refine ⟨nle rfl, rfl, ?_⟩
 conv => whnf
 refine ⟨⟨by decide, by decide⟩, ?_⟩
 conv => whnf
 refine ⟨⟨by decide, by decide⟩, ?_⟩
 refine kL [] (h11_Same _ _ _ _ _ _ _ _ _ _ ?_ (sat_bind h))
 rintro q17 h
 cases q17
 replace h := sat_cf h
 exact kR [] (ND 0) (hQ _ (sat_some h))
 replace h := sat_ct h
 conv => whnf
 refine ⟨⟨by decide, by decide⟩, ?_⟩
 conv => whnf
 refine ⟨⟨by decide, by decide⟩, ?_⟩
 refine kL [] (h11_Same _ _ _ _ _ _ _ _ _ _ ?_ (sat_bind h))
 rintro q18 h
 exact kR [] (ND 0) (hQ _ (sat_some h))
theorem c1002_samePair {P : Program} {fid : Nat → FuncId} (mx : MX P) (k1002_samePair : KF P fid 1002 j1002_samePair) (h11_Same : ∀ n, C11_Same (SP P fid) (f11_Same n)) : ∀ n, C1002_samePair (SP P fid) (f1002_samePair n) :=
 fun n => fun a0 a1 a2 a3 a4 a5 a6 a7 a8 a9 a10 a11 a12 a13 a14 a15 Q R hQ h => spec_of_vc mx k1002_samePair (w1002_samePair n (h11_Same n) a0 a1 a2 a3 a4 a5 a6 a7 a8 a9 a10 a11 a12 a13 a14 a15 Q R hQ h)
def f1003_EqualFunc_L2 (fuel : Nat) (l2 : LW) : LW → Nat → Option (Sum (Bool) (Unit))
 | [], j79 => some (.inr ())
 | ((.mk k84 n85 s86 f87, .mk k88 n89 s90 f91)) :: tl81, j79 => getL l2 ((j79 : Nat) : Int) fun uu101 => match uu101 with | (.mk k93 n94 s95 f96, .mk k97 n98 s99 f100) => (f1002_samePair fuel ((V.mk k84 n85 s86 f87), (V.mk k88 n89 s90 f91)) ((V.mk k93 n94 s95 f96), (V.mk k97 n98 s99 f100))).bind fun q102 => cond q102 (f1003_EqualFunc_L2 fuel l2 tl81 (j79 + 1)) (lft (some false))
def f1003_EqualFunc (fuel : Nat) : LW → LW → Option (Bool)
 | l1, l2 => cond (((l1.length : Nat) : Int) != ((l2.length : Nat) : Int)) (some false) (sbind (ο := Unit) (f1003_EqualFunc_L2 fuel l2 l1 0) (fun () => some true))
def C1003_EqualFunc (O : Oracle TT) (m : LW → LW → Option (Bool)) : Prop :=
 ∀ (l1 : LW) (l2 : LW) (Q : Bool → Prop) (R : RR) (_ : ∀ (q103 : Bool), Q q103 → R (bD q103) []) (_ : sat (m l1 l2) Q), O 1003 [.c (.isl .two l1), .c (.isl .two l2), .c (.fn 1002 [])] [] R
def j1003_EqualFunc : Fn TT := ⟨32, [.t 6], (.seq (.reg [qo 6 (.mv bF)]) (.seq (.seq (.reg [qo 10 (.mv 0),qo 11 (.len false 10),qo 12 (.mv 1),qo 13 (.len false 12),qo 14 (.bin .neq .num 11 13)]) (.cond 14 (.seq (.reg [qo 6 (.mv bF)]) .ret) .skip)) (.cut [] [] (.seq (.reg [qo 15 (.mv 0),qo 16 (.len false 15),qo 17 (.mv (iC 0))]) (.block 0 (.loop (.keep [1, 2, 15, 16, 17] [] (.aft (.seq
 (.reg [qo 18 (.bin .lss .num 17 16)]) (.seq (.cond 18 .skip (.exit 0)) (.seq (.block 1 (.seq (.reg [qo 19 (.mv 17),qo 20 (.idxA 15 17 8),qo 21 (.load 20 8 true),qo 8 (.alloc 8 zTw),qo 7 (.mv 19),qp (.store 8 21 8)]) (.seq (.reg [qo 22 (.mv 1),qo 23 (.mv 7),qo 24 (.idxA 22 23 8),qo 25 (.load 24 8 true),qo 9 (.alloc 9 zTw),qp (.store 9 25 8)]) (.seq (.reg [qo 26 (.mv 2),
 qo 27 (.load 8 8 true),qo 28 (.load 9 8 true),qo 29 (.callv 29 26 [27, 28]),qo 30 (.un .not 29)]) (.cond 30 (.seq (.reg [qo 6 (.mv bF)]) .ret) .skip))))) (.reg [qo 31 (.bin .add .num 17 (iC 1)),qo 17 (.mv 31)])))) [.keep [1, 2, 15, 16, 17] []]))))) (.seq (.reg [qo 6 (.mv bT)]) .ret))))⟩
theorem w1003_EqualFunc {O : Oracle TT} (fuel : Nat) (h1002_samePair : C1002_samePair O (f1002_samePair fuel)) : C1003_EqualFunc (fun _ => vcF (S := SS) O j1003_EqualFunc) (f1003_EqualFunc fuel) := by
 intro l1 l2 Q R hQ h
 unfold f1003_EqualFunc at h
 refine ⟨nle rfl, rfl, ?_⟩
 intro hl3
 intro hl4
 refine kc h (fun h => ?_) fun h => ?_
 obtain ⟨R54, h, hlR54, hrR54⟩ := sat_sbind h
 refine kX (fun σ => R54 (.inr ()) ∧ σ = ⟨[], []⟩) ?_ ?_
 intro hl55
 refine kX (fun σ n => ∃ (rem80 : LW) (j79 : Nat) (z : Int), n = rem80.length ∧ l1.drop j79 = rem80 ∧ z = ((j79 : Nat) : Int) ∧ sat (f1003_EqualFunc_L2 fuel l2 rem80 j79) R54 ∧ σ.keep [1, 2, 15, 16, 17] [] = ⟨[(1, .c (.isl .two l2)), (2, .c (.fn 1002 [])), (15, .c (.isl .two l1)), (16, iD ((l1.length : Nat) : Int)), (17, iD z)], []⟩) ⟨_, l1, 0, _, rfl, rfl, rfl, h, rfl⟩ ?_
 rintro σ n ⟨rem80, j79, _, rfl, hrem80, rfl, h, hσ⟩
 refine kk hσ ?_
 intro t83 (ht83 : t83 = decide (((j79 : Nat) : Int) < ((l1.length : Nat) : Int)))
 cases t83
 obtain rfl := ll_nil hrem80 ht83
 rw [f1003_EqualFunc_L2] at h
 conv => whnf
 exact ⟨sat_some h, rfl⟩
 obtain ⟨x82, tl81, rfl, hx82, htl81⟩ := ll_cons hrem80 ht83
 obtain ⟨⟨k84, n85, s86, f87⟩, ⟨k88, n89, s90, f91⟩⟩ := x82
 rw [f1003_EqualFunc_L2] at h
 conv => whnf
 refine ⟨lx_bd hx82, fun uu92 huu92 => ?_⟩
 obtain rfl := lx_eq hx82 huu92
 refine kg (sat_getL h) fun uu101 huu101 h => ?_
 obtain ⟨⟨k93, n94, s95, f96⟩, ⟨k97, n98, s99, f100⟩⟩ := uu101
 refine kL [] (h1002_samePair _ _ _ _ _ _ _ _ _ _ _ _ _ _ _ _ _ _ ?_ (sat_bind h))
 rintro q102 h
 cases q102
 replace h := sat_cf h
 replace h := sat_lft hlR54 h
 exact kR [] (ND 0) (hQ _ (sat_some h))
 replace h := sat_ct h
 conv => whnf
 exact ⟨tl81.length, nls, tl81, j79 + 1, _, rfl, htl81, lx_wr hx82 hl55, h, rfl⟩
 rintro _ ⟨h, rfl⟩
 replace h := hrR54 _ h
 exact kR [] (ND 0) (hQ _ (sat_some h))
 exact kR [] (ND 0) (hQ _ (sat_some h))
theorem c1003_EqualFunc {P : Program} {fid : Nat → FuncId} (mx : MX P) (k1003_EqualFunc : KF P fid 1003 j1003_EqualFunc) (h1002_samePair : ∀ n, C1002_samePair (SP P fid) (f1002_samePair n)) : ∀ n, C1003_EqualFunc (SP P fid) (f1003_EqualFunc n) :=
 fun n => fun a0 a1 Q R hQ h => spec_of_vc mx k1003_EqualFunc (w1003_EqualFunc n (h1002_samePair n) a0 a1 Q R hQ h)
def b1000_Equal (fuel : Nat) (self1004_EqualFunc : (List Ln) → (List Ln) → Option (Bool)) : Ln → Ln → Option (Bool)
 | .mk op1 nm2 to3 ns4 n5 lo6 hi7 sep8 (.mk k9 n10 s11 f12) prs13 ks14, .mk op15 nm16 to17 ns18 n19 lo20 hi21 sep22 (.mk k23 n24 s25 f26) prs27 ks28 => sbind (ο := Bool) (cond (op1 != op15) (some (.inr true)) (cond (!(nm2.toList == nm16.toList)) (some (.inr true)) (some (.inr false)))) (fun q31 => sbind (ο := Bool) (cond q31 (some (.inr true)) (cond (!(to3.toList == to17.toList)) (some (.inr true)) (some (.inr false)))) (fun q36 => sbind (ο := Bool) (cond q36 (some (.inr true)) (cond (n5 != n19) (some (.inr true)) (some (.inr false)))) (fun q40 => sbind (ο := Bool) (cond q40 (some (.inr true)) (cond (lo6 != lo20) (some (.inr true)) (some (.inr false)))) (fun q44 => sbind (ο := Bool) (cond q44 (some (.inr true)) (cond (hi7 != hi21) (some (.inr true)) (some (.inr false)))) (fun q48 => cond q48 (some false) (cond (sep8 != sep22) (some false) ((f1001_Equal ns4 ns18).bind fun q52 => cond q52 ((f11_Same fuel (V.mk k9 n10 s11 f12) (V.mk k23 n24 s25 f26)).bind fun q53 => cond q53 ((f1003_EqualFunc fuel prs13 prs27).bind fun q54 => cond q54 ((self1004_EqualFunc ks14 ks28).bind fun q55 => some q55) (some false)) (some false)) (some false))))))))
def f1004_EqualFunc_L2 (self1000_Equal : Ln → Ln → Option (Bool)) (l2 : List Ln) : List Ln → Nat → Option (Sum (Bool) (Unit))
 | [], j115 => some (.inr ())
 | (.mk op120 nm121 to122 ns123 n124 lo125 hi126 sep127 (.mk k128 n129 s130 f131) prs132 ks133) :: tl117, j115 => getL l2 ((j115 : Nat) : Int) fun uu149 => match uu149 with | .mk op135 nm136 to137 ns138 n139 lo140 hi141 sep142 (.mk k143 n144 s145 f146) prs147 ks148 => (self1000_Equal (Ln.mk op120 nm121 to122 ns123 n124 lo125 hi126 sep127 (V.mk k128 n129 s130 f131) prs132 ks133) (Ln.mk op135 nm136 to137 ns138 n139 lo140 hi141 sep142 (V.mk k143 n144 s145 f146) prs147 ks148)).bind fun q150 => cond q150 (f1004_EqualFunc_L2 self1000_Equal l2 tl117 (j115 + 1)) (lft (some false))
def b1004_EqualFunc (self1000_Equal : Ln → Ln → Option (Bool)) : (List Ln) → (List Ln) → Option (Bool)
 | l1, l2 => cond (((l1.length : Nat) : Int) != ((l2.length : Nat) : Int)) (some false) (sbind (ο := Unit) (f1004_EqualFunc_L2 self1000_Equal l2 l1 0) (fun () => some true))
def S1000_Equal : Nat → (Ln → Ln → Option (Bool)) × ((List Ln) → (List Ln) → Option (Bool))
 | 0 => (fun _ _ => none, fun _ _ => none)
 | n + 1 => (b1000_Equal n (S1000_Equal n).2, b1004_EqualFunc (S1000_Equal n).1)
def f1000_Equal (n : Nat) : Ln → Ln → Option (Bool) := (S1000_Equal n).1
def f1004_EqualFunc (n : Nat) : (List Ln) → (List Ln) → Option (Bool) := (S1000_Equal n).2
def C1000_Equal (O : Oracle TT) (m : Ln → Ln → Option (Bool)) : Prop :=
 ∀ (op1 : Int) (nm2 : BA) (to3 : BA) (ns4 : LB) (n5 : Int) (lo6 : Int) (hi7 : Int) (sep8 : Int) (k9 : Int) (n10 : Int) (s11 : BA) (f12 : FV) (prs13 : LW) (ks14 : List Ln) (op15 : Int) (nm16 : BA) (to17 : BA) (ns18 : LB) (n19 : Int) (lo20 : Int) (hi21 : Int) (sep22 : Int) (k23 : Int) (n24 : Int) (s25 : BA) (f26 : FV) (prs27 : LW) (ks28 : List Ln) (Q : Bool → Prop) (R : RR) (_ : ∀ (q56 : Bool), Q q56 → R (bD q56) []) (_ : sat (m (Ln.mk op1 nm2 to3 ns4 n5 lo6 hi7 sep8 (V.mk k9 n10 s11 f12) prs13 ks14) (Ln.mk op15 nm16 to17 ns18 n19 lo20 hi21 sep22 (V.mk k23 n24 s25 f26) prs27 ks28)) Q), O 1000 [.agg [ci op1, .str nm2, .str to3, .isl .str ns4, ci n5, ci lo6, ci hi7, .int .u8 sep8, ci k9, ci n10, .str s11, .isl .fld f12, .isl .two prs13, .isl .lens ks14], .agg [ci op15, .str nm16, .str to17, .isl .str ns18, ci n19, ci lo20, ci hi21, .int .u8 sep22, ci k23, ci n24, .str s25, .isl .fld f26, .isl .two prs27, .isl .lens ks28]] [] R
def j1000_Equal : Fn TT := ⟨79, [.t 4], (.seq (.reg [qo 2 (.box 2 0),qo 3 (.box 3 1),qo 4 (.mv bF)]) (.seq (.seq (.regc [([qo 5 (.fa 2 0),qo 6 (.load 5 1 false),qo 7 (.fa 3 0),qo 8 (.load 7 1 false),qo 9 (.bin .neq .num 6 8),qo 10 (.mv 9),qf 10 11 (.fa 2 1),qf 10 12 (.load 11 1 false),qf 10 13 (.fa 3 1),qf 10 14 (.load 13 1 false),qf 10 15 (.bin .neq .str 12 14),
 qo 16 (.pick 10 bT 15)], [2, 3, 16], [(.s 2), (.s 3)]), ([qo 17 (.mv 16),qf 17 18 (.fa 2 2),qf 17 19 (.load 18 1 false),qf 17 20 (.fa 3 2),qf 17 21 (.load 20 1 false),qf 17 22 (.bin .neq .str 19 21),qo 23 (.pick 17 bT 22)], [2, 3, 23], [(.s 2), (.s 3)]), ([qo 24 (.mv 23),qf 24 25 (.fa 2 4),qf 24 26 (.load 25 1 false),qf 24 27 (.fa 3 4),qf 24 28 (.load 27 1 false),
 qf 24 29 (.bin .neq .num 26 28),qo 30 (.pick 24 bT 29)], [2, 3, 30], [(.s 2), (.s 3)]), ([qo 31 (.mv 30),qf 31 32 (.fa 2 5),qf 31 33 (.load 32 1 false),qf 31 34 (.fa 3 5),qf 31 35 (.load 34 1 false),qf 31 36 (.bin .neq .num 33 35),qo 37 (.pick 31 bT 36)], [2, 3, 37], [(.s 2), (.s 3)]), ([qo 38 (.mv 37),qf 38 39 (.fa 2 6),qf 38 40 (.load 39 1 false),qf 38 41 (.fa 3 6),
 qf 38 42 (.load 41 1 false),qf 38 43 (.bin .neq .num 40 42),qo 44 (.pick 38 bT 43)], [2, 3, 44], [(.s 2), (.s 3)])] [qo 45 (.mv 44),qf 45 46 (.fa 2 7),qf 45 47 (.load 46 1 false),qf 45 48 (.fa 3 7),qf 45 49 (.load 48 1 false),qf 45 50 (.bin .neq .num 47 49),qo 51 (.pick 45 bT 50)]) (.cond 51 (.seq (.reg [qo 4 (.mv bF)]) .ret) .skip)) (.seq (.seq (.reg [qo 52 (.fa 2 3),
 qo 53 (.load 52 1 false),qo 54 (.fa 3 3),qo 55 (.load 54 1 false),qo 56 (.call 56 1001 [53, 55]),qo 57 (.un .not 56),qo 58 (.mv 57),qf 58 59 (.fa 2 8),qf 58 60 (.load 59 4 true),qf 58 61 (.fa 3 8),qf 58 62 (.load 61 4 true),qf 58 63 (.call 63 11 [60, 62]),qf 58 64 (.un .not 63),qo 65 (.pick 58 bT 64),qo 66 (.mv 65),qf 66 67 (.fa 2 12),qf 66 68 (.load 67 1 false),
 qf 66 69 (.fa 3 12),qf 66 70 (.load 69 1 false),qf 66 71 (.call 71 1003 [68, 70, (.c (.fn 1002 []))]),qf 66 72 (.un .not 71),qo 73 (.pick 66 bT 72)]) (.cond 73 (.seq (.reg [qo 4 (.mv bF)]) .ret) .skip)) (.seq (.reg [qo 74 (.fa 2 13),qo 75 (.load 74 1 false),qo 76 (.fa 3 13),qo 77 (.load 76 1 false),qo 78 (.call 78 1004 [75, 77, (.c (.fn 1000 []))]),qo 4 (.mv 78)]) .ret))))⟩
def C1004_EqualFunc (O : Oracle TT) (m : (List Ln) → (List Ln) → Option (Bool)) : Prop :=
 ∀ (l1 : List Ln) (l2 : List Ln) (Q : Bool → Prop) (R : RR) (_ : ∀ (q151 : Bool), Q q151 → R (bD q151) []) (_ : sat (m l1 l2) Q), O 1004 [.c (.isl .lens l1), .c (.isl .lens l2), .c (.fn 1000 [])] [] R
def j1004_EqualFunc : Fn TT := ⟨32, [.t 6], (.seq (.reg [qo 6 (.mv bF)]) (.seq (.seq (.reg [qo 10 (.mv 0),qo 11 (.len false 10),qo 12 (.mv 1),qo 13 (.len false 12),qo 14 (.bin .neq .num 11 13)]) (.cond 14 (.seq (.reg [qo 6 (.mv bF)]) .ret) .skip)) (.cut [] [] (.seq (.reg [qo 15 (.mv 0),qo 16 (.len false 15),qo 17 (.mv (iC 0))]) (.block 0 (.loop (.keep [1, 2, 15, 16, 17] [] (.aft (.seq
 (.reg [qo 18 (.bin .lss .num 17 16)]) (.seq (.cond 18 .skip (.exit 0)) (.seq (.block 1 (.seq (.reg [qo 19 (.mv 17),qo 20 (.idxA 15 17 14),qo 21 (.load 20 14 true),qo 8 (.alloc 8 zLn),qo 7 (.mv 19),qp (.store 8 21 14)]) (.seq (.reg [qo 22 (.mv 1),qo 23 (.mv 7),qo 24 (.idxA 22 23 14),qo 25 (.load 24 14 true),qo 9 (.alloc 9 zLn),qp (.store 9 25 14)]) (.seq (.reg [qo 26 (.mv 2),
 qo 27 (.load 8 14 true),qo 28 (.load 9 14 true),qo 29 (.callv 29 26 [27, 28]),qo 30 (.un .not 29)]) (.cond 30 (.seq (.reg [qo 6 (.mv bF)]) .ret) .skip))))) (.reg [qo 31 (.bin .add .num 17 (iC 1)),qo 17 (.mv 31)])))) [.keep [1, 2, 15, 16, 17] []]))))) (.seq (.reg [qo 6 (.mv bT)]) .ret))))⟩
theorem w1000_Equal {O : Oracle TT} (fuel : Nat) (self1004_EqualFunc : (List Ln) → (List Ln) → Option (Bool)) (h11_Same : C11_Same O (f11_Same fuel)) (h1001_Equal : C1001_Equal O f1001_Equal) (h1003_EqualFunc : C1003_EqualFunc O (f1003_EqualFunc fuel)) (h1004_EqualFunc : C1004_EqualFunc O self1004_EqualFunc) : C1000_Equal (fun _ => vcF (S := SS) O j1000_Equal) (b1000_Equal fuel self1004_EqualFunc) := by
 intro op1 nm2 to3 ns4 n5 lo6 hi7 sep8 k9 n10 s11 f12 prs13 ks14 op15 nm16 to17 ns18 n19 lo20 hi21 sep22 k23 n24 s25 f26 prs27 ks28 Q R hQ h
 unfold b1000_Equal at h
 refine ⟨nle rfl, rfl, ?_⟩
 obtain ⟨R32, h, hlR32, hrR32⟩ := sat_sbind h
 refine kX (fun σ => ∃ (q31 : Bool), R32 (.inr q31) ∧ σ = ⟨[(2, pS 2), (3, pS 3), (16, bD q31)], [(.s 2, some (.var [ci op1, .str nm2, .str to3, .isl .str ns4, ci n5, ci lo6, ci hi7, .int .u8 sep8, ci k9, ci n10, .str s11, .isl .fld f12, .isl .two prs13, .isl .lens ks14])), (.s 3, some (.var [ci op15, .str nm16, .str to17, .isl .str ns18, ci n19, ci lo20, ci hi21, .int .u8 sep22, ci k23, ci n24, .str s25, .isl .fld f26, .isl .two prs27, .isl .lens ks28]))]⟩) ?_ ?_
 refine kc h (fun h => ?_) fun h => ?_
 refine kc h (fun h => ?_) fun h => ?_
 conv => whnf
 exact ⟨false, sat_some h, rfl⟩
 conv => whnf
 exact ⟨true, sat_some h, rfl⟩
 conv => whnf
 exact ⟨true, sat_some h, rfl⟩
 rintro _ ⟨q31, h, rfl⟩
 replace h := hrR32 _ h
 obtain ⟨R37, h, hlR37, hrR37⟩ := sat_sbind h
 refine kX (fun σ => ∃ (q36 : Bool), R37 (.inr q36) ∧ σ = ⟨[(2, pS 2), (3, pS 3), (23, bD q36)], [(.s 2, some (.var [ci op1, .str nm2, .str to3, .isl .str ns4, ci n5, ci lo6, ci hi7, .int .u8 sep8, ci k9, ci n10, .str s11, .isl .fld f12, .isl .two prs13, .isl .lens ks14])), (.s 3, some (.var [ci op15, .str nm16, .str to17, .isl .str ns18, ci n19, ci lo20, ci hi21, .int .u8 sep22, ci k23, ci n24, .str s25, .isl .fld f26, .isl .two prs27, .isl .lens ks28]))]⟩) ?_ ?_
 cases q31
 replace h := sat_cf h
 refine kc h (fun h => ?_) fun h => ?_
 conv => whnf
 exact ⟨false, sat_some h, rfl⟩
 conv => whnf
 exact ⟨true, sat_some h, rfl⟩
 replace h := sat_ct h
 conv => whnf
 exact ⟨true, sat_some h, rfl⟩
 rintro _ ⟨q36, h, rfl⟩
 replace h := hrR37 _ h
 obtain ⟨R41, h, hlR41, hrR41⟩ := sat_sbind h
 refine kX (fun σ => ∃ (q40 : Bool), R41 (.inr q40) ∧ σ = ⟨[(2, pS 2), (3, pS 3), (30, bD q40)], [(.s 2, some (.var [ci op1, .str nm2, .str to3, .isl .str ns4, ci n5, ci lo6, ci hi7, .int .u8 sep8, ci k9, ci n10, .str s11, .isl .fld f12, .isl .two prs13, .isl .lens ks14])), (.s 3, some (.var [ci op15, .str nm16, .str to17, .isl .str ns18, ci n19, ci lo20, ci hi21, .int .u8 sep22, ci k23, ci n24, .str s25, .isl .fld f26, .isl .two prs27, .isl .lens ks28]))]⟩) ?_ ?_
 cases q36
 replace h := sat_cf h
 refine kc h (fun h => ?_) fun h => ?_
 conv => whnf
 exact ⟨false, sat_some h, rfl⟩
 conv => whnf
 exact ⟨true, sat_some h, rfl⟩
 replace h := sat_ct h
 conv => whnf
 exact ⟨true, sat_some h, rfl⟩
 rintro _ ⟨q40, h, rfl⟩
 replace h := hrR41 _ h
 obtain ⟨R45, h, hlR45, hrR45⟩ := sat_sbind h
 refine kX (fun σ => ∃ (q44 : Bool), R45 (.inr q44) ∧ σ = ⟨[(2, pS 2), (3, pS 3), (37, bD q44)], [(.s 2, some (.var [ci op1, .str nm2, .str to3, .isl .str ns4, ci n5, ci lo6, ci hi7, .int .u8 sep8, ci k9, ci n10, .str s11, .isl .fld f12, .isl .two prs13, .isl .lens ks14])), (.s 3, some (.var [ci op15, .str nm16, .str to17, .isl .str ns18, ci n19, ci lo20, ci hi21, .int .u8 sep22, ci k23, ci n24, .str s25, .isl .fld f26, .isl .two prs27, .isl .lens ks28]))]⟩) ?_ ?_
 cases q40
 replace h := sat_cf h
 refine kc h (fun h => ?_) fun h => ?_
 conv => whnf
 exact ⟨false, sat_some h, rfl⟩
 conv => whnf
 exact ⟨true, sat_some h, rfl⟩
 replace h := sat_ct h
 conv => whnf
 exact ⟨true, sat_some h, rfl⟩
 rintro _ ⟨q44, h, rfl⟩
 replace h := hrR45 _ h
 obtain ⟨R49, h, hlR49, hrR49⟩ := sat_sbind h
 refine kX (fun σ => ∃ (q48 : Bool), R49 (.inr q48) ∧ σ = ⟨[(2, pS 2), (3, pS 3), (44, bD q48)], [(.s 2, some (.var [ci op1, .str nm2, .str to3, .isl .str ns4, ci n5, ci lo6, ci hi7, .int .u8 sep8, ci k9, ci n10, .str s11, .isl .fld f12, .isl .two prs13, .isl .lens ks14])), (.s 3, some (.var [ci op15, .str nm16, .str to17, .isl .str ns18, ci n19, ci lo20, ci hi21, .int .u8 sep22, ci k23, ci n24, .str s25, .isl .fld f26, .isl .two prs27, .isl .lens ks28]))]⟩) ?_ ?_
 cases q44
 replace h := sat_cf h
 refine kc h (fun h => ?_) fun h => ?_
 conv => whnf
 exact ⟨false, sat_some h, rfl⟩
 conv => whnf
 exact ⟨true, sat_some h, rfl⟩
 replace h := sat_ct h
 conv => whnf
 exact ⟨true, sat_some h, rfl⟩
 rintro _ ⟨q48, h, rfl⟩
 replace h := hrR49 _ h
 cases q48
 replace h := sat_cf h
 refine kc h (fun h => ?_) fun h => ?_
 refine kL [] (h1001_Equal _ _ _ _ ?_ (sat_bind h))
 rintro q52 h
 cases q52
 replace h := sat_cf h
 exact kR [] (ND 0) (hQ _ (sat_some h))
 replace h := sat_ct h
 refine kL [] (h11_Same _ _ _ _ _ _ _ _ _ _ ?_ (sat_bind h))
 rintro q53 h
 cases q53
 replace h := sat_cf h
 exact kR [] (ND 0) (hQ _ (sat_some h))
 replace h := sat_ct h
 refine kL [] (h1003_EqualFunc _ _ _ _ ?_ (sat_bind h))
 rintro q54 h
 cases q54
 replace h := sat_cf h
 exact kR [] (ND 0) (hQ _ (sat_some h))
 replace h := sat_ct h
 refine kL [] (h1004_EqualFunc _ _ _ _ ?_ (sat_bind h))
 rintro q55 h
 exact kR [] (ND 0) (hQ _ (sat_some h))
 exact kR [] (ND 0) (hQ _ (sat_some h))
 replace h := sat_ct h
 exact kR [] (ND 0) (hQ _ (sat_some h))
theorem w1004_EqualFunc {O : Oracle TT} (self1000_Equal : Ln → Ln → Option (Bool)) (h1000_Equal : C1000_Equal O self1000_Equal) : C1004_EqualFunc (fun _ => vcF (S := SS) O j1004_EqualFunc) (b1004_EqualFunc self1000_Equal) := by
 intro l1 l2 Q R hQ h
 unfold b1004_EqualFunc at h
 refine ⟨nle rfl, rfl, ?_⟩
 intro hl3
 intro hl4
 refine kc h (fun h => ?_) fun h => ?_
 obtain ⟨R78, h, hlR78, hrR78⟩ := sat_sbind h
 refine kX (fun σ => R78 (.inr ()) ∧ σ = ⟨[], []⟩) ?_ ?_
 intro hl79
 refine kX (fun σ n => ∃ (rem116 : List Ln) (j115 : Nat) (z : Int), n = rem116.length ∧ l1.drop j115 = rem116 ∧ z = ((j115 : Nat) : Int) ∧ sat (f1004_EqualFunc_L2 self1000_Equal l2 rem116 j115) R78 ∧ σ.keep [1, 2, 15, 16, 17] [] = ⟨[(1, .c (.isl .lens l2)), (2, .c (.fn 1000 [])), (15, .c (.isl .lens l1)), (16, iD ((l1.length : Nat) : Int)), (17, iD z)], []⟩) ⟨_, l1, 0, _, rfl, rfl, rfl, h, rfl⟩ ?_
 rintro σ n ⟨rem116, j115, _, rfl, hrem116, rfl, h, hσ⟩
 refine kk hσ ?_
 intro t119 (ht119 : t119 = decide (((j115 : Nat) : Int) < ((l1.length : Nat) : Int)))
 cases t119
 obtain rfl := ll_nil hrem116 ht119
 rw [f1004_EqualFunc_L2] at h
 conv => whnf
 exact ⟨sat_some h, rfl⟩
 obtain ⟨x118, tl117, rfl, hx118, htl117⟩ := ll_cons hrem116 ht119
 obtain ⟨op120, nm121, to122, ns123, n124, lo125, hi126, sep127, ⟨k128, n129, s130, f131⟩, prs132, ks133⟩ := x118
 rw [f1004_EqualFunc_L2] at h
 conv => whnf
 refine ⟨lx_bd hx118, fun uu134 huu134 => ?_⟩
 obtain rfl := lx_eq hx118 huu134
 refine kg (sat_getL h) fun uu149 huu149 h => ?_
 obtain ⟨op135, nm136, to137, ns138, n139, lo140, hi141, sep142, ⟨k143, n144, s145, f146⟩, prs147, ks148⟩ := uu149
 refine kL [] (h1000_Equal _ _ _ _ _ _ _ _ _ _ _ _ _ _ _ _ _ _ _ _ _ _ _ _ _ _ _ _ _ _ ?_ (sat_bind h))
 rintro q150 h
 cases q150
 replace h := sat_cf h
 replace h := sat_lft hlR78 h
 exact kR [] (ND 0) (hQ _ (sat_some h))
 replace h := sat_ct h
 conv => whnf
 exact ⟨tl117.length, nls, tl117, j115 + 1, _, rfl, htl117, lx_wr hx118 hl79, h, rfl⟩
 rintro _ ⟨h, rfl⟩
 replace h := hrR78 _ h
 exact kR [] (ND 0) (hQ _ (sat_some h))
 exact kR [] (ND 0) (hQ _ (sat_some h))
theorem cg1000_Equal {P : Program} {fid : Nat → FuncId} (mx : MX P) (k1000_Equal : KF P fid 1000 j1000_Equal) (k1004_EqualFunc : KF P fid 1004 j1004_EqualFunc) (h11_Same : ∀ n, C11_Same (SP P fid) (f11_Same n)) (h1001_Equal : C1001_Equal (SP P fid) f1001_Equal) (h1003_EqualFunc : ∀ n, C1003_EqualFunc (SP P fid) (f1003_EqualFunc n)) : ∀ n, C1000_Equal (SP P fid) (f1000_Equal n) ∧ C1004_EqualFunc (SP P fid) (f1004_EqualFunc n) := by
 intro n
 induction n with
 | zero => exact ⟨fun a0 a1 a2 a3 a4 a5 a6 a7 a8 a9 a10 a11 a12 a13 a14 a15 a16 a17 a18 a19 a20 a21 a22 a23 a24 a25 a26 a27 Q R hQ h => (sat_none h).elim, fun a0 a1 Q R hQ h => (sat_none h).elim⟩
 | succ n ih =>
  obtain ⟨ih0, ih1⟩ := ih
  exact ⟨fun a0 a1 a2 a3 a4 a5 a6 a7 a8 a9 a10 a11 a12 a13 a14 a15 a16 a17 a18 a19 a20 a21 a22 a23 a24 a25 a26 a27 Q R hQ h => spec_of_vc mx k1000_Equal (w1000_Equal n (f1004_EqualFunc n) (h11_Same n) h1001_Equal (h1003_EqualFunc n) ih1 a0 a1 a2 a3 a4 a5 a6 a7 a8 a9 a10 a11 a12 a13 a14 a15 a16 a17 a18 a19 a20 a21 a22 a23 a24 a25 a26 a27 Q R hQ h), fun a0 a1 Q R hQ h => spec_of_vc mx k1004_EqualFunc (w1004_EqualFunc (f1000_Equal n) ih0 a0 a1 Q R hQ h)⟩
theorem c1000_Equal {P : Program} {fid : Nat → FuncId} (mx : MX P) (k1000_Equal : KF P fid 1000 j1000_Equal) (k1004_EqualFunc : KF P fid 1004 j1004_EqualFunc) (h11_Same : ∀ n, C11_Same (SP P fid) (f11_Same n)) (h1001_Equal : C1001_Equal (SP P fid) f1001_Equal) (h1003_EqualFunc : ∀ n, C1003_EqualFunc (SP P fid) (f1003_EqualFunc n)) : ∀ n, C1000_Equal (SP P fid) (f1000_Equal n) := fun n => (cg1000_Equal mx k1000_Equal k1004_EqualFunc h11_Same h1001_Equal h1003_EqualFunc n).1
def f1105_LensTextFixed (fuel : Nat) : BA → Option (Bool)
 | s1 => (f325_drop).bind fun (.mk op2 nm3 to4 ns5 n6 lo7 hi8 sep9 (.mk k10 n11 s12 f13) prs14 ks15) => (f1017_Text fuel (Ln.mk op2 nm3 to4 ns5 n6 lo7 hi8 sep9 (V.mk k10 n11 s12 f13) prs14 ks15)).bind fun (s16, v17) => (f1009_Read fuel s16).bind fun ((.mk op18 nm19 to20 ns21 n22 lo23 hi24 sep25 (.mk k26 n27 s28 f29) prs30 ks31), v32, v33) => cond (v17 != 0) (some false) (cond (v33 != 0) (some false) (cond (!(s16.toList == (⟨#[100, 114, 111, 112, 32, 98, 32, 105, 110, 116, 32, 55]⟩ : BA).toList)) (some false) ((f325_drop).bind fun (.mk op37 nm38 to39 ns40 n41 lo42 hi43 sep44 (.mk k45 n46 s47 f48) prs49 ks50) => (f1000_Equal fuel (Ln.mk op18 nm19 to20 ns21 n22 lo23 hi24 sep25 (V.mk k26 n27 s28 f29) prs30 ks31) (Ln.mk op37 nm38 to39 ns40 n41 lo42 hi43 sep44 (V.mk k45 n46 s47 f48) prs49 ks50)).bind fun q51 => cond q51 ((f1009_Read fuel s1).bind fun ((.mk op52 nm53 to54 ns55 n56 lo57 hi58 sep59 (.mk k60 n61 s62 f63) prs64 ks65), v66, v67) => cond (v67 != 0) (some true) ((f1017_Text fuel (Ln.mk op52 nm53 to54 ns55 n56 lo57 hi58 sep59 (V.mk k60 n61 s62 f63) prs64 ks65)).bind fun (s69, v70) => cond (v70 == 0) (cond (s69.toList == s1.toList) (some true) (some false)) (some false))) (some false))))
def C1105_LensTextFixed (O : Oracle TT) (m : BA → Option (Bool)) : Prop :=
 ∀ (s1 : BA) (Q : Bool → Prop) (R : RR) (_ : ∀ (q73 : Bool), Q q73 → R (bD q73) []) (_ : sat (m s1) Q), O 1105 [sD s1] [] R
def j1105_LensTextFixed : Fn TT := ⟨55, [.t 2], (.seq (.reg [qo 2 (.mv bF)]) (.seq (.reg [qo 9 (.call 9 325 []),qo 10 (.call 10 1017 [9]),qo 8 (.mv 10),qo 11 (.ext 8 0),qo 12 (.ext 8 1),qo 3 (.mv 11),qo 4 (.mv 12)]) (.seq (.reg [qo 14 (.mv 3),qo 15 (.call 15 1009 [14]),qo 13 (.mv 15),qo 16 (.ext 13 0),qo 17 (.ext 13 1),qo 18 (.ext 13 2),qo 5 (.alloc 5 zLn),qp (.store 5 16 14),
 qo 6 (.mv 17),qo 7 (.mv 18)]) (.seq (.seq (.drw [] (oR 16) [] [0, 1, 2, 3, 4, 5, 6, 7, 8, 9, 10, 11, 14, 15] [qo 19 (.mv 4),qo 20 (.bin .neq .num 19 (iC 0)),qo 21 (.mv 20),qf 21 22 (.mv 7),qf 21 23 (.bin .neq .num 22 (iC 0)),qo 24 (.pick 21 bT 23),qo 25 (.mv 24),qf 25 26 (.mv 3),
 qf 25 27 (.bin .neq .str 26 (.c (.str (⟨#[100, 114, 111, 112, 32, 98, 32, 105, 110, 116, 32, 55]⟩ : BA)))),qo 28 (.pick 25 bT 27),qo 29 (.mv 28),qf 29 30 (.load 5 14 true),qf 29 31 (.call 31 325 []),qf 29 32 (.call 32 1000 [30, 31]),qf 29 33 (.un .not 32),qo 34 (.pick 29 bT 33)]) (.cond 34 (.seq (.reg [qo 2 (.mv bF)]) .ret) .skip)) (.seq (.seq (.reg [qo 36 (.mv 0),
 qo 37 (.call 37 1009 [36]),qo 35 (.mv 37),qo 38 (.ext 35 0),qo 39 (.ext 35 1),qo 40 (.ext 35 2),qp (.store 5 38 14),qo 4 (.mv 40)]) (.seq (.reg [qo 41 (.mv 4),qo 42 (.bin .neq .num 41 (iC 0))]) (.cond 42 (.seq (.reg [qo 2 (.mv bT)]) .ret) .skip))) (.seq (.reg [qo 44 (.load 5 14 true),qo 45 (.call 45 1017 [44]),qo 43 (.mv 45),qo 46 (.ext 43 0),qo 47 (.ext 43 1),qo 3 (.mv 46),
 qo 4 (.mv 47)]) (.seq (.reg [qo 48 (.mv 4),qo 49 (.bin .eql .num 48 (iC 0)),qo 50 (.mv 49),qg 50 51 (.mv 3),qg 50 52 (.mv 0),qg 50 53 (.bin .eql .str 51 52),qo 54 (.pick 50 53 bF),qo 2 (.mv 54)]) .ret)))))))⟩
theorem w1105_LensTextFixed {O : Oracle TT} (fuel : Nat) (h1009_Read : C1009_Read O (f1009_Read fuel)) (h1017_Text : C1017_Text O (f1017_Text fuel)) (h325_drop : C325_drop O f325_drop) (h1000_Equal : C1000_Equal O (f1000_Equal fuel)) : C1105_LensTextFixed (fun _ => vcF (S := SS) O j1105_LensTextFixed) (f1105_LensTextFixed fuel) := by
 intro s1 Q R hQ h
 unfold f1105_LensTextFixed at h
 refine ⟨nle rfl, rfl, ?_⟩
 refine kL [] (h325_drop _ _ ?_ (sat_bind h))
 rintro op2 nm3 to4 ns5 n6 lo7 hi8 sep9 k10 n11 s12 f13 prs14 ks15 h
 refine kL [] (h1017_Text _ _ _ _ _ _ _ _ _ _ _ _ _ _ _ _ ?_ (sat_bind h))
 rintro s16 v17 h
 refine kL [] (h1009_Read _ _ _ ?_ (sat_bind h))
 rintro op18 nm19 to20 ns21 n22 lo23 hi24 sep25 k26 n27 s28 f29 prs30 ks31 v32 v33 h
 refine kc h (fun h => ?_) fun h => ?_
 refine kc h (fun h => ?_) fun h => ?_
 refine kc h (fun h => ?_) fun h => ?_
 refine kL [] (h325_drop _ _ ?_ (sat_bind h))
 rintro op37 nm38 to39 ns40 n41 lo42 hi43 sep44 k45 n46 s47 f48 prs49 ks50 h
 refine kL [] (h1000_Equal _ _ _ _ _ _ _ _ _ _ _ _ _ _ _ _ _ _ _ _ _ _ _ _ _ _ _ _ _ _ ?_ (sat_bind h))
 rintro q51 h
 cases q51
 replace h := sat_cf h
 exact kR [] (ND 0) (hQ _ (sat_some h))
 replace h := sat_ct h
 refine kL [] (h1009_Read _ _ _ ?_ (sat_bind h))
 rintro op52 nm53 to54 ns55 n56 lo57 hi58 sep59 k60 n61 s62 f63 prs64 ks65 v66 v67 h
 refine kc h (fun h => ?_) fun h => ?_
 refine kL [] (h1017_Text _ _ _ _ _ _ _ _ _ _ _ _ _ _ _ _ ?_ (sat_bind h))
 rintro s69 v70 h
 refine kc h (fun h => ?_) fun h => ?_
 exact kR [] (ND 0) (hQ _ (sat_some h))
 refine kc h (fun h => ?_) fun h => ?_
 exact kR [] (ND 0) (hQ _ (sat_some h))
 exact kR [] (ND 0) (hQ _ (sat_some h))
 exact kR [] (ND 0) (hQ _ (sat_some h))
 exact kR [] (ND 0) (hQ _ (sat_some h))
 exact kR [] (ND 0) (hQ _ (sat_some h))
 exact kR [] (ND 0) (hQ _ (sat_some h))
theorem c1105_LensTextFixed {P : Program} {fid : Nat → FuncId} (mx : MX P) (k1105_LensTextFixed : KF P fid 1105 j1105_LensTextFixed) (h1009_Read : ∀ n, C1009_Read (SP P fid) (f1009_Read n)) (h1017_Text : ∀ n, C1017_Text (SP P fid) (f1017_Text n)) (h325_drop : C325_drop (SP P fid) f325_drop) (h1000_Equal : ∀ n, C1000_Equal (SP P fid) (f1000_Equal n)) : ∀ n, C1105_LensTextFixed (SP P fid) (f1105_LensTextFixed n) :=
 fun n => fun a0 Q R hQ h => spec_of_vc mx k1105_LensTextFixed (w1105_LensTextFixed n (h1009_Read n) (h1017_Text n) h325_drop (h1000_Equal n) a0 Q R hQ h)
end Go.Clap
