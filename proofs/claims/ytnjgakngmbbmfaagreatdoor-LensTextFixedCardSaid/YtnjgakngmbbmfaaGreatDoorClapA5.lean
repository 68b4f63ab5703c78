/- The checks of the small code against the loaded functions. -/
import Derived.Test.YtnjgakngmbbmfaaGreatDoorClapA3
set_option linter.unusedVariables false
set_option linter.unusedSimpArgs false
set_option maxHeartbeats 4000000
set_option maxRecDepth 100000
namespace Go.Clap
open Go.IntKind (wrap)
def f52_order : Int → Option (Int)
 | v1 => cond (decide (v1 < 0)) (some (wrap .i64 (((-1) : Int) - (bAnd .i64 v1 9223372036854775807)))) (some v1)
def C52_order (O : Oracle TT) (m : Int → Option (Int)) : Prop :=
 ∀ (v1 : Int) (Q : Int → Prop) (R : RR) (_ : ∀ (v3 : Int), Q v3 → R (iD v3) []) (_ : sat (m v1) Q), O 52 [iD v1] [] R
def j52_order : Fn TT := ⟨9, [.t 2], (.seq (.reg [qo 2 (.mv (iC 0))]) (.seq (.seq (.reg [qo 3 (.mv 0),qo 4 (.bin .lss .num 3 (iC 0))]) (.cond 4 (.seq (.reg [qo 5 (.mv 0),qo 6 (.bin .and .num 5 (iC 9223372036854775807)),qo 7 (.bin .sub .num (iC (-1)) 6),qo 2 (.mv 7)]) .ret) .skip)) (.seq (.reg [qo 8 (.mv 0),qo 2 (.mv 8)]) .ret)))⟩
theorem w52_order {O : Oracle TT} : C52_order (fun _ => vcF (S := SS) O j52_order) f52_order := by
 intro v1 Q R hQ h
 unfold f52_order at h
 refine ⟨nle rfl, rfl, ?_⟩
 refine kc h (fun h => ?_) fun h => ?_
 exact kR [] (ND 0) (hQ _ (sat_some h))
 exact kR [] (ND 0) (hQ _ (sat_some h))
theorem c52_order {P : Program} {fid : Nat → FuncId} (mx : MX P) (k52_order : KF P fid 52 j52_order) : C52_order (SP P fid) f52_order :=
 fun a0 Q R hQ h => spec_of_vc mx k52_order (w52_order a0 Q R hQ h)
def f59_isNaN : Int → Option (Bool)
 | v1 => cond (v1 != v1) (some true) (some false)
def C59_isNaN (O : Oracle TT) (m : Int → Option (Bool)) : Prop :=
 ∀ (v1 : Int) (Q : Bool → Prop) (R : RR) (_ : ∀ (q3 : Bool), Q q3 → R (bD q3) []) (_ : sat (m v1) Q), O 59 [iD v1] [] R
def j59_isNaN : Fn TT := ⟨6, [.t 2], (.seq (.reg [qo 2 (.mv bF)]) (.seq (.reg [qo 3 (.mv 0),qo 4 (.mv 0),qo 5 (.bin .neq .num 3 4),qo 2 (.mv 5)]) .ret))⟩
theorem w59_isNaN {O : Oracle TT} : C59_isNaN (fun _ => vcF (S := SS) O j59_isNaN) f59_isNaN := by
 intro v1 Q R hQ h
 unfold f59_isNaN at h
 refine ⟨nle rfl, rfl, ?_⟩
 refine kc h (fun h => ?_) fun h => ?_
 exact kR [] (ND 0) (hQ _ (sat_some h))
 exact kR [] (ND 0) (hQ _ (sat_some h))
theorem c59_isNaN {P : Program} {fid : Nat → FuncId} (mx : MX P) (k59_isNaN : KF P fid 59 j59_isNaN) : C59_isNaN (SP P fid) f59_isNaN :=
 fun a0 Q R hQ h => spec_of_vc mx k59_isNaN (w59_isNaN a0 Q R hQ h)
def f38_Compare : Int → Int → Option (Int)
 | v1, v2 => (f59_isNaN v1).bind fun q3 => (f59_isNaN v2).bind fun q4 => cond q3 (cond q4 (some 0) (some (-1))) (cond q4 (some 1) (cond (decide (v1 < v2)) (some (-1)) (cond (decide (v1 > v2)) (some 1) (some 0))))
def C38_Compare (O : Oracle TT) (m : Int → Int → Option (Int)) : Prop :=
 ∀ (v1 : Int) (v2 : Int) (Q : Int → Prop) (R : RR) (_ : ∀ (v7 : Int), Q v7 → R (iD v7) []) (_ : sat (m v1 v2) Q), O 38 [iD v1, iD v2] [] R
def j38_Compare : Fn TT := ⟨20, [.t 4], (.seq (.reg [qo 4 (.mv (iC 0))]) (.seq (.reg [qo 7 (.mv 0),qo 8 (.call 8 59 [7]),qo 5 (.mv 8)]) (.seq (.reg [qo 9 (.mv 1),qo 10 (.call 10 59 [9]),qo 6 (.mv 10)]) (.seq (.seq (.reg [qo 11 (.mv 5)]) (.cond 11 (.seq (.seq (.reg [qo 12 (.mv 6)]) (.cond 12 (.seq (.reg [qo 4 (.mv (iC 0))]) .ret) .skip)) (.seq (.reg [qo 4 (.mv (iC (-1)))]) .ret)) .skip)) (.seq
 (.seq (.reg [qo 13 (.mv 6)]) (.cond 13 (.seq (.reg [qo 4 (.mv (iC 1))]) .ret) .skip)) (.seq (.seq (.reg [qo 14 (.mv 0),qo 15 (.mv 1),qo 16 (.bin .lss .num 14 15)]) (.cond 16 (.seq (.reg [qo 4 (.mv (iC (-1)))]) .ret) .skip)) (.seq (.seq (.reg [qo 17 (.mv 0),qo 18 (.mv 1),qo 19 (.bin .gtr .num 17 18)]) (.cond 19 (.seq (.reg [qo 4 (.mv (iC 1))]) .ret) .skip)) (.seq (.reg [qo 4 (.mv (iC 0))])
 .ret))))))))⟩
theorem w38_Compare {O : Oracle TT} (h59_isNaN : C59_isNaN O f59_isNaN) : C38_Compare (fun _ => vcF (S := SS) O j38_Compare) f38_Compare := by
 intro v1 v2 Q R hQ h
 unfold f38_Compare at h
 refine ⟨nle rfl, rfl, ?_⟩
 refine kL [] (h59_isNaN _ _ _ ?_ (sat_bind h))
 rintro q3 h
 refine kL [] (h59_isNaN _ _ _ ?_ (sat_bind h))
 rintro q4 h
 cases q3
 replace h := sat_cf h
 cases q4
 replace h := sat_cf h
 refine kc h (fun h => ?_) fun h => ?_
 refine kc h (fun h => ?_) fun h => ?_
 exact kR [] (ND 0) (hQ _ (sat_some h))
 exact kR [] (ND 0) (hQ _ (sat_some h))
 exact kR [] (ND 0) (hQ _ (sat_some h))
 replace h := sat_ct h
 exact kR [] (ND 0) (hQ _ (sat_some h))
 replace h := sat_ct h
 cases q4
 replace h := sat_cf h
 exact kR [] (ND 0) (hQ _ (sat_some h))
 replace h := sat_ct h
 exact kR [] (ND 0) (hQ _ (sat_some h))
theorem c38_Compare {P : Program} {fid : Nat → FuncId} (mx : MX P) (k38_Compare : KF P fid 38 j38_Compare) (h59_isNaN : C59_isNaN (SP P fid) f59_isNaN) : C38_Compare (SP P fid) f38_Compare :=
 fun a0 a1 Q R hQ h => spec_of_vc mx k38_Compare (w38_Compare h59_isNaN a0 a1 Q R hQ h)
def f78_CompareString : BA → BA → Option (Int)
 | s1, s2 => some (Lib.compareBytes s1.data.toList s2.data.toList)
def C78_CompareString (O : Oracle TT) (m : BA → BA → Option (Int)) : Prop :=
 ∀ (s1 : BA) (s2 : BA) (Q : Int → Prop) (R : RR) (_ : ∀ (v3 : Int), Q v3 → R (iD v3) []) (_ : sat (m s1 s2) Q), O 78 [sD s1, sD s2] [] R
def j78_CompareString : Fn TT := ⟨8, [.t 4], (.seq (.reg [qo 4 (.mv (iC 0))]) (.seq (.reg [qo 5 (.mv 0),qo 6 (.mv 1),qo 7 (.xcmp 5 6),qo 4 (.mv 7)]) .ret))⟩
theorem w78_CompareString {O : Oracle TT} : C78_CompareString (fun _ => vcF (S := SS) O j78_CompareString) f78_CompareString := by
 intro s1 s2 Q R hQ h
 unfold f78_CompareString at h
 refine ⟨nle rfl, rfl, ?_⟩
 exact kR [] (ND 0) (hQ _ (sat_some h))
theorem c78_CompareString {P : Program} {fid : Nat → FuncId} (mx : MX P) (k78_CompareString : KF P fid 78 j78_CompareString) : C78_CompareString (SP P fid) f78_CompareString :=
 fun a0 a1 Q R hQ h => spec_of_vc mx k78_CompareString (w78_CompareString a0 a1 Q R hQ h)
def f54_Compare : BA → BA → Option (Int)
 | s1, s2 => (f78_CompareString s1 s2).bind fun v3 => some v3
def C54_Compare (O : Oracle TT) (m : BA → BA → Option (Int)) : Prop :=
 ∀ (s1 : BA) (s2 : BA) (Q : Int → Prop) (R : RR) (_ : ∀ (v4 : Int), Q v4 → R (iD v4) []) (_ : sat (m s1 s2) Q), O 54 [sD s1, sD s2] [] R
def j54_Compare : Fn TT := ⟨8, [.t 4], (.seq (.reg [qo 4 (.mv (iC 0))]) (.seq (.reg [qo 5 (.mv 0),qo 6 (.mv 1),qo 7 (.call 7 78 [5, 6]),qo 4 (.mv 7)]) .ret))⟩
theorem w54_Compare {O : Oracle TT} (h78_CompareString : C78_CompareString O f78_CompareString) : C54_Compare (fun _ => vcF (S := SS) O j54_Compare) f54_Compare := by
 intro s1 s2 Q R hQ h
 unfold f54_Compare at h
 refine ⟨nle rfl, rfl, ?_⟩
 refine kL [] (h78_CompareString _ _ _ _ ?_ (sat_bind h))
 rintro v3 h
 exact kR [] (ND 0) (hQ _ (sat_some h))
theorem c54_Compare {P : Program} {fid : Nat → FuncId} (mx : MX P) (k54_Compare : KF P fid 54 j54_Compare) (h78_CompareString : C78_CompareString (SP P fid) f78_CompareString) : C54_Compare (SP P fid) f54_Compare :=
 fun a0 a1 Q R hQ h => spec_of_vc mx k54_Compare (w54_Compare h78_CompareString a0 a1 Q R hQ h)
def f53_Or_L2 : LI → Nat → Option (Sum (Int) (Unit))
 | [], j27 => some (.inr ())
 | v32 :: tl29, j27 => cond (v32 != 0) (lft (some v32)) (f53_Or_L2 tl29 (j27 + 1))
def f53_Or : LI → Option (Int)
 | l1 => sbind (ο := Unit) (f53_Or_L2 l1 0) (fun () => some 0)
def C53_Or (O : Oracle TT) (m : LI → Option (Int)) : Prop :=
 ∀ (l1 : LI) (Q : Int → Prop) (R : RR) (_ : ∀ (v35 : Int), Q v35 → R (iD v35) []) (_ : sat (m l1) Q), O 53 [.c (.isl .int l1)] [] R
def j53_Or : Fn TT := ⟨18, [.t 2], (.seq (.reg [qo 2 (.mv (iC 0))]) (.seq (.reg [qo 3 (.mv (iC 0))]) (.cut [3] [] (.seq (.reg [qo 6 (.mv 0),qo 7 (.len false 6),qo 8 (.mv (iC 0))]) (.block 0 (.loop (.keep [3, 6, 7, 8] [] (.aft (.seq (.reg [qo 9 (.bin .lss .num 8 7)]) (.seq (.cond 9 .skip (.exit 0)) (.seq (.block 1 (.seq (.reg [qo 10 (.idxA 6 8 1),qo 11 (.load 10 1 false),qo 5 (.mv 11)]) (.seq
 (.reg [qo 12 (.mv 5),qo 13 (.mv 3),qo 14 (.bin .neq .num 12 13)]) (.cond 14 (.seq (.reg [qo 15 (.mv 5),qo 2 (.mv 15)]) .ret) .skip)))) (.reg [qo 16 (.bin .add .num 8 (iC 1)),qo 8 (.mv 16)])))) [.keep [3, 6, 7, 8] []]))))) (.seq (.reg [qo 17 (.mv 3),qo 2 (.mv 17)]) .ret))))⟩
theorem w53_Or {O : Oracle TT} : C53_Or (fun _ => vcF (S := SS) O j53_Or) f53_Or := by
 intro l1 Q R hQ h
 unfold f53_Or at h
 refine ⟨nle rfl, rfl, ?_⟩
 obtain ⟨R18, h, hlR18, hrR18⟩ := sat_sbind h
 refine kX (fun σ => R18 (.inr ()) ∧ σ = ⟨[(3, iD 0)], []⟩) ?_ ?_
 intro hl19
 refine kX (fun σ n => ∃ (rem28 : LI) (j27 : Nat) (z : Int), n = rem28.length ∧ l1.drop j27 = rem28 ∧ z = ((j27 : Nat) : Int) ∧ sat (f53_Or_L2 rem28 j27) R18 ∧ σ.keep [3, 6, 7, 8] [] = ⟨[(3, iD 0), (6, .c (.isl .int l1)), (7, iD ((l1.length : Nat) : Int)), (8, iD z)], []⟩) ⟨_, l1, 0, _, rfl, rfl, rfl, h, rfl⟩ ?_
 rintro σ n ⟨rem28, j27, _, rfl, hrem28, rfl, h, hσ⟩
 refine kk hσ ?_
 intro t31 (ht31 : t31 = decide (((j27 : Nat) : Int) < ((l1.length : Nat) : Int)))
 cases t31
 obtain rfl := ll_nil hrem28 ht31
 rw [f53_Or_L2] at h
 conv => whnf
 exact ⟨sat_some h, rfl⟩
 obtain ⟨v32, tl29, rfl, hx30, htl29⟩ := ll_cons hrem28 ht31
 rw [f53_Or_L2] at h
 conv => whnf
 refine ⟨lx_bd hx30, fun uu33 huu33 => ?_⟩
 obtain rfl := lx_eq hx30 huu33
 refine kc h (fun h => ?_) fun h => ?_
 conv => whnf
 exact ⟨tl29.length, nls, tl29, j27 + 1, _, rfl, htl29, lx_wr hx30 hl19, h, rfl⟩
 replace h := sat_lft hlR18 h
 exact kR [] (ND 0) (hQ _ (sat_some h))
 rintro _ ⟨h, rfl⟩
 replace h := hrR18 _ h
 exact kR [] (ND 0) (hQ _ (sat_some h))
theorem c53_Or {P : Program} {fid : Nat → FuncId} (mx : MX P) (k53_Or : KF P fid 53 j53_Or) : C53_Or (SP P fid) f53_Or :=
 fun a0 Q R hQ h => spec_of_vc mx k53_Or (w53_Or a0 Q R hQ h)
def b34_Cmp (self55_CompareFunc : FV → FV → Option (Int)) : V → V → Option (Int)
 | .mk k1 n2 s3 f4, .mk k5 n6 s7 f8 => sbind (ο := Int × Int) (cond (k1 == 3) ((f52_order n2).bind fun v16 => (f52_order n6).bind fun v17 => some (.inr (v16, v17))) (some (.inr (n2, n6)))) (fun (v12, v13) => (f38_Compare k1 k5).bind fun v18 => (f38_Compare v12 v13).bind fun v19 => (f54_Compare s3 s7).bind fun v20 => (f53_Or ([v18, v19, v20] : LI)).bind fun v21 => cond (v21 != 0) (some v21) ((self55_CompareFunc f4 f8).bind fun v23 => some v23))
def f55_CompareFunc_L2 (self56_1 : (BA × V) → (BA × V) → Option (Int)) (l2 : FV) : FV → Nat → Option (Sum (Int) (Unit))
 | [], j67 => some (.inr ())
 | ((a72, .mk k73 n74 s75 f76)) :: tl69, j67 => cond (decide (((j67 : Nat) : Int) ≥ ((l2.length : Nat) : Int))) (lft (some 1)) (getL l2 ((j67 : Nat) : Int) fun uu85 => match uu85 with | (a80, .mk k81 n82 s83 f84) => (self56_1 (a72, (V.mk k73 n74 s75 f76)) (a80, (V.mk k81 n82 s83 f84))).bind fun v86 => cond (v86 != 0) (lft (some v86)) (f55_CompareFunc_L2 self56_1 l2 tl69 (j67 + 1)))
def b55_CompareFunc (self56_1 : (BA × V) → (BA × V) → Option (Int)) : FV → FV → Option (Int)
 | l1, l2 => sbind (ο := Unit) (f55_CompareFunc_L2 self56_1 l2 l1 0) (fun () => cond (decide (((l1.length : Nat) : Int) < ((l2.length : Nat) : Int))) (some (-1)) (some 0))
def b56_1 (self34_Cmp : V → V → Option (Int)) : (BA × V) → (BA × V) → Option (Int)
 | (a1, .mk k2 n3 s4 f5), (a6, .mk k7 n8 s9 f10) => (f54_Compare a1 a6).bind fun v11 => (self34_Cmp (V.mk k2 n3 s4 f5) (V.mk k7 n8 s9 f10)).bind fun v12 => (f53_Or ([v11, v12] : LI)).bind fun v13 => some v13
def S34_Cmp : Nat → (V → V → Option (Int)) × (FV → FV → Option (Int)) × ((BA × V) → (BA × V) → Option (Int))
 | 0 => (fun _ _ => none, fun _ _ => none, fun _ _ => none)
 | n + 1 => (b34_Cmp (S34_Cmp n).2.1, b55_CompareFunc (S34_Cmp n).2.2, b56_1 (S34_Cmp n).1)
def f34_Cmp (n : Nat) : V → V → Option (Int) := (S34_Cmp n).1
def f55_CompareFunc (n : Nat) : FV → FV → Option (Int) := (S34_Cmp n).2.1
def f56_1 (n : Nat) : (BA × V) → (BA × V) → Option (Int) := (S34_Cmp n).2.2
def C34_Cmp (O : Oracle TT) (m : V → V → Option (Int)) : Prop :=
 ∀ (k1 : Int) (n2 : Int) (s3 : BA) (f4 : FV) (k5 : Int) (n6 : Int) (s7 : BA) (f8 : FV) (Q : Int → Prop) (R : RR) (_ : ∀ (v24 : Int), Q v24 → R (iD v24) []) (_ : sat (m (V.mk k1 n2 s3 f4) (V.mk k5 n6 s7 f8)) Q), O 34 [.agg [ci k1, ci n2, .str s3, .isl .fld f4], .agg [ci k5, ci n6, .str s7, .isl .fld f8]] [] R
def j34_Cmp : Fn TT := ⟨42, [.t 4], (.seq (.reg [qo 2 (.box 2 0),qo 3 (.box 3 1),qo 4 (.mv (iC 0))]) (.seq (.drw [] (oR 6) [] (List.range 6) [qo 8 (.fa 2 1),qo 9 (.load 8 1 false),qo 10 (.fa 3 1),qo 11 (.load 10 1 false),qo 5 (.mv 9),qo 6 (.mv 11)]) (.cut [2, 3, 5, 6] [(.s 2), (.s 3)] (.seq (.reg [qo 12 (.fa 2 0),qo 13 (.load 12 1 false),qo 14 (.bin .eql .num 13 (iC 3))]) (.cond 14
 (.reg [qo 15 (.mv 5),qo 16 (.call 16 52 [15]),qo 17 (.mv 6),qo 18 (.call 18 52 [17]),qo 5 (.mv 16),qo 6 (.mv 18)]) .skip)) (.seq (.drw [] (ol [0, 1, 2, 3, 5, 6, 8, 9, 10, 11, 4, 7, 12, 13, 14, 15]) [] [0, 1, 2, 3, 5, 6, 8, 9, 10, 11, 15] [qo 19 (.fa 2 0),qo 20 (.load 19 1 false),qo 21 (.fa 3 0),qo 22 (.load 21 1 false),qo 23 (.call 23 38 [20, 22]),qo 24 (.mv 5),qo 25 (.mv 6),
 qo 26 (.call 26 38 [24, 25]),qo 27 (.fa 2 2),qo 28 (.load 27 1 false),qo 29 (.fa 3 2),qo 30 (.load 29 1 false),qo 31 (.call 31 54 [28, 30]),qo 32 (.bsl .int [23, 26, 31]),qo 33 (.call 33 53 [32]),qo 7 (.mv 33)]) (.seq (.seq (.reg [qo 34 (.mv 7),qo 35 (.bin .neq .num 34 (iC 0))]) (.cond 35 (.seq (.reg [qo 36 (.mv 7),qo 4 (.mv 36)]) .ret) .skip)) (.seq (.reg [qo 37 (.fa 2 3),
 qo 38 (.load 37 1 false),qo 39 (.fa 3 3),qo 40 (.load 39 1 false),qo 41 (.call 41 55 [38, 40, (.c (.fn 56 []))]),qo 4 (.mv 41)]) .ret))))))⟩
def C55_CompareFunc (O : Oracle TT) (m : FV → FV → Option (Int)) : Prop :=
 ∀ (l1 : FV) (l2 : FV) (Q : Int → Prop) (R : RR) (_ : ∀ (v91 : Int), Q v91 → R (iD v91) []) (_ : sat (m l1 l2) Q), O 55 [.c (.isl .fld l1), .c (.isl .fld l2), .c (.fn 56 [])] [] R
def j55_CompareFunc : Fn TT := ⟨39, [.t 6], (.seq (.reg [qo 6 (.mv (iC 0))]) (.cut [0, 1] [] (.seq (.reg [qo 11 (.mv 0),qo 12 (.len false 11),qo 13 (.mv (iC 0))]) (.block 0 (.loop (.keep [0, 1, 2, 11, 12, 13] [] (.aft (.seq (.reg [qo 14 (.bin .lss .num 13 12)]) (.seq (.cond 14 .skip (.exit 0)) (.seq (.block 1 (.seq (.reg [qo 15 (.mv 13),qo 16 (.idxA 11 13 5),qo 17 (.load 16 5 true),
 qo 8 (.alloc 8 zFd),qo 7 (.mv 15),qp (.store 8 17 5)]) (.seq (.seq (.reg [qo 18 (.mv 7),qo 19 (.mv 1),qo 20 (.len false 19),qo 21 (.bin .geq .num 18 20)]) (.cond 21 (.seq (.reg [qo 6 (.mv (iC 1))]) .ret) .skip)) (.seq (.reg [qo 22 (.mv 1),qo 23 (.mv 7),qo 24 (.idxA 22 23 5),qo 25 (.load 24 5 true),qo 9 (.alloc 9 zFd),qp (.store 9 25 5)]) (.seq (.reg [qo 26 (.mv 2),
 qo 27 (.load 8 5 true),qo 28 (.load 9 5 true),qo 29 (.callv 29 26 [27, 28]),qo 10 (.mv 29)]) (.seq (.reg [qo 30 (.mv 10),qo 31 (.bin .neq .num 30 (iC 0))]) (.cond 31 (.seq (.reg [qo 32 (.mv 10),qo 6 (.mv 32)]) .ret) .skip))))))) (.reg [qo 33 (.bin .add .num 13 (iC 1)),qo 13 (.mv 33)])))) [.keep [0, 1, 2, 11, 12, 13] []]))))) (.seq (.seq (.reg [qo 34 (.mv 0),qo 35 (.len false 34),
 qo 36 (.mv 1),qo 37 (.len false 36),qo 38 (.bin .lss .num 35 37)]) (.cond 38 (.seq (.reg [qo 6 (.mv (iC (-1)))]) .ret) .skip)) (.seq (.reg [qo 6 (.mv (iC 0))]) .ret))))⟩
def C56_1 (O : Oracle TT) (m : (BA × V) → (BA × V) → Option (Int)) : Prop :=
 ∀ (a1 : BA) (k2 : Int) (n3 : Int) (s4 : BA) (f5 : FV) (a6 : BA) (k7 : Int) (n8 : Int) (s9 : BA) (f10 : FV) (Q : Int → Prop) (R : RR) (_ : ∀ (v14 : Int), Q v14 → R (iD v14) []) (_ : sat (m (a1, (V.mk k2 n3 s4 f5)) (a6, (V.mk k7 n8 s9 f10))) Q), O 56 [.agg [.str a1, ci k2, ci n3, .str s4, .isl .fld f5], .agg [.str a6, ci k7, ci n8, .str s9, .isl .fld f10]] [] R
def j56_1 : Fn TT := ⟨17, [.t 4], (.seq (.reg [qo 2 (.box 2 0),qo 3 (.box 3 1),qo 4 (.mv (iC 0))]) (.seq (.drw [] (ol [0, 1, 2, 3, 5, 6, 7, 8, 4, 9, 10, 11, 12]) [] [0, 1, 2, 3, 5, 6, 7, 8, 12] [qo 5 (.fa 2 0),qo 6 (.load 5 1 false),qo 7 (.fa 3 0),qo 8 (.load 7 1 false),qo 9 (.call 9 54 [6, 8]),qo 10 (.fa 2 1),qo 11 (.load 10 4 true),qo 12 (.fa 3 1),qo 13 (.load 12 4 true),
 qo 14 (.call 14 34 [11, 13]),qo 15 (.bsl .int [9, 14]),qo 16 (.call 16 53 [15]),qo 4 (.mv 16)]) .ret))⟩
theorem w34_Cmp {O : Oracle TT} (self55_CompareFunc : FV → FV → Option (Int)) (h52_order : C52_order O f52_order) (h38_Compare : C38_Compare O f38_Compare) (h54_Compare : C54_Compare O f54_Compare) (h53_Or : C53_Or O f53_Or) (h55_CompareFunc : C55_CompareFunc O self55_CompareFunc) : C34_Cmp (fun _ => vcF (S := SS) O j34_Cmp) (b34_Cmp self55_CompareFunc) := by
 intro k1 n2 s3 f4 k5 n6 s7 f8 Q R hQ h
 unfold b34_Cmp at h
 refine ⟨nle rfl, rfl, ?_⟩
 obtain ⟨R14, h, hlR14, hrR14⟩ := sat_sbind h
 refine kX (fun σ => ∃ (v12 : Int) (v13 : Int), R14 (.inr (v12, v13)) ∧ σ = ⟨[(2, pS 2), (3, pS 3), (5, iD v12), (6, iD v13)], [(.s 2, some (.var [ci k1, ci n2, .str s3, .isl .fld f4])), (.s 3, some (.var [ci k5, ci n6, .str s7, .isl .fld f8]))]⟩) ?_ ?_
 refine kc h (fun h => ?_) fun h => ?_
 conv => whnf
 exact ⟨n2, n6, sat_some h, rfl⟩
 refine kL [] (h52_order _ _ _ ?_ (sat_bind h))
 rintro v16 h
 refine kL [] (h52_order _ _ _ ?_ (sat_bind h))
 rintro v17 h
 conv => whnf
 exact ⟨v16, v17, sat_some h, rfl⟩
 rintro _ ⟨v12, v13, h, rfl⟩
 replace h := hrR14 _ h
 refine kL [] (h38_Compare _ _ _ _ ?_ (sat_bind h))
 rintro v18 h
 refine kL [] (h38_Compare _ _ _ _ ?_ (sat_bind h))
 rintro v19 h
 refine kL [] (h54_Compare _ _ _ _ ?_ (sat_bind h))
 rintro v20 h
 refine kL [] (h53_Or _ _ _ ?_ (sat_bind h))
 rintro v21 h
 refine kc h (fun h => ?_) fun h => ?_
 refine kL [] (h55_CompareFunc _ _ _ _ ?_ (sat_bind h))
 rintro v23 h
 exact kR [] (ND 0) (hQ _ (sat_some h))
 exact kR [] (ND 0) (hQ _ (sat_some h))
theorem w55_CompareFunc {O : Oracle TT} (self56_1 : (BA × V) → (BA × V) → Option (Int)) (h56_1 : C56_1 O self56_1) : C55_CompareFunc (fun _ => vcF (S := SS) O j55_CompareFunc) (b55_CompareFunc self56_1) := by
 intro l1 l2 Q R hQ h
 unfold b55_CompareFunc at h
 refine ⟨nle rfl, rfl, ?_⟩
 obtain ⟨R45, h, hlR45, hrR45⟩ := sat_sbind h
 refine kX (fun σ => R45 (.inr ()) ∧ σ = ⟨[(0, .c (.isl .fld l1)), (1, .c (.isl .fld l2))], []⟩) ?_ ?_
 intro hl46
 refine kX (fun σ n => ∃ (rem68 : FV) (j67 : Nat) (z : Int), n = rem68.length ∧ l1.drop j67 = rem68 ∧ z = ((j67 : Nat) : Int) ∧ sat (f55_CompareFunc_L2 self56_1 l2 rem68 j67) R45 ∧ σ.keep [0, 1, 2, 11, 12, 13] [] = ⟨[(0, .c (.isl .fld l1)), (1, .c (.isl .fld l2)), (2, .c (.fn 56 [])), (11, .c (.isl .fld l1)), (12, iD ((l1.length : Nat) : Int)), (13, iD z)], []⟩) ⟨_, l1, 0, _, rfl, rfl, rfl, h, rfl⟩ ?_
 rintro σ n ⟨rem68, j67, _, rfl, hrem68, rfl, h, hσ⟩
 refine kk hσ ?_
 intro t71 (ht71 : t71 = decide (((j67 : Nat) : Int) < ((l1.length : Nat) : Int)))
 cases t71
 obtain rfl := ll_nil hrem68 ht71
 rw [f55_CompareFunc_L2] at h
 conv => whnf
 exact ⟨sat_some h, rfl⟩
 obtain ⟨x70, tl69, rfl, hx70, htl69⟩ := ll_cons hrem68 ht71
 obtain ⟨a72, ⟨k73, n74, s75, f76⟩⟩ := x70
 rw [f55_CompareFunc_L2] at h
 conv => whnf
 refine ⟨lx_bd hx70, fun uu77 huu77 => ?_⟩
 obtain rfl := lx_eq hx70 huu77
 intro hl78
 refine kc h (fun h => ?_) fun h => ?_
 refine kg (sat_getL h) fun uu85 huu85 h => ?_
 obtain ⟨a80, ⟨k81, n82, s83, f84⟩⟩ := uu85
 refine kL [] (h56_1 _ _ _ _ _ _ _ _ _ _ _ _ ?_ (sat_bind h))
 rintro v86 h
 refine kc h (fun h => ?_) fun h => ?_
 conv => whnf
 exact ⟨tl69.length, nls, tl69, j67 + 1, _, rfl, htl69, lx_wr hx70 hl46, h, rfl⟩
 replace h := sat_lft hlR45 h
 exact kR [] (ND 0) (hQ _ (sat_some h))
 replace h := sat_lft hlR45 h
 exact kR [] (ND 0) (hQ _ (sat_some h))
 rintro _ ⟨h, rfl⟩
 replace h := hrR45 _ h
 intro hl88
 intro hl89
 refine kc h (fun h => ?_) fun h => ?_
 exact kR [] (ND 0) (hQ _ (sat_some h))
 exact kR [] (ND 0) (hQ _ (sat_some h))
theorem w56_1 {O : Oracle TT} (self34_Cmp : V → V → Option (Int)) (h34_Cmp : C34_Cmp O self34_Cmp) (h54_Compare : C54_Compare O f54_Compare) (h53_Or : C53_Or O f53_Or) : C56_1 (fun _ => vcF (S := SS) O j56_1) (b56_1 self34_Cmp) := by
 intro a1 k2 n3 s4 f5 a6 k7 n8 s9 f10 Q R hQ h
 unfold b56_1 at h
 refine ⟨nle rfl, rfl, ?_⟩
 refine kL [] (h54_Compare _ _ _ _ ?_ (sat_bind h))
 rintro v11 h
 refine kL [] (h34_Cmp _ _ _ _ _ _ _ _ _ _ ?_ (sat_bind h))
 rintro v12 h
 refine kL [] (h53_Or _ _ _ ?_ (sat_bind h))
 rintro v13 h
 exact kR [] (ND 0) (hQ _ (sat_some h))
theorem cg34_Cmp {P : Program} {fid : Nat → FuncId} (mx : MX P) (k34_Cmp : KF P fid 34 j34_Cmp) (k55_CompareFunc : KF P fid 55 j55_CompareFunc) (k56_1 : KF P fid 56 j56_1) (h52_order : C52_order (SP P fid) f52_order) (h38_Compare : C38_Compare (SP P fid) f38_Compare) (h54_Compare : C54_Compare (SP P fid) f54_Compare) (h53_Or : C53_Or (SP P fid) f53_Or) : ∀ n, C34_Cmp (SP P fid) (f34_Cmp n) ∧ C55_CompareFunc (SP P fid) (f55_CompareFunc n) ∧ C56_1 (SP P fid) (f56_1 n) := by
 intro n
 induction n with
 | zero => exact ⟨fun a0 a1 a2 a3 a4 a5 a6 a7 Q R hQ h => (sat_none h).elim, fun a0 a1 Q R hQ h => (sat_none h).elim, fun a0 a1 a2 a3 a4 a5 a6 a7 a8 a9 Q R hQ h => (sat_none h).elim⟩
 | succ n ih =>
  obtain ⟨ih0, ih1, ih2⟩ := ih
  exact ⟨fun a0 a1 a2 a3 a4 a5 a6 a7 Q R hQ h => spec_of_vc mx k34_Cmp (w34_Cmp (f55_CompareFunc n) h52_order h38_Compare h54_Compare h53_Or ih1 a0 a1 a2 a3 a4 a5 a6 a7 Q R hQ h), fun a0 a1 Q R hQ h => spec_of_vc mx k55_CompareFunc (w55_CompareFunc (f56_1 n) ih2 a0 a1 Q R hQ h), fun a0 a1 a2 a3 a4 a5 a6 a7 a8 a9 Q R hQ h => spec_of_vc mx k56_1 (w56_1 (f34_Cmp n) ih0 h54_Compare h53_Or a0 a1 a2 a3 a4 a5 a6 a7 a8 a9 Q R hQ h)⟩
theorem c34_Cmp {P : Program} {fid : Nat → FuncId} (mx : MX P) (k34_Cmp : KF P fid 34 j34_Cmp) (k55_CompareFunc : KF P fid 55 j55_CompareFunc) (k56_1 : KF P fid 56 j56_1) (h52_order : C52_order (SP P fid) f52_order) (h38_Compare : C38_Compare (SP P fid) f38_Compare) (h54_Compare : C54_Compare (SP P fid) f54_Compare) (h53_Or : C53_Or (SP P fid) f53_Or) : ∀ n, C34_Cmp (SP P fid) (f34_Cmp n) := fun n => (cg34_Cmp mx k34_Cmp k55_CompareFunc k56_1 h52_order h38_Compare h54_Compare h53_Or n).1
def f11_Same (fuel : Nat) : V → V → Option (Bool)
 | .mk k1 n2 s3 f4, .mk k5 n6 s7 f8 => (f34_Cmp fuel (V.mk k1 n2 s3 f4) (V.mk k5 n6 s7 f8)).bind fun v9 => cond (v9 == 0) (some true) (some false)
def C11_Same (O : Oracle TT) (m : V → V → Option (Bool)) : Prop :=
 ∀ (k1 : Int) (n2 : Int) (s3 : BA) (f4 : FV) (k5 : Int) (n6 : Int) (s7 : BA) (f8 : FV) (Q : Bool → Prop) (R : RR) (_ : ∀ (q11 : Bool), Q q11 → R (bD q11) []) (_ : sat (m (V.mk k1 n2 s3 f4) (V.mk k5 n6 s7 f8)) Q), O 11 [.agg [ci k1, ci n2, .str s3, .isl .fld f4], .agg [ci k5, ci n6, .str s7, .isl .fld f8]] [] R
def j11_Same : Fn TT := ⟨9, [.t 4], (.seq (.reg [qo 2 (.box 2 0),qo 3 (.box 3 1),qo 4 (.mv bF)]) (.seq (.reg [qo 5 (.load 2 4 true),qo 6 (.load 3 4 true),qo 7 (.call 7 34 [5, 6]),qo 8 (.bin .eql .num 7 (iC 0)),qo 4 (.mv 8)]) .ret))⟩
theorem w11_Same {O : Oracle TT} (fuel : Nat) (h34_Cmp : C34_Cmp O (f34_Cmp fuel)) : C11_Same (fun _ => vcF (S := SS) O j11_Same) (f11_Same fuel) := by
 intro k1 n2 s3 f4 k5 n6 s7 f8 Q R hQ h
 unfold f11_Same at h
 refine ⟨nle rfl, rfl, ?_⟩
 refine kL [] (h34_Cmp _ _ _ _ _ _ _ _ _ _ ?_ (sat_bind h))
 rintro v9 h
 refine kc h (fun h => ?_) fun h => ?_
 exact kR [] (ND 0) (hQ _ (sat_some h))
 exact kR [] (ND 0) (hQ _ (sat_some h))
theorem c11_Same {P : Program} {fid : Nat → FuncId} (mx : MX P) (k11_Same : KF P fid 11 j11_Same) (h34_Cmp : ∀ n, C34_Cmp (SP P fid) (f34_Cmp n)) : ∀ n, C11_Same (SP P fid) (f11_Same n) :=
 fun n => fun a0 a1 a2 a3 a4 a5 a6 a7 Q R hQ h => spec_of_vc mx k11_Same (w11_Same n (h34_Cmp n) a0 a1 a2 a3 a4 a5 a6 a7 Q R hQ h)
def f75_Size_L2 (self75_Size : V → Option (Int)) : FV → Nat → Int → Option (Sum (Int) (Int))
 | [], j46, v50 => some (.inr v50)
 | ((a52, .mk k53 n54 s55 f56)) :: tl48, j46, v50 => (self75_Size (V.mk k53 n54 s55 f56)).bind fun v58 => f75_Size_L2 self75_Size tl48 (j46 + 1) (wrap .i64 (v50 + v58))
def b75_Size (self75_Size : V → Option (Int)) : V → Option (Int)
 | .mk k1 n2 s3 f4 => sbind (ο := Int) (f75_Size_L2 self75_Size f4 0 (1 : Int)) (fun v31 => some v31)
def f75_Size : Nat → V → Option (Int)
 | 0 => fun _ => none
 | n + 1 => b75_Size (f75_Size n)
def C75_Size (O : Oracle TT) (m : V → Option (Int)) : Prop :=
 ∀ (k1 : Int) (n2 : Int) (s3 : BA) (f4 : FV) (Q : Int → Prop) (R : RR) (_ : ∀ (v59 : Int), Q v59 → R (iD v59) []) (_ : sat (m (V.mk k1 n2 s3 f4)) Q), O 75 [.agg [ci k1, ci n2, .str s3, .isl .fld f4]] [] R
def j75_Size : Fn TT := ⟨20, [.t 2], (.seq (.reg [qo 1 (.box 1 0),qo 2 (.mv (iC 0))]) (.seq (.reg [qo 3 (.mv (iC 1))]) (.cut [3] [] (.seq (.reg [qo 6 (.fa 1 3),qo 7 (.load 6 1 false),qo 8 (.len false 7),qo 9 (.mv (iC 0))]) (.block 0 (.loop (.keep [3, 7, 8, 9] [] (.aft (.seq (.reg [qo 10 (.bin .lss .num 9 8)]) (.seq (.cond 10 .skip (.exit 0)) (.seq (.block 1 (.seq (.reg [qo 11 (.idxA 7 9 5),
 qo 12 (.load 11 5 true),qo 5 (.alloc 5 zFd),qp (.store 5 12 5)]) (.reg [qo 13 (.mv 3),qo 14 (.fa 5 1),qo 15 (.load 14 4 true),qo 16 (.call 16 75 [15]),qo 17 (.bin .add .num 13 16),qo 3 (.mv 17)]))) (.reg [qo 18 (.bin .add .num 9 (iC 1)),qo 9 (.mv 18)])))) [.keep [3, 7, 8, 9] []]))))) (.seq (.reg [qo 19 (.mv 3),qo 2 (.mv 19)]) .ret))))⟩
theorem w75_Size {O : Oracle TT} (self75_Size : V → Option (Int)) (h75_Size : C75_Size O self75_Size) : C75_Size (fun _ => vcF (S := SS) O j75_Size) (b75_Size self75_Size) := by
 intro k1 n2 s3 f4 Q R hQ h
 unfold b75_Size at h
 refine ⟨nle rfl, rfl, ?_⟩
 obtain ⟨R32, h, hlR32, hrR32⟩ := sat_sbind h
 refine kX (fun σ => ∃ (v31 : Int), R32 (.inr v31) ∧ σ = ⟨[(3, iD v31)], []⟩) ?_ ?_
 intro hl33
 refine kX (fun σ n => ∃ (rem47 : FV) (j46 : Nat) (z : Int) (v50 : Int), n = rem47.length ∧ f4.drop j46 = rem47 ∧ z = ((j46 : Nat) : Int) ∧ sat (f75_Size_L2 self75_Size rem47 j46 v50) R32 ∧ σ.keep [3, 7, 8, 9] [] = ⟨[(3, iD v50), (7, .c (.isl .fld f4)), (8, iD ((f4.length : Nat) : Int)), (9, iD z)], []⟩) ⟨_, f4, 0, _, (1 : Int), rfl, rfl, rfl, h, rfl⟩ ?_
 rintro σ n ⟨rem47, j46, _, v50, rfl, hrem47, rfl, h, hσ⟩
 refine kk hσ ?_
 intro t51 (ht51 : t51 = decide (((j46 : Nat) : Int) < ((f4.length : Nat) : Int)))
 cases t51
 obtain rfl := ll_nil hrem47 ht51
 rw [f75_Size_L2] at h
 conv => whnf
 exact ⟨v50, sat_some h, rfl⟩
 obtain ⟨x49, tl48, rfl, hx49, htl48⟩ := ll_cons hrem47 ht51
 obtain ⟨a52, ⟨k53, n54, s55, f56⟩⟩ := x49
 rw [f75_Size_L2] at h
 conv => whnf
 refine ⟨lx_bd hx49, fun uu57 huu57 => ?_⟩
 obtain rfl := lx_eq hx49 huu57
 refine kL [] (h75_Size _ _ _ _ _ _ ?_ (sat_bind h))
 rintro v58 h
 conv => whnf
 exact ⟨tl48.length, nls, tl48, j46 + 1, _, (wrap .i64 (v50 + v58)), rfl, htl48, lx_wr hx49 hl33, h, rfl⟩
 rintro _ ⟨v31, h, rfl⟩
 replace h := hrR32 _ h
 exact kR [] (ND 0) (hQ _ (sat_some h))
theorem cg75_Size {P : Program} {fid : Nat → FuncId} (mx : MX P) (k75_Size : KF P fid 75 j75_Size) : ∀ n, C75_Size (SP P fid) (f75_Size n) := by
 intro n
 induction n with
 | zero => exact fun a0 a1 a2 a3 Q R hQ h => (sat_none h).elim
 | succ n ih =>
  have ih0 := ih
  exact fun a0 a1 a2 a3 Q R hQ h => spec_of_vc mx k75_Size (w75_Size (f75_Size n) ih0 a0 a1 a2 a3 Q R hQ h)
theorem c75_Size {P : Program} {fid : Nat → FuncId} (mx : MX P) (k75_Size : KF P fid 75 j75_Size) : ∀ n, C75_Size (SP P fid) (f75_Size n) := fun n => (cg75_Size mx k75_Size n)
def f76_Deep_L2 (self76_Deep : V → Option (Int)) : FV → Nat → Int → Option (Sum (Int) (Int))
 | [], j46, v50 => some (.inr v50)
 | ((a52, .mk k53 n54 s55 f56)) :: tl48, j46, v50 => (self76_Deep (V.mk k53 n54 s55 f56)).bind fun v58 => f76_Deep_L2 self76_Deep tl48 (j46 + 1) (if v58 > v50 then v58 else v50)
def b76_Deep (self76_Deep : V → Option (Int)) : V → Option (Int)
 | .mk k1 n2 s3 f4 => sbind (ο := Int) (f76_Deep_L2 self76_Deep f4 0 (0 : Int)) (fun v31 => some (wrap .i64 (v31 + 1)))
def f76_Deep : Nat → V → Option (Int)
 | 0 => fun _ => none
 | n + 1 => b76_Deep (f76_Deep n)
def C76_Deep (O : Oracle TT) (m : V → Option (Int)) : Prop :=
 ∀ (k1 : Int) (n2 : Int) (s3 : BA) (f4 : FV) (Q : Int → Prop) (R : RR) (_ : ∀ (v59 : Int), Q v59 → R (iD v59) []) (_ : sat (m (V.mk k1 n2 s3 f4)) Q), O 76 [.agg [ci k1, ci n2, .str s3, .isl .fld f4]] [] R
def j76_Deep : Fn TT := ⟨21, [.t 2], (.seq (.reg [qo 1 (.box 1 0),qo 2 (.mv (iC 0))]) (.seq (.reg [qo 3 (.mv (iC 0))]) (.cut [3] [] (.seq (.reg [qo 6 (.fa 1 3),qo 7 (.load 6 1 false),qo 8 (.len false 7),qo 9 (.mv (iC 0))]) (.block 0 (.loop (.keep [3, 7, 8, 9] [] (.aft (.seq (.reg [qo 10 (.bin .lss .num 9 8)]) (.seq (.cond 10 .skip (.exit 0)) (.seq (.block 1 (.seq (.reg [qo 11 (.idxA 7 9 5),
 qo 12 (.load 11 5 true),qo 5 (.alloc 5 zFd),qp (.store 5 12 5)]) (.reg [qo 13 (.mv 3),qo 14 (.fa 5 1),qo 15 (.load 14 4 true),qo 16 (.call 16 76 [15]),qo 17 (.mx [13, 16]),qo 3 (.mv 17)]))) (.reg [qo 18 (.bin .add .num 9 (iC 1)),qo 9 (.mv 18)])))) [.keep [3, 7, 8, 9] []]))))) (.seq (.reg [qo 19 (.mv 3),qo 20 (.bin .add .num 19 (iC 1)),qo 2 (.mv 20)]) .ret))))⟩
theorem w76_Deep {O : Oracle TT} (self76_Deep : V → Option (Int)) (h76_Deep : C76_Deep O self76_Deep) : C76_Deep (fun _ => vcF (S := SS) O j76_Deep) (b76_Deep self76_Deep) := by
 intro k1 n2 s3 f4 Q R hQ h
 unfold b76_Deep at h
 refine ⟨nle rfl, rfl, ?_⟩
 obtain ⟨R32, h, hlR32, hrR32⟩ := sat_sbind h
 refine kX (fun σ => ∃ (v31 : Int), R32 (.inr v31) ∧ σ = ⟨[(3, iD v31)], []⟩) ?_ ?_
 intro hl33
 refine kX (fun σ n => ∃ (rem47 : FV) (j46 : Nat) (z : Int) (v50 : Int), n = rem47.length ∧ f4.drop j46 = rem47 ∧ z = ((j46 : Nat) : Int) ∧ sat (f76_Deep_L2 self76_Deep rem47 j46 v50) R32 ∧ σ.keep [3, 7, 8, 9] [] = ⟨[(3, iD v50), (7, .c (.isl .fld f4)), (8, iD ((f4.length : Nat) : Int)), (9, iD z)], []⟩) ⟨_, f4, 0, _, (0 : Int), rfl, rfl, rfl, h, rfl⟩ ?_
 rintro σ n ⟨rem47, j46, _, v50, rfl, hrem47, rfl, h, hσ⟩
 refine kk hσ ?_
 intro t51 (ht51 : t51 = decide (((j46 : Nat) : Int) < ((f4.length : Nat) : Int)))
 cases t51
 obtain rfl := ll_nil hrem47 ht51
 rw [f76_Deep_L2] at h
 conv => whnf
 exact ⟨v50, sat_some h, rfl⟩
 obtain ⟨x49, tl48, rfl, hx49, htl48⟩ := ll_cons hrem47 ht51
 obtain ⟨a52, ⟨k53, n54, s55, f56⟩⟩ := x49
 rw [f76_Deep_L2] at h
 conv => whnf
 refine ⟨lx_bd hx49, fun uu57 huu57 => ?_⟩
 obtain rfl := lx_eq hx49 huu57
 refine kL [] (h76_Deep _ _ _ _ _ _ ?_ (sat_bind h))
 rintro v58 h
 conv => whnf
 exact ⟨tl48.length, nls, tl48, j46 + 1, _, (if v58 > v50 then v58 else v50), rfl, htl48, lx_wr hx49 hl33, h, rfl⟩
 rintro _ ⟨v31, h, rfl⟩
 replace h := hrR32 _ h
 exact kR [] (ND 0) (hQ _ (sat_some h))
theorem cg76_Deep {P : Program} {fid : Nat → FuncId} (mx : MX P) (k76_Deep : KF P fid 76 j76_Deep) : ∀ n, C76_Deep (SP P fid) (f76_Deep n) := by
 intro n
 induction n with
 | zero => exact fun a0 a1 a2 a3 Q R hQ h => (sat_none h).elim
 | succ n ih =>
  have ih0 := ih
  exact fun a0 a1 a2 a3 Q R hQ h => spec_of_vc mx k76_Deep (w76_Deep (f76_Deep n) ih0 a0 a1 a2 a3 Q R hQ h)
theorem c76_Deep {P : Program} {fid : Nat → FuncId} (mx : MX P) (k76_Deep : KF P fid 76 j76_Deep) : ∀ n, C76_Deep (SP P fid) (f76_Deep n) := fun n => (cg76_Deep mx k76_Deep n)
def f127_Scalar : Int → Option (Bool)
 | v1 => cond (decide (v1 ≥ 0)) (cond (decide (v1 ≤ 5)) (some true) (cond (v1 == 11) (some true) (some false))) (cond (v1 == 11) (some true) (some false))
def C127_Scalar (O : Oracle TT) (m : Int → Option (Bool)) : Prop :=
 ∀ (v1 : Int) (Q : Bool → Prop) (R : RR) (_ : ∀ (q6 : Bool), Q q6 → R (bD q6) []) (_ : sat (m v1) Q), O 127 [iD v1] [] R
def j127_Scalar : Fn TT := ⟨13, [.t 2], (.seq (.reg [qo 2 (.mv bF)]) (.seq (.reg [qo 3 (.mv 0),qo 4 (.bin .geq .num 3 (iC 0)),qo 5 (.mv 4),qg 5 6 (.mv 0),qg 5 7 (.bin .leq .num 6 (iC 5)),qo 8 (.pick 5 7 bF),qo 9 (.mv 8),qf 9 10 (.mv 0),qf 9 11 (.bin .eql .num 10 (iC 11)),qo 12 (.pick 9 bT 11),qo 2 (.mv 12)]) .ret))⟩
theorem w127_Scalar {O : Oracle TT} : C127_Scalar (fun _ => vcF (S := SS) O j127_Scalar) f127_Scalar := by
 intro v1 Q R hQ h
 unfold f127_Scalar at h
 refine ⟨nle rfl, rfl, ?_⟩
 refine kc h (fun h => ?_) fun h => ?_
 refine kc h (fun h => ?_) fun h => ?_
 exact kR [] (ND 0) (hQ _ (sat_some h))
 exact kR [] (ND 0) (hQ _ (sat_some h))
 refine kc h (fun h => ?_) fun h => ?_
 refine kc h (fun h => ?_) fun h => ?_
 exact kR [] (ND 0) (hQ _ (sat_some h))
 exact kR [] (ND 0) (hQ _ (sat_some h))
 exact kR [] (ND 0) (hQ _ (sat_some h))
theorem c127_Scalar {P : Program} {fid : Nat → FuncId} (mx : MX P) (k127_Scalar : KF P fid 127 j127_Scalar) : C127_Scalar (SP P fid) f127_Scalar :=
 fun a0 Q R hQ h => spec_of_vc mx k127_Scalar (w127_Scalar a0 Q R hQ h)
def f99_unused : V → Option (Bool)
 | .mk k1 n2 s3 f4 => sbind (ο := Bool) (cond (decide (k1 ≥ 1)) (cond (decide (k1 ≤ 4)) (some (.inr true)) (cond (k1 == 11) (some (.inr true)) (some (.inr false)))) (cond (k1 == 11) (some (.inr true)) (some (.inr false)))) (fun q9 => sbind (ο := Bool) (cond q9 (some (.inr false)) (cond (n2 != 0) (some (.inr true)) (some (.inr false)))) (fun q16 => sbind (ο := Bool) (cond q16 (some (.inr true)) (cond (k1 != 5) (cond (!(s3.toList == (⟨#[]⟩ : BA).toList)) (some (.inr true)) (some (.inr false))) (some (.inr false)))) (fun q21 => sbind (ο := Bool) (cond q21 (some (.inr true)) ((f127_Scalar k1).bind fun q30 => cond q30 (cond (decide (((f4.length : Nat) : Int) > 0)) (some (.inr true)) (some (.inr false))) (some (.inr false)))) (fun q28 => some q28))))
def C99_unused (O : Oracle TT) (m : V → Option (Bool)) : Prop :=
 ∀ (k1 : Int) (n2 : Int) (s3 : BA) (f4 : FV) (Q : Bool → Prop) (R : RR) (_ : ∀ (q33 : Bool), Q q33 → R (bD q33) []) (_ : sat (m (V.mk k1 n2 s3 f4)) Q), O 99 [.agg [ci k1, ci n2, .str s3, .isl .fld f4]] [] R
def j99_unused : Fn TT := ⟨45, [.t 2], (.seq (.reg [qo 1 (.box 1 0),qo 2 (.mv bF)]) (.cut [1, 3] [(.s 1)] (.reg [qo 4 (.fa 1 0),qo 5 (.load 4 1 false),qo 6 (.bin .geq .num 5 (iC 1)),qo 7 (.mv 6),qg 7 8 (.fa 1 0),qg 7 9 (.load 8 1 false),qg 7 10 (.bin .leq .num 9 (iC 4)),qo 11 (.pick 7 10 bF),qo 12 (.mv 11),qf 12 13 (.fa 1 0),qf 12 14 (.load 13 1 false),
 qf 12 15 (.bin .eql .num 14 (iC 11)),qo 16 (.pick 12 bT 15),qo 3 (.mv 16)]) (.seq (.regc [([qo 17 (.mv 3),qo 18 (.un .not 17),qo 19 (.mv 18),qg 19 20 (.fa 1 1),qg 19 21 (.load 20 1 false),qg 19 22 (.bin .neq .num 21 (iC 0)),qo 23 (.pick 19 22 bF)], [1, 23], [(.s 1)]), ([qo 24 (.mv 23),qf 24 25 (.fa 1 0),qf 24 26 (.load 25 1 false),qf 24 27 (.bin .neq .num 26 (iC 5)),qf 24 28 (.mv 27),
 qg 28 29 (.fa 1 2),qg 28 30 (.load 29 1 false),qg 28 31 (.bin .neq .str 30 sE),qf 24 32 (.pick 28 31 bF),qo 33 (.pick 24 bT 32)], [1, 33], [(.s 1)]), ([qo 34 (.mv 33),qf 34 35 (.fa 1 0),qf 34 36 (.load 35 1 false),qf 34 37 (.call 37 127 [36]),qf 34 38 (.mv 37),qg 38 39 (.fa 1 3),qg 38 40 (.load 39 1 false),qg 38 41 (.len false 40),qg 38 42 (.bin .gtr .num 41 (iC 0)),
 qf 34 43 (.pick 38 42 bF),qo 44 (.pick 34 bT 43)], [44], [])] [qo 2 (.mv 44)]) .ret)))⟩
theorem w99_unused {O : Oracle TT} (h127_Scalar : C127_Scalar O f127_Scalar) : C99_unused (fun _ => vcF (S := SS) O j99_unused) f99_unused := by
 intro k1 n2 s3 f4 Q R hQ h
 unfold f99_unused at h
 refine ⟨nle rfl, rfl, ?_⟩
 obtain ⟨R10, h, hlR10, hrR10⟩ := sat_sbind h
 refine kX (fun σ => ∃ (q9 : Bool), R10 (.inr q9) ∧ σ = ⟨[(1, pS 1), (3, bD q9)], [(.s 1, some (.var [ci k1, ci n2, .str s3, .isl .fld f4]))]⟩) ?_ ?_
 refine kc h (fun h => ?_) fun h => ?_
 refine kc h (fun h => ?_) fun h => ?_
 conv => whnf
 exact ⟨false, sat_some h, rfl⟩
 conv => whnf
 exact ⟨true, sat_some h, rfl⟩
 refine kc h (fun h => ?_) fun h => ?_
 refine kc h (fun h => ?_) fun h => ?_
 conv => whnf
 exact ⟨false, sat_some h, rfl⟩
 conv => whnf
 exact ⟨true, sat_some h, rfl⟩
 conv => whnf
 exact ⟨true, sat_some h, rfl⟩
 rintro _ ⟨q9, h, rfl⟩
 replace h := hrR10 _ h
 obtain ⟨R17, h, hlR17, hrR17⟩ := sat_sbind h
 refine kX (fun σ => ∃ (q16 : Bool), R17 (.inr q16) ∧ σ = ⟨[(1, pS 1), (23, bD q16)], [(.s 1, some (.var [ci k1, ci n2, .str s3, .isl .fld f4]))]⟩) ?_ ?_
 cases q9
 replace h := sat_cf h
 refine kc h (fun h => ?_) fun h => ?_
 conv => whnf
 exact ⟨false, sat_some h, rfl⟩
 conv => whnf
 exact ⟨true, sat_some h, rfl⟩
 replace h := sat_ct h
 conv => whnf
 exact ⟨false, sat_some h, rfl⟩
 rintro _ ⟨q16, h, rfl⟩
 replace h := hrR17 _ h
 obtain ⟨R22, h, hlR22, hrR22⟩ := sat_sbind h
 refine kX (fun σ => ∃ (q21 : Bool), R22 (.inr q21) ∧ σ = ⟨[(1, pS 1), (33, bD q21)], [(.s 1, some (.var [ci k1, ci n2, .str s3, .isl .fld f4]))]⟩) ?_ ?_
 cases q16
 replace h := sat_cf h
 refine kc h (fun h => ?_) fun h => ?_
 conv => whnf
 exact ⟨false, sat_some h, rfl⟩
 refine kc h (fun h => ?_) fun h => ?_
 conv => whnf
 exact ⟨false, sat_some h, rfl⟩
 conv => whnf
 exact ⟨true, sat_some h, rfl⟩
 replace h := sat_ct h
 conv => whnf
 exact ⟨true, sat_some h, rfl⟩
 rintro _ ⟨q21, h, rfl⟩
 replace h := hrR22 _ h
 obtain ⟨R29, h, hlR29, hrR29⟩ := sat_sbind h
 refine kX (fun σ => ∃ (q28 : Bool), R29 (.inr q28) ∧ σ = ⟨[(44, bD q28)], []⟩) ?_ ?_
 cases q21
 replace h := sat_cf h
 refine kL [] (h127_Scalar _ _ _ ?_ (sat_bind h))
 rintro q30 h
 cases q30
 replace h := sat_cf h
 conv => whnf
 exact ⟨false, sat_some h, rfl⟩
 replace h := sat_ct h
 intro hl31
 refine kc h (fun h => ?_) fun h => ?_
 conv => whnf
 exact ⟨false, sat_some h, rfl⟩
 conv => whnf
 exact ⟨true, sat_some h, rfl⟩
 replace h := sat_ct h
 conv => whnf
 exact ⟨true, sat_some h, rfl⟩
 rintro _ ⟨q28, h, rfl⟩
 replace h := hrR29 _ h
 exact kR [] (ND 0) (hQ _ (sat_some h))
theorem c99_unused {P : Program} {fid : Nat → FuncId} (mx : MX P) (k99_unused : KF P fid 99 j99_unused) (h127_Scalar : C127_Scalar (SP P fid) f127_Scalar) : C99_unused (SP P fid) f99_unused :=
 fun a0 a1 a2 a3 Q R hQ h => spec_of_vc mx k99_unused (w99_unused h127_Scalar a0 a1 a2 a3 Q R hQ h)
def f100_number : V → Option (Bool)
 | .mk k1 n2 s3 f4 => cond (k1 == 1) (cond (n2 == 0) (some true) (cond (n2 == 1) (some true) (some false))) (cond (k1 == 2) (cond (decide (n2 ≥ (-9007199254740992))) (cond (decide (n2 ≤ 9007199254740992)) (some true) (some false)) (some false)) (cond (k1 == 4) (cond (decide (n2 ≥ 0)) (cond (decide (n2 ≤ 4194304)) (some true) (some false)) (some false)) (cond (k1 == 11) (cond (decide (n2 ≥ 0)) (cond (decide (n2 ≤ 9007199254740992)) (some true) (some false)) (some false)) (some true))))
def C100_number (O : Oracle TT) (m : V → Option (Bool)) : Prop :=
 ∀ (k1 : Int) (n2 : Int) (s3 : BA) (f4 : FV) (Q : Bool → Prop) (R : RR) (_ : ∀ (q17 : Bool), Q q17 → R (bD q17) []) (_ : sat (m (V.mk k1 n2 s3 f4)) Q), O 100 [.agg [ci k1, ci n2, .str s3, .isl .fld f4]] [] R
def j100_number : Fn TT := ⟨45, [.t 2], (.seq (.reg [qo 1 (.box 1 0),qo 2 (.mv bF)]) (.seq (.seq (.reg [qo 3 (.fa 1 0),qo 4 (.load 3 1 false)]) (.block 0 (.seq (.reg [qo 6 (.bin .eql .num 4 (iC 1)),qo 5 (.mv 6)]) (.cond 5 (.seq (.reg [qo 7 (.fa 1 1),qo 8 (.load 7 1 false),qo 9 (.bin .eql .num 8 (iC 0)),qo 10 (.mv 9),qf 10 11 (.fa 1 1),qf 10 12 (.load 11 1 false),
 qf 10 13 (.bin .eql .num 12 (iC 1)),qo 14 (.pick 10 bT 13),qo 2 (.mv 14)]) .ret) (.seq (.reg [qo 16 (.bin .eql .num 4 (iC 2)),qo 15 (.mv 16)]) (.cond 15 (.seq (.reg [qo 17 (.fa 1 1),qo 18 (.load 17 1 false),qo 19 (.bin .geq .num 18 (iC (-9007199254740992))),qo 20 (.mv 19),qg 20 21 (.fa 1 1),qg 20 22 (.load 21 1 false),qg 20 23 (.bin .leq .num 22 (iC 9007199254740992)),
 qo 24 (.pick 20 23 bF),qo 2 (.mv 24)]) .ret) (.seq (.reg [qo 26 (.bin .eql .num 4 (iC 4)),qo 25 (.mv 26)]) (.cond 25 (.seq (.reg [qo 27 (.fa 1 1),qo 28 (.load 27 1 false),qo 29 (.bin .geq .num 28 (iC 0)),qo 30 (.mv 29),qg 30 31 (.fa 1 1),qg 30 32 (.load 31 1 false),qg 30 33 (.bin .leq .num 32 (iC 4194304)),qo 34 (.pick 30 33 bF),qo 2 (.mv 34)]) .ret) (.seq
 (.reg [qo 36 (.bin .eql .num 4 (iC 11)),qo 35 (.mv 36)]) (.cond 35 (.seq (.reg [qo 37 (.fa 1 1),qo 38 (.load 37 1 false),qo 39 (.bin .geq .num 38 (iC 0)),qo 40 (.mv 39),qg 40 41 (.fa 1 1),qg 40 42 (.load 41 1 false),qg 40 43 (.bin .leq .num 42 (iC 9007199254740992)),qo 44 (.pick 40 43 bF),qo 2 (.mv 44)]) .ret) .skip)))))))))) (.seq (.reg [qo 2 (.mv bT)]) .ret)))⟩
theorem w100_number {O : Oracle TT} : C100_number (fun _ => vcF (S := SS) O j100_number) f100_number := by
 intro k1 n2 s3 f4 Q R hQ h
 unfold f100_number at h
 refine ⟨nle rfl, rfl, ?_⟩
 refine kc h (fun h => ?_) fun h => ?_
 refine kc h (fun h => ?_) fun h => ?_
 refine kc h (fun h => ?_) fun h => ?_
 refine kc h (fun h => ?_) fun h => ?_
 exact kR [] (ND 0) (hQ _ (sat_some h))
 refine kc h (fun h => ?_) fun h => ?_
 exact kR [] (ND 0) (hQ _ (sat_some h))
 refine kc h (fun h => ?_) fun h => ?_
 exact kR [] (ND 0) (hQ _ (sat_some h))
 exact kR [] (ND 0) (hQ _ (sat_some h))
 refine kc h (fun h => ?_) fun h => ?_
 exact kR [] (ND 0) (hQ _ (sat_some h))
 refine kc h (fun h => ?_) fun h => ?_
 exact kR [] (ND 0) (hQ _ (sat_some h))
 exact kR [] (ND 0) (hQ _ (sat_some h))
 refine kc h (fun h => ?_) fun h => ?_
 exact kR [] (ND 0) (hQ _ (sat_some h))
 refine kc h (fun h => ?_) fun h => ?_
 exact kR [] (ND 0) (hQ _ (sat_some h))
 exact kR [] (ND 0) (hQ _ (sat_some h))
 refine kc h (fun h => ?_) fun h => ?_
 refine kc h (fun h => ?_) fun h => ?_
 exact kR [] (ND 0) (hQ _ (sat_some h))
 exact kR [] (ND 0) (hQ _ (sat_some h))
 exact kR [] (ND 0) (hQ _ (sat_some h))
theorem c100_number {P : Program} {fid : Nat → FuncId} (mx : MX P) (k100_number : KF P fid 100 j100_number) : C100_number (SP P fid) f100_number :=
 fun a0 a1 a2 a3 Q R hQ h => spec_of_vc mx k100_number (w100_number a0 a1 a2 a3 Q R hQ h)
def f129_keys_L2 (k1 : Int) (f4 : FV) : FV → Nat → Option (Sum (Int) (Unit))
 | [], j105 => some (.inr ())
 | ((a110, .mk k111 n112 s113 f114)) :: tl107, j105 => cond (k1 == 8) (cond (!(a110.toList == (⟨#[]⟩ : BA).toList)) (lft (some 3)) (cond (k1 == 8) (f129_keys_L2 k1 f4 tl107 (j105 + 1)) (cond (decide ((a110.size : Int) > 4000)) (lft (some 2)) (cond (decide (((j105 : Nat) : Int) > 0)) (getL f4 (wrap .i64 (((j105 : Nat) : Int) - 1)) fun uu136 => match uu136 with | (a131, .mk k132 n133 s134 f135) => cond ((Op.bytesLess a110.toList a131.toList || a110.toList == a131.toList)) (lft (some 9)) (f129_keys_L2 k1 f4 tl107 (j105 + 1))) (f129_keys_L2 k1 f4 tl107 (j105 + 1)))))) (cond (k1 == 8) (f129_keys_L2 k1 f4 tl107 (j105 + 1)) (cond (decide ((a110.size : Int) > 4000)) (lft (some 2)) (cond (decide (((j105 : Nat) : Int) > 0)) (getL f4 (wrap .i64 (((j105 : Nat) : Int) - 1)) fun uu125 => match uu125 with | (a120, .mk k121 n122 s123 f124) => cond ((Op.bytesLess a110.toList a120.toList || a110.toList == a120.toList)) (lft (some 9)) (f129_keys_L2 k1 f4 tl107 (j105 + 1))) (f129_keys_L2 k1 f4 tl107 (j105 + 1)))))
def f129_keys : V → Option (Int)
 | .mk k1 n2 s3 f4 => sbind (ο := Unit) (f129_keys_L2 k1 f4 f4 0) (fun () => some 0)
def C129_keys (O : Oracle TT) (m : V → Option (Int)) : Prop :=
 ∀ (k1 : Int) (n2 : Int) (s3 : BA) (f4 : FV) (Q : Int → Prop) (R : RR) (_ : ∀ (v138 : Int), Q v138 → R (iD v138) []) (_ : sat (m (V.mk k1 n2 s3 f4)) Q), O 129 [.agg [ci k1, ci n2, .str s3, .isl .fld f4]] [] R
def j129_keys : Fn TT := ⟨47, [.t 2], (.seq (.reg [qo 1 (.box 1 0),qo 2 (.mv (iC 0))]) (.cut [] [] (.seq (.reg [qo 5 (.fa 1 3),qo 6 (.load 5 1 false),qo 7 (.len false 6),qo 8 (.mv (iC 0))]) (.block 0 (.loop (.keep [1, 6, 7, 8] [(.s 1)] (.aft (.seq (.reg [qo 9 (.bin .lss .num 8 7)]) (.seq (.cond 9 .skip (.exit 0)) (.seq (.block 1 (.seq (.reg [qo 10 (.mv 8),qo 11 (.idxA 6 8 5),
 qo 12 (.load 11 5 true),qo 4 (.alloc 4 zFd),qo 3 (.mv 10),qp (.store 4 12 5)]) (.block 2 (.seq (.reg [qo 14 (.fa 1 0),qo 15 (.load 14 1 false),qo 16 (.bin .eql .num 15 (iC 8)),qo 17 (.mv 16),qg 17 18 (.fa 4 0),qg 17 19 (.load 18 1 false),qg 17 20 (.bin .neq .str 19 sE),qo 21 (.pick 17 20 bF),qo 13 (.mv 21)]) (.cond 13 (.seq (.reg [qo 2 (.mv (iC 3))]) .ret) (.seq (.reg [qo 23 (.fa 1 0),
 qo 24 (.load 23 1 false),qo 25 (.bin .eql .num 24 (iC 8)),qo 22 (.mv 25)]) (.cond 22 .skip (.seq (.reg [qo 27 (.fa 4 0),qo 28 (.load 27 1 false),qo 29 (.len true 28),qo 30 (.bin .gtr .num 29 (iC 4000)),qo 26 (.mv 30)]) (.cond 26 (.seq (.reg [qo 2 (.mv (iC 2))]) .ret) (.seq (.drw [] (oR 15) [] (List.range 15) [qo 32 (.mv 3),qo 33 (.bin .gtr .num 32 (iC 0)),qo 34 (.mv 33),
 qg 34 35 (.fa 4 0),qg 34 36 (.load 35 1 false),qg 34 37 (.fa 1 3),qg 34 38 (.load 37 1 false),qg 34 39 (.mv 3),qg 34 40 (.bin .sub .num 39 (iC 1)),qg 34 41 (.idxA 38 40 5),qg 34 42 (.fa 41 0),qg 34 43 (.load 42 1 false),qg 34 44 (.bin .leq .str 36 43),qo 45 (.pick 34 44 bF),qo 31 (.mv 45)]) (.cond 31 (.seq (.reg [qo 2 (.mv (iC 9))]) .ret) .skip)))))))))))
 (.reg [qo 46 (.bin .add .num 8 (iC 1)),qo 8 (.mv 46)])))) [.keep [1, 6, 7, 8] [(.s 1)]]))))) (.seq (.reg [qo 2 (.mv (iC 0))]) .ret)))⟩
theorem w129_keys {O : Oracle TT} : C129_keys (fun _ => vcF (S := SS) O j129_keys) f129_keys := by
 intro k1 n2 s3 f4 Q R hQ h
 unfold f129_keys at h
 refine ⟨nle rfl, rfl, ?_⟩
 obtain ⟨R71, h, hlR71, hrR71⟩ := sat_sbind h
 refine kX (fun σ => R71 (.inr ()) ∧ σ = ⟨[], []⟩) ?_ ?_
 intro hl72
 refine kX (fun σ n => ∃ (rem106 : FV) (j105 : Nat) (z : Int), n = rem106.length ∧ f4.drop j105 = rem106 ∧ z = ((j105 : Nat) : Int) ∧ sat (f129_keys_L2 k1 f4 rem106 j105) R71 ∧ σ.keep [1, 6, 7, 8] [(.s 1)] = ⟨[(1, pS 1), (6, .c (.isl .fld f4)), (7, iD ((f4.length : Nat) : Int)), (8, iD z)], [(.s 1, some (.var [ci k1, ci n2, .str s3, .isl .fld f4]))]⟩) ⟨_, f4, 0, _, rfl, rfl, rfl, h, rfl⟩ ?_
 rintro σ n ⟨rem106, j105, _, rfl, hrem106, rfl, h, hσ⟩
 refine kk hσ ?_
 intro t109 (ht109 : t109 = decide (((j105 : Nat) : Int) < ((f4.length : Nat) : Int)))
 cases t109
 obtain rfl := ll_nil hrem106 ht109
 rw [f129_keys_L2] at h
 conv => whnf
 exact ⟨sat_some h, rfl⟩
 obtain ⟨x108, tl107, rfl, hx108, htl107⟩ := ll_cons hrem106 ht109
 obtain ⟨a110, ⟨k111, n112, s113, f114⟩⟩ := x108
 rw [f129_keys_L2] at h
 conv => whnf
 refine ⟨lx_bd hx108, fun uu115 huu115 => ?_⟩
 obtain rfl := lx_eq hx108 huu115
 refine kc h (fun h => ?_) fun h => ?_
 refine kc h (fun h => ?_) fun h => ?_
 refine kc h (fun h => ?_) fun h => ?_
 refine kc h (fun h => ?_) fun h => ?_
 conv => whnf
 exact ⟨tl107.length, nls, tl107, j105 + 1, _, rfl, htl107, lx_wr hx108 hl72, h, rfl⟩
 refine kg (sat_getL h) fun uu125 huu125 h => ?_
 obtain ⟨a120, ⟨k121, n122, s123, f124⟩⟩ := uu125
 refine kc h (fun h => ?_) fun h => ?_
 conv => whnf
 exact ⟨tl107.length, nls, tl107, j105 + 1, _, rfl, htl107, lx_wr hx108 hl72, h, rfl⟩
 replace h := sat_lft hlR71 h
 exact kR [] (ND 0) (hQ _ (sat_some h))
 replace h := sat_lft hlR71 h
 exact kR [] (ND 0) (hQ _ (sat_some h))
 conv => whnf
 exact ⟨tl107.length, nls, tl107, j105 + 1, _, rfl, htl107, lx_wr hx108 hl72, h, rfl⟩
 refine kc h (fun h => ?_) fun h => ?_
 refine kc h (fun h => ?_) fun h => ?_
 refine kc h (fun h => ?_) fun h => ?_
 refine kc h (fun h => ?_) fun h => ?_
 conv => whnf
 exact ⟨tl107.length, nls, tl107, j105 + 1, _, rfl, htl107, lx_wr hx108 hl72, h, rfl⟩
 refine kg (sat_getL h) fun uu136 huu136 h => ?_
 obtain ⟨a131, ⟨k132, n133, s134, f135⟩⟩ := uu136
 refine kc h (fun h => ?_) fun h => ?_
 conv => whnf
 exact ⟨tl107.length, nls, tl107, j105 + 1, _, rfl, htl107, lx_wr hx108 hl72, h, rfl⟩
 replace h := sat_lft hlR71 h
 exact kR [] (ND 0) (hQ _ (sat_some h))
 replace h := sat_lft hlR71 h
 exact kR [] (ND 0) (hQ _ (sat_some h))
 conv => whnf
 exact ⟨tl107.length, nls, tl107, j105 + 1, _, rfl, htl107, lx_wr hx108 hl72, h, rfl⟩
 replace h := sat_lft hlR71 h
 exact kR [] (ND 0) (hQ _ (sat_some h))
 rintro _ ⟨h, rfl⟩
 replace h := hrR71 _ h
 exact kR [] (ND 0) (hQ _ (sat_some h))
theorem c129_keys {P : Program} {fid : Nat → FuncId} (mx : MX P) (k129_keys : KF P fid 129 j129_keys) : C129_keys (SP P fid) f129_keys :=
 fun a0 a1 a2 a3 Q R hQ h => spec_of_vc mx k129_keys (w129_keys a0 a1 a2 a3 Q R hQ h)
def f132_Name_L2 : LI → Nat → Option (Sum (Bool) (Unit))
 | [], j80 => some (.inr ())
 | c85 :: tl82, j80 => sbind (ο := Bool) (cond (decide (c85 ≥ 97)) (cond (decide (c85 ≤ 122)) (some (.inr true)) (some (.inr false))) (some (.inr false))) (fun q89 => sbind (ο := Bool) (cond q89 (some (.inr true)) (cond (decide (c85 ≥ 48)) (cond (decide (c85 ≤ 57)) (some (.inr true)) (some (.inr false))) (some (.inr false)))) (fun q95 => sbind (ο := Bool) (cond q95 (some (.inr true)) (cond (c85 == 45) (some (.inr true)) (some (.inr false)))) (fun q100 => cond q100 (f132_Name_L2 tl82 (j80 + 1)) (lft (some false)))))
def f132_Name : BA → Option (Bool)
 | s1 => cond (s1.toList == (⟨#[]⟩ : BA).toList) (some false) (cond (decide ((s1.size : Int) > 16)) (some false) (getB s1 0 fun c4 => cond (decide ((c4.toNat : Int) < 97)) (some false) (getB s1 0 fun c6 => cond (decide ((c6.toNat : Int) > 122)) (some false) (sbind (ο := Unit) (grdP ((s1.size : Nat) ≤ 9223372036854775807) (f132_Name_L2 (bytesJ s1) 0)) (fun () => some true)))))
def C132_Name (O : Oracle TT) (m : BA → Option (Bool)) : Prop :=
 ∀ (s1 : BA) (Q : Bool → Prop) (R : RR) (_ : ∀ (q103 : Bool), Q q103 → R (bD q103) []) (_ : sat (m s1) Q), O 132 [sD s1] [] R
def j132_Name : Fn TT := ⟨49, [.t 2], (.seq (.reg [qo 2 (.mv bF)]) (.seq (.seq (.reg [qo 5 (.mv 0),qo 6 (.bin .eql .str 5 sE),qo 7 (.mv 6),qf 7 8 (.mv 0),qf 7 9 (.len true 8),qf 7 10 (.bin .gtr .num 9 (iC 16)),qo 11 (.pick 7 bT 10),qo 12 (.mv 11),qf 12 13 (.mv 0),qf 12 14 (.idxS 13 (iC 0)),qf 12 15 (.bin .lss .num 14 (.c (.int .u8 97))),qo 16 (.pick 12 bT 15),qo 17 (.mv 16),
 qf 17 18 (.mv 0),qf 17 19 (.idxS 18 (iC 0)),qf 17 20 (.bin .gtr .num 19 (.c (.int .u8 122))),qo 21 (.pick 17 bT 20)]) (.cond 21 (.seq (.reg [qo 2 (.mv bF)]) .ret) .skip)) (.cut [] [] (.seq (.reg [qo 22 (.mv 0),qo 23 (.s2b 22),qo 24 (.len false 23),qo 25 (.mv (iC 0))]) (.block 0 (.loop (.keep [23, 24, 25] [] (.aft (.seq (.reg [qo 26 (.bin .lss .num 25 24)]) (.seq (.cond 26 .skip (.exit 0))
 (.seq (.block 1 (.seq (.reg [qo 27 (.idxA 23 25 1),qo 28 (.load 27 1 false),qo 4 (.mv 28)]) (.seq (.regc [([qo 29 (.mv 4),qo 30 (.bin .geq .num 29 (.c (.int .u8 97))),qo 31 (.mv 30),qg 31 32 (.mv 4),qg 31 33 (.bin .leq .num 32 (.c (.int .u8 122))),qo 34 (.pick 31 33 bF)], [4, 23, 24, 25, 34], []), ([qo 35 (.mv 34),qf 35 36 (.mv 4),qf 35 37 (.bin .geq .num 36 (.c (.int .u8 48))),
 qf 35 38 (.mv 37),qg 38 39 (.mv 4),qg 38 40 (.bin .leq .num 39 (.c (.int .u8 57))),qf 35 41 (.pick 38 40 bF),qo 42 (.pick 35 bT 41)], [4, 23, 24, 25, 42], []), ([qo 43 (.mv 42),qf 43 44 (.mv 4),qf 43 45 (.bin .eql .num 44 (.c (.int .u8 45))),qo 46 (.pick 43 bT 45)], [23, 24, 25, 46], [])] [qo 47 (.un .not 46)]) (.cond 47 (.seq (.reg [qo 2 (.mv bF)]) .ret) .skip))))
 (.reg [qo 48 (.bin .add .num 25 (iC 1)),qo 25 (.mv 48)])))) [.keep [23, 24, 25] []]))))) (.seq (.reg [qo 2 (.mv bT)]) .ret))))⟩
theorem w132_Name {O : Oracle TT} : C132_Name (fun _ => vcF (S := SS) O j132_Name) f132_Name := by
 intro s1 Q R hQ h
 unfold f132_Name at h
 refine ⟨nle rfl, rfl, ?_⟩
 refine kc h (fun h => ?_) fun h => ?_
 refine kc h (fun h => ?_) fun h => ?_
 refine kg (sat_getB h) fun c4 hc4 h => ?_
 refine kc h (fun h => ?_) fun h => ?_
 refine kg (sat_getB h) fun c6 hc6 h => ?_
 refine kc h (fun h => ?_) fun h => ?_
 obtain ⟨R55, h, hlR55, hrR55⟩ := sat_sbind h
 refine kX (fun σ => R55 (.inr ()) ∧ σ = ⟨[], []⟩) ?_ ?_
 refine kp h fun hb56 h => ?_
 intro hl57
 refine kX (fun σ n => ∃ (rem81 : LI) (j80 : Nat) (z : Int), n = rem81.length ∧ (bytesJ s1).drop j80 = rem81 ∧ z = ((j80 : Nat) : Int) ∧ sat (f132_Name_L2 rem81 j80) R55 ∧ σ.keep [23, 24, 25] [] = ⟨[(23, .c (.isl .u8 (bytesJ s1))), (24, iD (((bytesJ s1).length : Nat) : Int)), (25, iD z)], []⟩) ⟨_, (bytesJ s1), 0, _, rfl, rfl, rfl, h, rfl⟩ ?_
 rintro σ n ⟨rem81, j80, _, rfl, hrem81, rfl, h, hσ⟩
 refine kk hσ ?_
 intro t84 (ht84 : t84 = decide (((j80 : Nat) : Int) < (((bytesJ s1).length : Nat) : Int)))
 cases t84
 obtain rfl := ll_nil hrem81 ht84
 rw [f132_Name_L2] at h
 conv => whnf
 exact ⟨sat_some h, rfl⟩
 obtain ⟨c85, tl82, rfl, hx83, htl82⟩ := ll_cons hrem81 ht84
 rw [f132_Name_L2] at h
 conv => whnf
 refine ⟨lx_bd hx83, fun uu86 huu86 => ?_⟩
 obtain rfl := lx_eq hx83 huu86
 obtain ⟨R90, h, hlR90, hrR90⟩ := sat_sbind h
 refine kX (fun σ => ∃ (q89 : Bool), R90 (.inr q89) ∧ σ = ⟨[(4, .c (.int .u8 c85)), (23, .c (.isl .u8 (bytesJ s1))), (24, iD (((bytesJ s1).length : Nat) : Int)), (25, iD ((j80 : Nat) : Int)), (34, bD q89)], []⟩) ?_ ?_
 refine kc h (fun h => ?_) fun h => ?_
 conv => whnf
 exact ⟨false, sat_some h, rfl⟩
 refine kc h (fun h => ?_) fun h => ?_
 conv => whnf
 exact ⟨false, sat_some h, rfl⟩
 conv => whnf
 exact ⟨true, sat_some h, rfl⟩
 rintro _ ⟨q89, h, rfl⟩
 replace h := hrR90 _ h
 obtain ⟨R96, h, hlR96, hrR96⟩ := sat_sbind h
 refine kX (fun σ => ∃ (q95 : Bool), R96 (.inr q95) ∧ σ = ⟨[(4, .c (.int .u8 c85)), (23, .c (.isl .u8 (bytesJ s1))), (24, iD (((bytesJ s1).length : Nat) : Int)), (25, iD ((j80 : Nat) : Int)), (42, bD q95)], []⟩) ?_ ?_
 cases q89
 replace h := sat_cf h
 refine kc h (fun h => ?_) fun h => ?_
 conv => whnf
 exact ⟨false, sat_some h, rfl⟩
 refine kc h (fun h => ?_) fun h => ?_
 conv => whnf
 exact ⟨false, sat_some h, rfl⟩
 conv => whnf
 exact ⟨true, sat_some h, rfl⟩
 replace h := sat_ct h
 conv => whnf
 exact ⟨true, sat_some h, rfl⟩
 rintro _ ⟨q95, h, rfl⟩
 replace h := hrR96 _ h
 obtain ⟨R101, h, hlR101, hrR101⟩ := sat_sbind h
 refine kX (fun σ => ∃ (q100 : Bool), R101 (.inr q100) ∧ σ = ⟨[(23, .c (.isl .u8 (bytesJ s1))), (24, iD (((bytesJ s1).length : Nat) : Int)), (25, iD ((j80 : Nat) : Int)), (46, bD q100)], []⟩) ?_ ?_
 cases q95
 replace h := sat_cf h
 refine kc h (fun h => ?_) fun h => ?_
 conv => whnf
 exact ⟨false, sat_some h, rfl⟩
 conv => whnf
 exact ⟨true, sat_some h, rfl⟩
 replace h := sat_ct h
 conv => whnf
 exact ⟨true, sat_some h, rfl⟩
 rintro _ ⟨q100, h, rfl⟩
 replace h := hrR101 _ h
 cases q100
 replace h := sat_cf h
 replace h := sat_lft hlR55 h
 exact kR [] (ND 0) (hQ _ (sat_some h))
 replace h := sat_ct h
 conv => whnf
 exact ⟨tl82.length, nls, tl82, j80 + 1, _, rfl, htl82, lx_wr hx83 hl57, h, rfl⟩
 rintro _ ⟨h, rfl⟩
 replace h := hrR55 _ h
 exact kR [] (ND 0) (hQ _ (sat_some h))
 exact kR [] (ND 0) (hQ _ (sat_some h))
 exact kR [] (ND 0) (hQ _ (sat_some h))
 exact kR [] (ND 0) (hQ _ (sat_some h))
 exact kR [] (ND 0) (hQ _ (sat_some h))
theorem c132_Name {P : Program} {fid : Nat → FuncId} (mx : MX P) (k132_Name : KF P fid 132 j132_Name) : C132_Name (SP P fid) f132_Name :=
 fun a0 Q R hQ h => spec_of_vc mx k132_Name (w132_Name a0 Q R hQ h)
def f152_1 : (BA × V) → BA → Int → Int → BA → FV → Option (Bool)
 | (a1, .mk k2 n3 s4 f5), s6, v7, v8, s9, l10 => cond (a1.toList == s6.toList) (some true) (some false)
def C152_1 (O : Oracle TT) (m : (BA × V) → BA → Int → Int → BA → FV → Option (Bool)) : Prop :=
 ∀ (a1 : BA) (k2 : Int) (n3 : Int) (s4 : BA) (f5 : FV) (s6 : BA) (v7 : Int) (v8 : Int) (s9 : BA) (l10 : FV) (Q : Bool → Prop) (R : RR) (_ : ∀ (q12 : Bool), Q q12 → R (bD q12) [(.x 0, some (.var [.str s6, ci v7, ci v8, .str s9, .isl .fld l10]))]) (_ : sat (m (a1, (V.mk k2 n3 s4 f5)) s6 v7 v8 s9 l10) Q), O 152 [.agg [.str a1, ci k2, ci n3, .str s4, .isl .fld f5], pX 0] [(.x 0, some (.var [.str s6, ci v7, ci v8, .str s9, .isl .fld l10]))] R
def j152_1 : Fn TT := ⟨9, [.t 3], (.seq (.reg [qo 2 (.box 2 0),qo 3 (.mv bF)]) (.seq (.reg [qo 4 (.fa 2 0),qo 5 (.load 4 1 false),qo 6 (.fa 1 0),qo 7 (.load 6 1 false),qo 8 (.bin .eql .str 5 7),qo 3 (.mv 8)]) .ret))⟩
theorem w152_1 {O : Oracle TT} : C152_1 (fun _ => vcF (S := SS) O j152_1) f152_1 := by
 intro a1 k2 n3 s4 f5 s6 v7 v8 s9 l10 Q R hQ h
 unfold f152_1 at h
 refine ⟨nle rfl, rfl, ?_⟩
 refine kc h (fun h => ?_) fun h => ?_
 exact kR [] (ND 1) (hQ _ (sat_some h))
 exact kR [] (ND 1) (hQ _ (sat_some h))
theorem c152_1 {P : Program} {fid : Nat → FuncId} (mx : MX P) (k152_1 : KF P fid 152 j152_1) : C152_1 (SP P fid) f152_1 :=
 fun a0 a1 a2 a3 a4 a5 a6 a7 a8 a9 Q R hQ h => spec_of_vc mx k152_1 (w152_1 a0 a1 a2 a3 a4 a5 a6 a7 a8 a9 Q R hQ h)
def f163_IndexFunc_L2 (s2 : BA) (v3 : Int) (v4 : Int) (s5 : BA) (l6 : FV) : FV → Nat → Option (Sum (Int) (Unit))
 | [], j44 => some (.inr ())
 | ((a49, .mk k50 n51 s52 f53)) :: tl46, j44 => (f152_1 (a49, (V.mk k50 n51 s52 f53)) s2 v3 v4 s5 l6).bind fun q55 => cond q55 (lft (some ((j44 : Nat) : Int))) (f163_IndexFunc_L2 s2 v3 v4 s5 l6 tl46 (j44 + 1))
def f163_IndexFunc : FV → BA → Int → Int → BA → FV → Option (Int)
 | l1, s2, v3, v4, s5, l6 => sbind (ο := Unit) (f163_IndexFunc_L2 s2 v3 v4 s5 l6 l1 0) (fun () => some (-1))
def C163_IndexFunc (O : Oracle TT) (m : FV → BA → Int → Int → BA → FV → Option (Int)) : Prop :=
 ∀ (l1 : FV) (s2 : BA) (v3 : Int) (v4 : Int) (s5 : BA) (l6 : FV) (Q : Int → Prop) (R : RR) (_ : ∀ (v56 : Int), Q v56 → R (iD v56) [(.x 0, some (.var [.str s2, ci v3, ci v4, .str s5, .isl .fld l6]))]) (_ : sat (m l1 s2 v3 v4 s5 l6) Q), O 163 [.c (.isl .fld l1), .c (.fn 152 [(.x 0)])] [(.x 0, some (.var [.str s2, ci v3, ci v4, .str s5, .isl .fld l6]))] R
def j163_IndexFunc : Fn TT := ⟨19, [.t 4], (.seq (.reg [qo 4 (.mv (iC 0))]) (.cut [] [(.x 0)] (.seq (.reg [qo 6 (.mv 0),qo 7 (.len false 6),qo 8 (.mv (iC 0))]) (.block 0 (.loop (.keep [0, 1, 7, 8] [(.x 0)] (.aft (.seq (.reg [qo 9 (.bin .lss .num 8 7)]) (.seq (.cond 9 .skip (.exit 0)) (.seq (.block 1 (.seq (.reg [qo 10 (.mv 8),qo 5 (.mv 10)]) (.seq (.reg [qo 11 (.mv 1),qo 12 (.mv 0),
 qo 13 (.mv 5),qo 14 (.idxA 12 13 5),qo 15 (.load 14 5 true),qo 16 (.callv 16 11 [15])]) (.cond 16 (.seq (.reg [qo 17 (.mv 5),qo 4 (.mv 17)]) .ret) .skip)))) (.reg [qo 18 (.bin .add .num 8 (iC 1)),qo 8 (.mv 18)])))) [.keep [0, 1, 7, 8] [(.x 0)]]))))) (.seq (.reg [qo 4 (.mv (iC (-1)))]) .ret)))⟩
theorem w163_IndexFunc {O : Oracle TT} (h152_1 : C152_1 O f152_1) : C163_IndexFunc (fun _ => vcF (S := SS) O j163_IndexFunc) f163_IndexFunc := by
 intro l1 s2 v3 v4 s5 l6 Q R hQ h
 unfold f163_IndexFunc at h
 refine ⟨nle rfl, rfl, ?_⟩
 obtain ⟨R31, h, hlR31, hrR31⟩ := sat_sbind h
 refine kX (fun σ => R31 (.inr ()) ∧ σ = ⟨[], [(.x 0, some (.var [.str s2, ci v3, ci v4, .str s5, .isl .fld l6]))]⟩) ?_ ?_
 intro hl32
 refine kX (fun σ n => ∃ (rem45 : FV) (j44 : Nat) (z : Int), n = rem45.length ∧ l1.drop j44 = rem45 ∧ z = ((j44 : Nat) : Int) ∧ sat (f163_IndexFunc_L2 s2 v3 v4 s5 l6 rem45 j44) R31 ∧ σ.keep [0, 1, 7, 8] [(.x 0)] = ⟨[(0, .c (.isl .fld l1)), (1, .c (.fn 152 [(.x 0)])), (7, iD ((l1.length : Nat) : Int)), (8, iD z)], [(.x 0, some (.var [.str s2, ci v3, ci v4, .str s5, .isl .fld l6]))]⟩) ⟨_, l1, 0, _, rfl, rfl, rfl, h, rfl⟩ ?_
 rintro σ n ⟨rem45, j44, _, rfl, hrem45, rfl, h, hσ⟩
 refine kk hσ ?_
 intro t48 (ht48 : t48 = decide (((j44 : Nat) : Int) < ((l1.length : Nat) : Int)))
 cases t48
 obtain rfl := ll_nil hrem45 ht48
 rw [f163_IndexFunc_L2] at h
 conv => whnf
 exact ⟨sat_some h, rfl⟩
 obtain ⟨x47, tl46, rfl, hx47, htl46⟩ := ll_cons hrem45 ht48
 obtain ⟨a49, ⟨k50, n51, s52, f53⟩⟩ := x47
 rw [f163_IndexFunc_L2] at h
 conv => whnf
 refine ⟨lx_bd hx47, fun uu54 huu54 => ?_⟩
 obtain rfl := lx_eq hx47 huu54
 refine kL [(.x 0)] (h152_1 _ _ _ _ _ _ _ _ _ _ _ _ ?_ (sat_bind h))
 rintro q55 h
 cases q55
 replace h := sat_cf h
 conv => whnf
 exact ⟨tl46.length, nls, tl46, j44 + 1, _, rfl, htl46, lx_wr hx47 hl32, h, rfl⟩
 replace h := sat_ct h
 replace h := sat_lft hlR31 h
 exact kR [] (ND 1) (hQ _ (sat_some h))
 rintro _ ⟨h, rfl⟩
 replace h := hrR31 _ h
 exact kR [] (ND 1) (hQ _ (sat_some h))
theorem c163_IndexFunc {P : Program} {fid : Nat → FuncId} (mx : MX P) (k163_IndexFunc : KF P fid 163 j163_IndexFunc) (h152_1 : C152_1 (SP P fid) f152_1) : C163_IndexFunc (SP P fid) f163_IndexFunc :=
 fun a0 a1 a2 a3 a4 a5 Q R hQ h => spec_of_vc mx k163_IndexFunc (w163_IndexFunc h152_1 a0 a1 a2 a3 a4 a5 Q R hQ h)
def f151_ContainsFunc : FV → BA → Int → Int → BA → FV → Option (Bool)
 | l1, s2, v3, v4, s5, l6 => (f163_IndexFunc l1 s2 v3 v4 s5 l6).bind fun v7 => cond (decide (v7 ≥ 0)) (some true) (some false)
def C151_ContainsFunc (O : Oracle TT) (m : FV → BA → Int → Int → BA → FV → Option (Bool)) : Prop :=
 ∀ (l1 : FV) (s2 : BA) (v3 : Int) (v4 : Int) (s5 : BA) (l6 : FV) (Q : Bool → Prop) (R : RR) (_ : ∀ (q9 : Bool), Q q9 → R (bD q9) [(.x 0, some (.var [.str s2, ci v3, ci v4, .str s5, .isl .fld l6]))]) (_ : sat (m l1 s2 v3 v4 s5 l6) Q), O 151 [.c (.isl .fld l1), .c (.fn 152 [(.x 0)])] [(.x 0, some (.var [.str s2, ci v3, ci v4, .str s5, .isl .fld l6]))] R
def j151_ContainsFunc : Fn TT := ⟨9, [.t 4], (.seq (.reg [qo 4 (.mv bF)]) (.seq (.reg [qo 5 (.mv 0),qo 6 (.mv 1),qo 7 (.call 7 163 [5, 6]),qo 8 (.bin .geq .num 7 (iC 0)),qo 4 (.mv 8)]) .ret))⟩
theorem w151_ContainsFunc {O : Oracle TT} (h163_IndexFunc : C163_IndexFunc O f163_IndexFunc) : C151_ContainsFunc (fun _ => vcF (S := SS) O j151_ContainsFunc) f151_ContainsFunc := by
 intro l1 s2 v3 v4 s5 l6 Q R hQ h
 unfold f151_ContainsFunc at h
 refine ⟨nle rfl, rfl, ?_⟩
 refine kL [(.x 0)] (h163_IndexFunc _ _ _ _ _ _ _ _ ?_ (sat_bind h))
 rintro v7 h
 refine kc h (fun h => ?_) fun h => ?_
 exact kR [] (ND 1) (hQ _ (sat_some h))
 exact kR [] (ND 1) (hQ _ (sat_some h))
theorem c151_ContainsFunc {P : Program} {fid : Nat → FuncId} (mx : MX P) (k151_ContainsFunc : KF P fid 151 j151_ContainsFunc) (h163_IndexFunc : C163_IndexFunc (SP P fid) f163_IndexFunc) : C151_ContainsFunc (SP P fid) f151_ContainsFunc :=
 fun a0 a1 a2 a3 a4 a5 Q R hQ h => spec_of_vc mx k151_ContainsFunc (w151_ContainsFunc h163_IndexFunc a0 a1 a2 a3 a4 a5 Q R hQ h)
def f128_names_L2 (l1 : FV) : FV → Nat → Option (Sum (Int) (Unit))
 | [], j48 => some (.inr ())
 | ((a53, .mk k54 n55 s56 f57)) :: tl50, j48 => (f132_Name a53).bind fun q59 => cond q59 (grdP ((0 : Int) ≤ ((j48 : Nat) : Int) ∧ 0 ≤ ((j48 : Nat) : Int).toNat ∧ ((j48 : Nat) : Int).toNat ≤ l1.length) ((f151_ContainsFunc ((l1.drop 0).take (((j48 : Nat) : Int).toNat - 0)) a53 k54 n55 s56 f57).bind fun q62 => cond q62 (lft (some 5)) (f128_names_L2 l1 tl50 (j48 + 1)))) (lft (some 15))
def f128_names : FV → Option (Int)
 | l1 => sbind (ο := Unit) (f128_names_L2 l1 l1 0) (fun () => some 0)
def C128_names (O : Oracle TT) (m : FV → Option (Int)) : Prop :=
 ∀ (l1 : FV) (Q : Int → Prop) (R : RR) (_ : ∀ (v63 : Int), Q v63 → R (iD v63) []) (_ : sat (m l1) Q), O 128 [.c (.isl .fld l1)] [] R
def j128_names : Fn TT := ⟨22, [.t 2], (.seq (.reg [qo 2 (.mv (iC 0))]) (.cut [] [] (.seq (.reg [qo 5 (.mv 0),qo 6 (.len false 5),qo 7 (.mv (iC 0))]) (.block 0 (.loop (.keep [0, 5, 6, 7] [] (.aft (.seq (.reg [qo 8 (.bin .lss .num 7 6)]) (.seq (.cond 8 .skip (.exit 0)) (.seq (.block 1 (.seq (.reg [qo 9 (.mv 7),qo 10 (.idxA 5 7 5),qo 11 (.load 10 5 true),qo 4 (.alloc 4 zFd),qo 3 (.mv 9),
 qp (.store 4 11 5)]) (.seq (.seq (.reg [qo 12 (.fa 4 0),qo 13 (.load 12 1 false),qo 14 (.call 14 132 [13]),qo 15 (.un .not 14)]) (.cond 15 (.seq (.reg [qo 2 (.mv (iC 15))]) .ret) .skip)) (.seq (.reg [qo 16 (.mv 0),qo 17 (.mv 3),qo 18 (.slc 5 16 none (some 17)),qo 19 (.mkf 152 [4]),qo 20 (.call 20 151 [18, 19])]) (.cond 20 (.seq (.reg [qo 2 (.mv (iC 5))]) .ret) .skip)))))
 (.reg [qo 21 (.bin .add .num 7 (iC 1)),qo 7 (.mv 21)])))) [.keep [0, 5, 6, 7] []]))))) (.seq (.reg [qo 2 (.mv (iC 0))]) .ret)))⟩
theorem w128_names {O : Oracle TT} (h132_Name : C132_Name O f132_Name) (h151_ContainsFunc : C151_ContainsFunc O f151_ContainsFunc) : C128_names (fun _ => vcF (S := SS) O j128_names) f128_names := by
 intro l1 Q R hQ h
 unfold f128_names at h
 refine ⟨nle rfl, rfl, ?_⟩
 obtain ⟨R32, h, hlR32, hrR32⟩ := sat_sbind h
 refine kX (fun σ => R32 (.inr ()) ∧ σ = ⟨[], []⟩) ?_ ?_
 intro hl33
 refine kX (fun σ n => ∃ (rem49 : FV) (j48 : Nat) (z : Int), n = rem49.length ∧ l1.drop j48 = rem49 ∧ z = ((j48 : Nat) : Int) ∧ sat (f128_names_L2 l1 rem49 j48) R32 ∧ σ.keep [0, 5, 6, 7] [] = ⟨[(0, .c (.isl .fld l1)), (5, .c (.isl .fld l1)), (6, iD ((l1.length : Nat) : Int)), (7, iD z)], []⟩) ⟨_, l1, 0, _, rfl, rfl, rfl, h, rfl⟩ ?_
 rintro σ n ⟨rem49, j48, _, rfl, hrem49, rfl, h, hσ⟩
 refine kk hσ ?_
 intro t52 (ht52 : t52 = decide (((j48 : Nat) : Int) < ((l1.length : Nat) : Int)))
 cases t52
 obtain rfl := ll_nil hrem49 ht52
 rw [f128_names_L2] at h
 conv => whnf
 exact ⟨sat_some h, rfl⟩
 obtain ⟨x51, tl50, rfl, hx51, htl50⟩ := ll_cons hrem49 ht52
 obtain ⟨a53, ⟨k54, n55, s56, f57⟩⟩ := x51
 rw [f128_names_L2] at h
 conv => whnf
 refine ⟨lx_bd hx51, fun uu58 huu58 => ?_⟩
 obtain rfl := lx_eq hx51 huu58
 refine kL [] (h132_Name _ _ _ ?_ (sat_bind h))
 rintro q59 h
 cases q59
 replace h := sat_cf h
 replace h := sat_lft hlR32 h
 exact kR [] (ND 0) (hQ _ (sat_some h))
 replace h := sat_ct h
 conv => whnf
 obtain ⟨⟨hb60, hb61⟩, h⟩ := sat_grdP h
 refine ⟨hb60, ?_⟩
 conv => whnf
 refine ⟨hb61, ?_⟩
 refine kL [(.s 4)] (h151_ContainsFunc _ _ _ _ _ _ _ _ ?_ (sat_bind h))
 rintro q62 h
 cases q62
 replace h := sat_cf h
 conv => whnf
 exact ⟨tl50.length, nls, tl50, j48 + 1, _, rfl, htl50, lx_wr hx51 hl33, h, rfl⟩
 replace h := sat_ct h
 replace h := sat_lft hlR32 h
 exact kR [] (ND 0) (hQ _ (sat_some h))
 rintro _ ⟨h, rfl⟩
 replace h := hrR32 _ h
 exact kR [] (ND 0) (hQ _ (sat_some h))
theorem c128_names {P : Program} {fid : Nat → FuncId} (mx : MX P) (k128_names : KF P fid 128 j128_names) (h132_Name : C132_Name (SP P fid) f132_Name) (h151_ContainsFunc : C151_ContainsFunc (SP P fid) f151_ContainsFunc) : C128_names (SP P fid) f128_names :=
 fun a0 Q R hQ h => spec_of_vc mx k128_names (w128_names h132_Name h151_ContainsFunc a0 Q R hQ h)
def f101_fields : V → Option (Int)
 | .mk k1 n2 s3 f4 => cond (k1 == 5) (cond (decide ((s3.size : Int) > 4000)) (some 2) (some 0)) (cond (k1 == 6) (cond (decide (((f4.length : Nat) : Int) > 24)) (some 2) ((f128_names f4).bind fun v21 => some v21)) (cond (k1 == 7) (cond (((f4.length : Nat) : Int) != 1) (some 3) ((f128_names f4).bind fun v18 => some v18)) (cond (k1 == 8) (cond (decide (((f4.length : Nat) : Int) > 200)) (some 2) ((f129_keys (V.mk k1 n2 s3 f4)).bind fun v15 => some v15)) (cond (k1 == 9) (cond (decide (((f4.length : Nat) : Int) > 200)) (some 2) ((f129_keys (V.mk k1 n2 s3 f4)).bind fun v12 => some v12)) (some 0)))))
def C101_fields (O : Oracle TT) (m : V → Option (Int)) : Prop :=
 ∀ (k1 : Int) (n2 : Int) (s3 : BA) (f4 : FV) (Q : Int → Prop) (R : RR) (_ : ∀ (v23 : Int), Q v23 → R (iD v23) []) (_ : sat (m (V.mk k1 n2 s3 f4)) Q), O 101 [.agg [ci k1, ci n2, .str s3, .isl .fld f4]] [] R
def j101_fields : Fn TT := ⟨38, [.t 2], (.seq (.reg [qo 1 (.box 1 0),qo 2 (.mv (iC 0))]) (.seq (.seq (.reg [qo 3 (.fa 1 0),qo 4 (.load 3 1 false)]) (.block 0 (.seq (.reg [qo 6 (.bin .eql .num 4 (iC 5)),qo 5 (.mv 6)]) (.cond 5 (.seq (.reg [qo 7 (.fa 1 2),qo 8 (.load 7 1 false),qo 9 (.len true 8),qo 10 (.bin .gtr .num 9 (iC 4000))]) (.cond 10 (.seq (.reg [qo 2 (.mv (iC 2))]) .ret) .skip))
 (.seq (.reg [qo 12 (.bin .eql .num 4 (iC 6)),qo 11 (.mv 12)]) (.cond 11 (.seq (.seq (.reg [qo 13 (.fa 1 3),qo 14 (.load 13 1 false),qo 15 (.len false 14),qo 16 (.bin .gtr .num 15 (iC 24))]) (.cond 16 (.seq (.reg [qo 2 (.mv (iC 2))]) .ret) .skip)) (.seq (.reg [qo 17 (.fa 1 3),qo 18 (.load 17 1 false),qo 19 (.call 19 128 [18]),qo 2 (.mv 19)]) .ret)) (.seq
 (.reg [qo 21 (.bin .eql .num 4 (iC 7)),qo 20 (.mv 21)]) (.cond 20 (.seq (.seq (.reg [qo 22 (.fa 1 3),qo 23 (.load 22 1 false),qo 24 (.len false 23),qo 25 (.bin .neq .num 24 (iC 1))]) (.cond 25 (.seq (.reg [qo 2 (.mv (iC 3))]) .ret) .skip)) (.seq (.reg [qo 26 (.fa 1 3),qo 27 (.load 26 1 false),qo 28 (.call 28 128 [27]),qo 2 (.mv 28)]) .ret)) (.seq (.seq
 (.reg [qo 30 (.bin .eql .num 4 (iC 8)),qo 29 (.mv 30)]) (.cond 29 .skip (.reg [qo 31 (.bin .eql .num 4 (iC 9)),qo 29 (.mv 31)]))) (.cond 29 (.seq (.seq (.reg [qo 32 (.fa 1 3),qo 33 (.load 32 1 false),qo 34 (.len false 33),qo 35 (.bin .gtr .num 34 (iC 200))]) (.cond 35 (.seq (.reg [qo 2 (.mv (iC 2))]) .ret) .skip)) (.seq (.reg [qo 36 (.load 1 4 true),qo 37 (.call 37 129 [36]),qo 2 (.mv 37)])
 .ret)) .skip)))))))))) (.seq (.reg [qo 2 (.mv (iC 0))]) .ret)))⟩
theorem w101_fields {O : Oracle TT} (h129_keys : C129_keys O f129_keys) (h128_names : C128_names O f128_names) : C101_fields (fun _ => vcF (S := SS) O j101_fields) f101_fields := by
 intro k1 n2 s3 f4 Q R hQ h
 unfold f101_fields at h
 refine ⟨nle rfl, rfl, ?_⟩
 refine kc h (fun h => ?_) fun h => ?_
 refine kc h (fun h => ?_) fun h => ?_
 refine kc h (fun h => ?_) fun h => ?_
 refine kc h (fun h => ?_) fun h => ?_
 refine kc h (fun h => ?_) fun h => ?_
 exact kR [] (ND 0) (hQ _ (sat_some h))
 intro hl10
 refine kc h (fun h => ?_) fun h => ?_
 refine kL [] (h129_keys _ _ _ _ _ _ ?_ (sat_bind h))
 rintro v12 h
 exact kR [] (ND 0) (hQ _ (sat_some h))
 exact kR [] (ND 0) (hQ _ (sat_some h))
 intro hl13
 refine kc h (fun h => ?_) fun h => ?_
 refine kL [] (h129_keys _ _ _ _ _ _ ?_ (sat_bind h))
 rintro v15 h
 exact kR [] (ND 0) (hQ _ (sat_some h))
 exact kR [] (ND 0) (hQ _ (sat_some h))
 intro hl16
 refine kc h (fun h => ?_) fun h => ?_
 refine kL [] (h128_names _ _ _ ?_ (sat_bind h))
 rintro v18 h
 exact kR [] (ND 0) (hQ _ (sat_some h))
 exact kR [] (ND 0) (hQ _ (sat_some h))
 intro hl19
 refine kc h (fun h => ?_) fun h => ?_
 refine kL [] (h128_names _ _ _ ?_ (sat_bind h))
 rintro v21 h
 exact kR [] (ND 0) (hQ _ (sat_some h))
 exact kR [] (ND 0) (hQ _ (sat_some h))
 refine kc h (fun h => ?_) fun h => ?_
 exact kR [] (ND 0) (hQ _ (sat_some h))
 exact kR [] (ND 0) (hQ _ (sat_some h))
theorem c101_fields {P : Program} {fid : Nat → FuncId} (mx : MX P) (k101_fields : KF P fid 101 j101_fields) (h129_keys : C129_keys (SP P fid) f129_keys) (h128_names : C128_names (SP P fid) f128_names) : C101_fields (SP P fid) f101_fields :=
 fun a0 a1 a2 a3 Q R hQ h => spec_of_vc mx k101_fields (w101_fields h129_keys h128_names a0 a1 a2 a3 Q R hQ h)
def f77_node_L2 (self77_node : V → Bool → Option (Int)) : FV → Nat → Option (Sum (Int) (Unit))
 | [], j67 => some (.inr ())
 | ((a72, .mk k73 n74 s75 f76)) :: tl69, j67 => (self77_node (V.mk k73 n74 s75 f76) false).bind fun v78 => cond (v78 != 0) (lft (some v78)) (f77_node_L2 self77_node tl69 (j67 + 1))
def b77_node (self77_node : V → Bool → Option (Int)) : V → Bool → Option (Int)
 | .mk k1 n2 s3 f4, q5 => sbind (ο := Bool) (cond (decide (k1 < 0)) (some (.inr true)) (cond (decide (k1 ≥ 12)) (some (.inr true)) (some (.inr false)))) (fun q8 => sbind (ο := Bool) (cond q8 (some (.inr true)) (cond (k1 == 10) (some (.inr true)) (some (.inr false)))) (fun q13 => sbind (ο := Bool) (cond q13 (some (.inr true)) (cond (k1 == 11) (cond q5 (some (.inr false)) (some (.inr true))) (some (.inr false)))) (fun q17 => sbind (ο := Bool) (cond q17 (some (.inr true)) ((f99_unused (V.mk k1 n2 s3 f4)).bind fun q23 => some (.inr q23))) (fun q21 => cond q21 (some 3) ((f100_number (V.mk k1 n2 s3 f4)).bind fun q24 => cond q24 ((f101_fields (V.mk k1 n2 s3 f4)).bind fun v25 => cond (v25 != 0) (some v25) (sbind (ο := Unit) (f77_node_L2 self77_node f4 0) (fun () => some 0))) (some 11))))))
def f77_node : Nat → V → Bool → Option (Int)
 | 0 => fun _ _ => none
 | n + 1 => b77_node (f77_node n)
def C77_node (O : Oracle TT) (m : V → Bool → Option (Int)) : Prop :=
 ∀ (k1 : Int) (n2 : Int) (s3 : BA) (f4 : FV) (q5 : Bool) (Q : Int → Prop) (R : RR) (_ : ∀ (v80 : Int), Q v80 → R (iD v80) []) (_ : sat (m (V.mk k1 n2 s3 f4) q5) Q), O 77 [.agg [ci k1, ci n2, .str s3, .isl .fld f4], bD q5] [] R
def j77_node : Fn TT := ⟨59, [.t 4], (.seq (.reg [qo 2 (.box 2 0),qo 4 (.mv (iC 0))]) (.seq (.block 0 (.seq (.regc [([qo 10 (.fa 2 0),qo 11 (.load 10 1 false),qo 12 (.bin .lss .num 11 (iC 0)),qo 13 (.mv 12),qf 13 14 (.fa 2 0),qf 13 15 (.load 14 1 false),qf 13 16 (.bin .geq .num 15 (iC 12)),qo 17 (.pick 13 bT 16)], [1, 2, 17], [(.s 2)]), ([qo 18 (.mv 17),qf 18 19 (.fa 2 0),
 qf 18 20 (.load 19 1 false),qf 18 21 (.bin .eql .num 20 (iC 10)),qo 22 (.pick 18 bT 21)], [1, 2, 22], [(.s 2)]), ([qo 23 (.mv 22),qf 23 24 (.fa 2 0),qf 23 25 (.load 24 1 false),qf 23 26 (.bin .eql .num 25 (iC 11)),qf 23 27 (.mv 26),qg 27 28 (.mv 1),qg 27 29 (.un .not 28),qf 23 30 (.pick 27 29 bF),qo 31 (.pick 23 bT 30)], [2, 31], [(.s 2)]), ([qo 32 (.mv 31),qf 32 33 (.load 2 4 true),
 qf 32 34 (.call 34 99 [33]),qo 35 (.pick 32 bT 34)], [2, 35], [(.s 2)])] [qo 9 (.mv 35)]) (.cond 9 (.seq (.reg [qo 4 (.mv (iC 3))]) .ret) (.seq (.reg [qo 37 (.load 2 4 true),qo 38 (.call 38 100 [37]),qo 39 (.un .not 38),qo 36 (.mv 39)]) (.cond 36 (.seq (.reg [qo 4 (.mv (iC 11))]) .ret) .skip))))) (.seq (.seq (.reg [qo 40 (.load 2 4 true),qo 41 (.call 41 101 [40]),qo 5 (.mv 41)]) (.seq
 (.reg [qo 42 (.mv 5),qo 43 (.bin .neq .num 42 (iC 0))]) (.cond 43 (.seq (.reg [qo 44 (.mv 5),qo 4 (.mv 44)]) .ret) .skip))) (.cut [] [] (.seq (.reg [qo 45 (.fa 2 3),qo 46 (.load 45 1 false),qo 47 (.len false 46),qo 48 (.mv (iC 0))]) (.block 1 (.loop (.keep [46, 47, 48] [] (.aft (.seq (.reg [qo 49 (.bin .lss .num 48 47)]) (.seq (.cond 49 .skip (.exit 1)) (.seq (.block 2 (.seq
 (.reg [qo 50 (.idxA 46 48 5),qo 51 (.load 50 5 true),qo 7 (.alloc 7 zFd),qp (.store 7 51 5)]) (.seq (.reg [qo 52 (.fa 7 1),qo 53 (.load 52 4 true),qo 54 (.call 54 77 [53, bF]),qo 8 (.mv 54)]) (.seq (.reg [qo 55 (.mv 8),qo 56 (.bin .neq .num 55 (iC 0))]) (.cond 56 (.seq (.reg [qo 57 (.mv 8),qo 4 (.mv 57)]) .ret) .skip))))) (.reg [qo 58 (.bin .add .num 48 (iC 1)),
 qo 48 (.mv 58)])))) [.keep [46, 47, 48] []]))))) (.seq (.reg [qo 4 (.mv (iC 0))]) .ret)))))⟩
theorem w77_node {O : Oracle TT} (self77_node : V → Bool → Option (Int)) (h77_node : C77_node O self77_node) (h99_unused : C99_unused O f99_unused) (h100_number : C100_number O f100_number) (h101_fields : C101_fields O f101_fields) : C77_node (fun _ => vcF (S := SS) O j77_node) (b77_node self77_node) := by
 intro k1 n2 s3 f4 q5 Q R hQ h
 unfold b77_node at h
 refine ⟨nle rfl, rfl, ?_⟩
 obtain ⟨R9, h, hlR9, hrR9⟩ := sat_sbind h
 refine kX (fun σ => ∃ (q8 : Bool), R9 (.inr q8) ∧ σ = ⟨[(1, bD q5), (2, pS 2), (17, bD q8)], [(.s 2, some (.var [ci k1, ci n2, .str s3, .isl .fld f4]))]⟩) ?_ ?_
 refine kc h (fun h => ?_) fun h => ?_
 refine kc h (fun h => ?_) fun h => ?_
 conv => whnf
 exact ⟨false, sat_some h, rfl⟩
 conv => whnf
 exact ⟨true, sat_some h, rfl⟩
 conv => whnf
 exact ⟨true, sat_some h, rfl⟩
 rintro _ ⟨q8, h, rfl⟩
 replace h := hrR9 _ h
 obtain ⟨R14, h, hlR14, hrR14⟩ := sat_sbind h
 refine kX (fun σ => ∃ (q13 : Bool), R14 (.inr q13) ∧ σ = ⟨[(1, bD q5), (2, pS 2), (22, bD q13)], [(.s 2, some (.var [ci k1, ci n2, .str s3, .isl .fld f4]))]⟩) ?_ ?_
 cases q8
 replace h := sat_cf h
 refine kc h (fun h => ?_) fun h => ?_
 conv => whnf
 exact ⟨false, sat_some h, rfl⟩
 conv => whnf
 exact ⟨true, sat_some h, rfl⟩
 replace h := sat_ct h
 conv => whnf
 exact ⟨true, sat_some h, rfl⟩
 rintro _ ⟨q13, h, rfl⟩
 replace h := hrR14 _ h
 obtain ⟨R18, h, hlR18, hrR18⟩ := sat_sbind h
 refine kX (fun σ => ∃ (q17 : Bool), R18 (.inr q17) ∧ σ = ⟨[(2, pS 2), (31, bD q17)], [(.s 2, some (.var [ci k1, ci n2, .str s3, .isl .fld f4]))]⟩) ?_ ?_
 cases q13
 replace h := sat_cf h
 refine kc h (fun h => ?_) fun h => ?_
 conv => whnf
 exact ⟨false, sat_some h, rfl⟩
 cases q5
 replace h := sat_cf h
 conv => whnf
 exact ⟨true, sat_some h, rfl⟩
 replace h := sat_ct h
 conv => whnf
 exact ⟨false, sat_some h, rfl⟩
 replace h := sat_ct h
 conv => whnf
 exact ⟨true, sat_some h, rfl⟩
 rintro _ ⟨q17, h, rfl⟩
 replace h := hrR18 _ h
 obtain ⟨R22, h, hlR22, hrR22⟩ := sat_sbind h
 refine kX (fun σ => ∃ (q21 : Bool), R22 (.inr q21) ∧ σ = ⟨[(2, pS 2), (35, bD q21)], [(.s 2, some (.var [ci k1, ci n2, .str s3, .isl .fld f4]))]⟩) ?_ ?_
 cases q17
 replace h := sat_cf h
 refine kL [] (h99_unused _ _ _ _ _ _ ?_ (sat_bind h))
 rintro q23 h
 conv => whnf
 exact ⟨q23, sat_some h, rfl⟩
 replace h := sat_ct h
 conv => whnf
 exact ⟨true, sat_some h, rfl⟩
 rintro _ ⟨q21, h, rfl⟩
 replace h := hrR22 _ h
 cases q21
 replace h := sat_cf h
 refine kL [] (h100_number _ _ _ _ _ _ ?_ (sat_bind h))
 rintro q24 h
 cases q24
 replace h := sat_cf h
 exact kR [] (ND 0) (hQ _ (sat_some h))
 replace h := sat_ct h
 refine kL [] (h101_fields _ _ _ _ _ _ ?_ (sat_bind h))
 rintro v25 h
 refine kc h (fun h => ?_) fun h => ?_
 obtain ⟨R53, h, hlR53, hrR53⟩ := sat_sbind h
 refine kX (fun σ => R53 (.inr ()) ∧ σ = ⟨[], []⟩) ?_ ?_
 intro hl54
 refine kX (fun σ n => ∃ (rem68 : FV) (j67 : Nat) (z : Int), n = rem68.length ∧ f4.drop j67 = rem68 ∧ z = ((j67 : Nat) : Int) ∧ sat (f77_node_L2 self77_node rem68 j67) R53 ∧ σ.keep [46, 47, 48] [] = ⟨[(46, .c (.isl .fld f4)), (47, iD ((f4.length : Nat) : Int)), (48, iD z)], []⟩) ⟨_, f4, 0, _, rfl, rfl, rfl, h, rfl⟩ ?_
 rintro σ n ⟨rem68, j67, _, rfl, hrem68, rfl, h, hσ⟩
 refine kk hσ ?_
 intro t71 (ht71 : t71 = decide (((j67 : Nat) : Int) < ((f4.length : Nat) : Int)))
 cases t71
 obtain rfl := ll_nil hrem68 ht71
 rw [f77_node_L2] at h
 conv => whnf
 exact ⟨sat_some h, rfl⟩
 obtain ⟨x70, tl69, rfl, hx70, htl69⟩ := ll_cons hrem68 ht71
 obtain ⟨a72, ⟨k73, n74, s75, f76⟩⟩ := x70
 rw [f77_node_L2] at h
 conv => whnf
 refine ⟨lx_bd hx70, fun uu77 huu77 => ?_⟩
 obtain rfl := lx_eq hx70 huu77
 refine kL [] (h77_node _ _ _ _ _ _ _ ?_ (sat_bind h))
 rintro v78 h
 refine kc h (fun h => ?_) fun h => ?_
 conv => whnf
 exact ⟨tl69.length, nls, tl69, j67 + 1, _, rfl, htl69, lx_wr hx70 hl54, h, rfl⟩
 replace h := sat_lft hlR53 h
 exact kR [] (ND 0) (hQ _ (sat_some h))
 rintro _ ⟨h, rfl⟩
 replace h := hrR53 _ h
 exact kR [] (ND 0) (hQ _ (sat_some h))
 exact kR [] (ND 0) (hQ _ (sat_some h))
 replace h := sat_ct h
 exact kR [] (ND 0) (hQ _ (sat_some h))
theorem cg77_node {P : Program} {fid : Nat → FuncId} (mx : MX P) (k77_node : KF P fid 77 j77_node) (h99_unused : C99_unused (SP P fid) f99_unused) (h100_number : C100_number (SP P fid) f100_number) (h101_fields : C101_fields (SP P fid) f101_fields) : ∀ n, C77_node (SP P fid) (f77_node n) := by
 intro n
 induction n with
 | zero => exact fun a0 a1 a2 a3 a4 Q R hQ h => (sat_none h).elim
 | succ n ih =>
  have ih0 := ih
  exact fun a0 a1 a2 a3 a4 Q R hQ h => spec_of_vc mx k77_node (w77_node (f77_node n) ih0 h99_unused h100_number h101_fields a0 a1 a2 a3 a4 Q R hQ h)
theorem c77_node {P : Program} {fid : Nat → FuncId} (mx : MX P) (k77_node : KF P fid 77 j77_node) (h99_unused : C99_unused (SP P fid) f99_unused) (h100_number : C100_number (SP P fid) f100_number) (h101_fields : C101_fields (SP P fid) f101_fields) : ∀ n, C77_node (SP P fid) (f77_node n) := fun n => (cg77_node mx k77_node h99_unused h100_number h101_fields n)
def f51_Check (fuel : Nat) : V → Option (Int)
 | .mk k1 n2 s3 f4 => (f75_Size fuel (V.mk k1 n2 s3 f4)).bind fun v5 => cond (decide (v5 > 2000)) (some 2) ((f76_Deep fuel (V.mk k1 n2 s3 f4)).bind fun v7 => cond (decide (v7 > 40)) (some 2) ((f77_node fuel (V.mk k1 n2 s3 f4) true).bind fun v9 => some v9))
def C51_Check (O : Oracle TT) (m : V → Option (Int)) : Prop :=
 ∀ (k1 : Int) (n2 : Int) (s3 : BA) (f4 : FV) (Q : Int → Prop) (R : RR) (_ : ∀ (v10 : Int), Q v10 → R (iD v10) []) (_ : sat (m (V.mk k1 n2 s3 f4)) Q), O 51 [.agg [ci k1, ci n2, .str s3, .isl .fld f4]] [] R
def j51_Check : Fn TT := ⟨13, [.t 2], (.seq (.reg [qo 1 (.box 1 0),qo 2 (.mv (iC 0))]) (.seq (.seq (.reg [qo 3 (.load 1 4 true),qo 4 (.call 4 75 [3]),qo 5 (.bin .gtr .num 4 (iC 2000)),qo 6 (.mv 5),qf 6 7 (.load 1 4 true),qf 6 8 (.call 8 76 [7]),qf 6 9 (.bin .gtr .num 8 (iC 40)),qo 10 (.pick 6 bT 9)]) (.cond 10 (.seq (.reg [qo 2 (.mv (iC 2))]) .ret) .skip)) (.seq
 (.reg [qo 11 (.load 1 4 true),qo 12 (.call 12 77 [11, bT]),qo 2 (.mv 12)]) .ret)))⟩
theorem w51_Check {O : Oracle TT} (fuel : Nat) (h75_Size : C75_Size O (f75_Size fuel)) (h76_Deep : C76_Deep O (f76_Deep fuel)) (h77_node : C77_node O (f77_node fuel)) : C51_Check (fun _ => vcF (S := SS) O j51_Check) (f51_Check fuel) := by
 intro k1 n2 s3 f4 Q R hQ h
 unfold f51_Check at h
 refine ⟨nle rfl, rfl, ?_⟩
 refine kL [] (h75_Size _ _ _ _ _ _ ?_ (sat_bind h))
 rintro v5 h
 refine kc h (fun h => ?_) fun h => ?_
 refine kL [] (h76_Deep _ _ _ _ _ _ ?_ (sat_bind h))
 rintro v7 h
 refine kc h (fun h => ?_) fun h => ?_
 refine kL [] (h77_node _ _ _ _ _ _ _ ?_ (sat_bind h))
 rintro v9 h
 exact kR [] (ND 0) (hQ _ (sat_some h))
 exact kR [] (ND 0) (hQ _ (sat_some h))
 exact kR [] (ND 0) (hQ _ (sat_some h))
theorem c51_Check {P : Program} {fid : Nat → FuncId} (mx : MX P) (k51_Check : KF P fid 51 j51_Check) (h75_Size : ∀ n, C75_Size (SP P fid) (f75_Size n)) (h76_Deep : ∀ n, C76_Deep (SP P fid) (f76_Deep n)) (h77_node : ∀ n, C77_node (SP P fid) (f77_node n)) : ∀ n, C51_Check (SP P fid) (f51_Check n) :=
 fun n => fun a0 a1 a2 a3 Q R hQ h => spec_of_vc mx k51_Check (w51_Check n (h75_Size n) (h76_Deep n) (h77_node n) a0 a1 a2 a3 Q R hQ h)
end Go.Clap
