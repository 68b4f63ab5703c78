/- The checks of the small code against the loaded functions. -/
import Derived.Test.YtnjgakngmbbmfaaGreatDoorClapJ1
import Derived.Lib.ItoaNum
import Derived.Lib.SlTrimSet
set_option linter.unusedVariables false
set_option linter.unusedSimpArgs false
set_option maxHeartbeats 4000000
set_option maxRecDepth 100000
namespace Go.Clap
open Go.IntKind (wrap)
def f1013_peek : BA → Int → Bool → Option (BA × Bool)
 | s1, v2, q3 => cond (decide (v2 > (s1.size : Int))) (some ((⟨#[]⟩ : BA), false)) (grdP ((0 : Int) ≤ v2 ∧ v2.toNat ≤ s1.size ∧ s1.size ≤ s1.size) ((f1014_Cut (s1.extract v2.toNat s1.size) (⟨#[32]⟩ : BA)).bind fun (s7, s8, q9) => some (s7, true)))
def C1013_peek (O : Oracle TT) (m : BA → Int → Bool → Option (BA × Bool)) : Prop :=
 ∀ (s1 : BA) (v2 : Int) (q3 : Bool) (Q : (BA × Bool) → Prop) (R : RR) (_ : ∀ (s10 : BA) (q11 : Bool), Q (s10, q11) → R (.tup [sD s10, bD q11]) [(.x 0, some (.var [.str s1, ci v2, .bool q3]))]) (_ : sat (m s1 v2 q3) Q), O 1013 [pX 0] [(.x 0, some (.var [.str s1, ci v2, .bool q3]))] R
def j1013_peek : Fn TT := ⟨32, [.t 2, .t 3], (.seq (.reg [qo 2 (.mv sE),qo 3 (.mv bF)]) (.seq (.seq (.drw [] (oR 10) [] (List.range 10) [qo 7 (.mv 0),qo 8 (.nilck 7),qo 9 (.fa 8 1),qo 10 (.load 9 1 false),qo 11 (.mv 0),qo 12 (.nilck 11),qo 13 (.fa 12 0),qo 14 (.load 13 1 false),qo 15 (.len true 14),qo 16 (.bin .gtr .num 10 15)]) (.cond 16 (.seq (.reg [qo 2 (.mv sE),qo 3 (.mv bF)]) .ret)
 .skip)) (.seq (.drw [] (oR 17) [] [0, 1, 2, 3, 4, 5, 6, 7, 8, 10, 11, 12, 13, 14, 15, 16] [qo 18 (.mv 0),qo 19 (.nilck 18),qo 20 (.fa 19 0),qo 21 (.load 20 1 false),qo 22 (.mv 0),qo 23 (.nilck 22),qo 24 (.fa 23 1),qo 25 (.load 24 1 false),qo 26 (.slc 0 21 (some 25) none),qo 27 (.call 27 1014 [26, (.c (.str (⟨#[32]⟩ : BA)))]),qo 17 (.mv 27),qo 28 (.ext 17 0),qo 29 (.ext 17 1),
 qo 30 (.ext 17 2),qo 4 (.mv 28),qo 5 (.mv 29),qo 6 (.mv 30)]) (.seq (.reg [qo 31 (.mv 4),qo 2 (.mv 31),qo 3 (.mv bT)]) .ret))))⟩
theorem w1013_peek {O : Oracle TT} (h1014_Cut : C1014_Cut O f1014_Cut) : C1013_peek (fun _ => vcF (S := SS) O j1013_peek) f1013_peek := by
 intro s1 v2 q3 Q R hQ h
 unfold f1013_peek at h
 refine ⟨nle rfl, rfl, ?_⟩
 refine kc h (fun h => ?_) fun h => ?_
 conv => whnf
 obtain ⟨⟨hb5, hb6⟩, h⟩ := sat_grdP h
 refine ⟨hb5, ?_⟩
 conv => whnf
 refine ⟨hb6, ?_⟩
 refine kL [] (h1014_Cut _ _ _ _ ?_ (sat_bind h))
 rintro s7 s8 q9 h
 exact kR [] (ND 1) (hQ _ _ (sat_some h))
 exact kR [] (ND 1) (hQ _ _ (sat_some h))
theorem c1013_peek {P : Program} {fid : Nat → FuncId} (mx : MX P) (k1013_peek : KF P fid 1013 j1013_peek) (h1014_Cut : C1014_Cut (SP P fid) f1014_Cut) : C1013_peek (SP P fid) f1013_peek :=
 fun a0 a1 a2 Q R hQ h => spec_of_vc mx k1013_peek (w1013_peek h1014_Cut a0 a1 a2 Q R hQ h)
def f1090_1 : BA → Option (Bool)
 | s1 => cond (!(s1.toList == (⟨#[]⟩ : BA).toList)) (cond (!(s1.toList == (⟨#[40]⟩ : BA).toList)) (cond (!(s1.toList == (⟨#[41]⟩ : BA).toList)) (some true) (some false)) (some false)) (some false)
def C1090_1 (O : Oracle TT) (m : BA → Option (Bool)) : Prop :=
 ∀ (s1 : BA) (Q : Bool → Prop) (R : RR) (_ : ∀ (q5 : Bool), Q q5 → R (bD q5) []) (_ : sat (m s1) Q), O 1090 [sD s1] [] R
def j1090_1 : Fn TT := ⟨13, [.t 2], (.seq (.reg [qo 2 (.mv bF)]) (.seq (.reg [qo 3 (.mv 0),qo 4 (.bin .neq .str 3 sE),qo 5 (.mv 4),qg 5 6 (.mv 0),qg 5 7 (.bin .neq .str 6 (.c (.str (⟨#[40]⟩ : BA)))),qo 8 (.pick 5 7 bF),qo 9 (.mv 8),qg 9 10 (.mv 0),qg 9 11 (.bin .neq .str 10 (.c (.str (⟨#[41]⟩ : BA)))),qo 12 (.pick 9 11 bF),qo 2 (.mv 12)]) .ret))⟩
theorem w1090_1 {O : Oracle TT} : C1090_1 (fun _ => vcF (S := SS) O j1090_1) f1090_1 := by
 intro s1 Q R hQ h
 unfold f1090_1 at h
 refine ⟨nle rfl, rfl, ?_⟩
 refine kc h (fun h => ?_) fun h => ?_
 exact kR [] (ND 0) (hQ _ (sat_some h))
 refine kc h (fun h => ?_) fun h => ?_
 exact kR [] (ND 0) (hQ _ (sat_some h))
 refine kc h (fun h => ?_) fun h => ?_
 exact kR [] (ND 0) (hQ _ (sat_some h))
 exact kR [] (ND 0) (hQ _ (sat_some h))
theorem c1090_1 {P : Program} {fid : Nat → FuncId} (mx : MX P) (k1090_1 : KF P fid 1090 j1090_1) : C1090_1 (SP P fid) f1090_1 :=
 fun a0 Q R hQ h => spec_of_vc mx k1090_1 (w1090_1 a0 Q R hQ h)
def f1012a_take : BA → Int → Bool → Option (BA × Int × Bool)
 | s1, v2, q3 => cond q3 ((f1013_peek s1 v2 true).bind fun (s4, q5) => cond q5 ((f1090_1 s4).bind fun q6 => cond q6 (some (s4, (wrap .i64 (v2 + (wrap .i64 ((s4.size : Int) + 1)))), true)) (some ((⟨#[]⟩ : BA), v2, false))) (some ((⟨#[]⟩ : BA), v2, false))) (some ((⟨#[]⟩ : BA), v2, false))
def C1012a_take (O : Oracle TT) (m : BA → Int → Bool → Option (BA × Int × Bool)) : Prop :=
 ∀ (s1 : BA) (v2 : Int) (q3 : Bool) (Q : (BA × Int × Bool) → Prop) (R : RR) (_ : ∀ (s7 : BA) (v8 : Int) (q9 : Bool), Q (s7, v8, q9) → R (sD s7) [(.x 0, some (.var [.str s1, ci v8, .bool q9]))]) (_ : sat (m s1 v2 q3) Q), O 1012 [pX 0, .c (.fn 1090 [])] [(.x 0, some (.var [.str s1, ci v2, .bool q3]))] R
def j1012a_take : Fn TT := ⟨39, [.t 4], (.seq (.reg [qo 4 (.mv sE)]) (.seq (.seq (.reg [qo 7 (.mv 0),qo 8 (.nilck 7),qo 9 (.fa 8 2),qo 10 (.load 9 1 false),qo 11 (.un .not 10)]) (.cond 11 (.seq (.reg [qo 4 (.mv sE)]) .ret) .skip)) (.seq (.reg [qo 13 (.mv 0),qo 14 (.call 14 1013 [13]),qo 12 (.mv 14),qo 15 (.ext 12 0),qo 16 (.ext 12 1),qo 5 (.mv 15),qo 6 (.mv 16)]) (.seq (.seq
 (.reg [qo 17 (.mv 6),qo 18 (.un .not 17),qo 19 (.mv 18),qf 19 20 (.mv 1),qf 19 21 (.mv 5),qf 19 22 (.callv 22 20 [21]),qf 19 23 (.un .not 22),qo 24 (.pick 19 bT 23)]) (.cond 24 (.seq (.reg [qo 25 (.mv 0),qo 26 (.nilck 25),qo 27 (.fa 26 2),qp (.store 27 bF 1)]) (.seq (.reg [qo 4 (.mv sE)]) .ret)) .skip)) (.seq (.reg [qo 28 (.mv 0),qo 29 (.nilck 28),qo 30 (.fa 29 1),
 qo 31 (.load 30 1 false),qo 32 (.mv 5),qo 33 (.len true 32),qo 34 (.bin .add .num 33 (iC 1)),qo 35 (.bin .add .num 31 34),qo 36 (.nilck 28),qo 37 (.fa 36 1),qp (.store 37 35 1)]) (.seq (.reg [qo 38 (.mv 5),qo 4 (.mv 38)]) .ret))))))⟩
theorem w1012a_take {O : Oracle TT} (h1013_peek : C1013_peek O f1013_peek) (h1090_1 : C1090_1 O f1090_1) : C1012a_take (fun _ => vcF (S := SS) O j1012a_take) f1012a_take := by
 intro s1 v2 q3 Q R hQ h
 unfold f1012a_take at h
 refine ⟨nle rfl, rfl, ?_⟩
 cases q3
 replace h := sat_cf h
 exact kR [] (ND 1) (hQ _ _ _ (sat_some h))
 replace h := sat_ct h
 refine kL [(.x 0)] (h1013_peek _ _ _ _ _ ?_ (sat_bind h))
 rintro s4 q5 h
 cases q5
 replace h := sat_cf h
 exact kR [] (ND 1) (hQ _ _ _ (sat_some h))
 replace h := sat_ct h
 refine kL [] (h1090_1 _ _ _ ?_ (sat_bind h))
 rintro q6 h
 cases q6
 replace h := sat_cf h
 exact kR [] (ND 1) (hQ _ _ _ (sat_some h))
 replace h := sat_ct h
 exact kR [] (ND 1) (hQ _ _ _ (sat_some h))
theorem c1012a_take {P : Program} {fid : Nat → FuncId} (mx : MX P) (k1012a_take : KF P fid 1012 j1012a_take) (h1013_peek : C1013_peek (SP P fid) f1013_peek) (h1090_1 : C1090_1 (SP P fid) f1090_1) : C1012a_take (SP P fid) f1012a_take :=
 fun a0 a1 a2 Q R hQ h => spec_of_vc mx k1012a_take (w1012a_take h1013_peek h1090_1 a0 a1 a2 Q R hQ h)
def f1089_any : BA → Int → Bool → Option (BA × Int × Bool)
 | s1, v2, q3 => (f1012a_take s1 v2 q3).bind fun (s4, v5, q6) => some (s4, v5, q6)
def C1089_any (O : Oracle TT) (m : BA → Int → Bool → Option (BA × Int × Bool)) : Prop :=
 ∀ (s1 : BA) (v2 : Int) (q3 : Bool) (Q : (BA × Int × Bool) → Prop) (R : RR) (_ : ∀ (s7 : BA) (v8 : Int) (q9 : Bool), Q (s7, v8, q9) → R (sD s7) [(.x 0, some (.var [.str s1, ci v8, .bool q9]))]) (_ : sat (m s1 v2 q3) Q), O 1089 [pX 0] [(.x 0, some (.var [.str s1, ci v2, .bool q3]))] R
def j1089_any : Fn TT := ⟨5, [.t 2], (.seq (.reg [qo 2 (.mv sE)]) (.seq (.reg [qo 3 (.mv 0),qo 4 (.call 4 1012 [3, (.c (.fn 1090 []))]),qo 2 (.mv 4)]) .ret))⟩
theorem w1089_any {O : Oracle TT} (h1012a_take : C1012a_take O f1012a_take) : C1089_any (fun _ => vcF (S := SS) O j1089_any) f1089_any := by
 intro s1 v2 q3 Q R hQ h
 unfold f1089_any at h
 refine ⟨nle rfl, rfl, ?_⟩
 refine kL [(.x 0)] (h1012a_take _ _ _ _ _ ?_ (sat_bind h))
 rintro s4 v5 q6 h
 exact kR [] (ND 1) (hQ _ _ _ (sat_some h))
theorem c1089_any {P : Program} {fid : Nat → FuncId} (mx : MX P) (k1089_any : KF P fid 1089 j1089_any) (h1012a_take : C1012a_take (SP P fid) f1012a_take) : C1089_any (SP P fid) f1089_any :=
 fun a0 a1 a2 Q R hQ h => spec_of_vc mx k1089_any (w1089_any h1012a_take a0 a1 a2 Q R hQ h)
def f1022_Itoa : Int → Option BA
 | n => grdP (-9223372036854775808 ≤ n ∧ n ≤ 9223372036854775807) (some ⟨(Lib.itoa n).toArray⟩)
def C1022_Itoa (O : Oracle TT) (m : Int → Option (BA)) : Prop :=
 ∀ (v1 : Int) (Q : BA → Prop) (R : RR) (_ : ∀ (s2 : BA), Q s2 → R (sD s2) []) (_ : sat (m v1) Q), O 1022 [iD v1] [] R
def f1092_1 : BA → Int → Option (Bool × Int)
 | s1, v2 => (f1026_Atoi s1).bind fun (v3, q4) => cond (bne q4 false) ((f1022_Itoa v3).bind fun s6 => cond (s6.toList == s1.toList) (some (true, v3)) (some (false, v3))) (some (false, v3))
def C1092_1 (O : Oracle TT) (m : BA → Int → Option (Bool × Int)) : Prop :=
 ∀ (s1 : BA) (v2 : Int) (Q : (Bool × Int) → Prop) (R : RR) (_ : ∀ (q8 : Bool) (v9 : Int), Q (q8, v9) → R (bD q8) [(.x 0, some (.var [ci v9]))]) (_ : sat (m s1 v2) Q), O 1092 [sD s1, pX 0] [(.x 0, some (.var [ci v2]))] R
def j1092_1 : Fn TT := ⟨20, [.t 3], (.seq (.reg [qo 3 (.mv bF)]) (.seq (.reg [qo 7 (.mv 0),qo 8 (.call 8 1026 [7]),qo 6 (.mv 8),qo 9 (.ext 6 0),qo 10 (.ext 6 1),qo 4 (.mv 9),qo 5 (.mv 10)]) (.seq (.reg [qo 11 (.mv 4),qp (.store 1 11 1)]) (.seq (.reg [qo 12 (.mv 5),qo 13 (.isnil false 12),qo 14 (.mv 13),qg 14 15 (.mv 4),qg 14 16 (.call 16 1022 [15]),qg 14 17 (.mv 0),
 qg 14 18 (.bin .eql .str 16 17),qo 19 (.pick 14 18 bF),qo 3 (.mv 19)]) .ret))))⟩
theorem w1092_1 {O : Oracle TT} (h1026_Atoi : C1026_Atoi O f1026_Atoi) (h1022_Itoa : C1022_Itoa O f1022_Itoa) : C1092_1 (fun _ => vcF (S := SS) O j1092_1) f1092_1 := by
 intro s1 v2 Q R hQ h
 unfold f1092_1 at h
 refine ⟨nle rfl, rfl, ?_⟩
 refine kL [] (h1026_Atoi _ _ _ ?_ (sat_bind h))
 rintro v3 q4 h
 refine kc h (fun h => ?_) fun h => ?_
 exact kR [] (ND 1) (hQ _ _ (sat_some h))
 refine kL [] (h1022_Itoa _ _ _ ?_ (sat_bind h))
 rintro s6 h
 refine kc h (fun h => ?_) fun h => ?_
 exact kR [] (ND 1) (hQ _ _ (sat_some h))
 exact kR [] (ND 1) (hQ _ _ (sat_some h))
theorem c1092_1 {P : Program} {fid : Nat → FuncId} (mx : MX P) (k1092_1 : KF P fid 1092 j1092_1) (h1026_Atoi : C1026_Atoi (SP P fid) f1026_Atoi) (h1022_Itoa : C1022_Itoa (SP P fid) f1022_Itoa) : C1092_1 (SP P fid) f1092_1 :=
 fun a0 a1 Q R hQ h => spec_of_vc mx k1092_1 (w1092_1 h1026_Atoi h1022_Itoa a0 a1 Q R hQ h)
def f1012b_take : BA → Int → Bool → Int → Option (BA × Int × Bool × Int)
 | s1, v2, q3, v4 => cond q3 ((f1013_peek s1 v2 true).bind fun (s5, q6) => cond q6 ((f1092_1 s5 v4).bind fun (q7, v8) => cond q7 (some (s5, (wrap .i64 (v2 + (wrap .i64 ((s5.size : Int) + 1)))), true, v8)) (some ((⟨#[]⟩ : BA), v2, false, v8))) (some ((⟨#[]⟩ : BA), v2, false, v4))) (some ((⟨#[]⟩ : BA), v2, false, v4))
def C1012b_take (O : Oracle TT) (m : BA → Int → Bool → Int → Option (BA × Int × Bool × Int)) : Prop :=
 ∀ (s1 : BA) (v2 : Int) (q3 : Bool) (v4 : Int) (Q : (BA × Int × Bool × Int) → Prop) (R : RR) (_ : ∀ (s9 : BA) (v10 : Int) (q11 : Bool) (v12 : Int), Q (s9, v10, q11, v12) → R (sD s9) [(.x 0, some (.var [.str s1, ci v10, .bool q11])), (.x 1, some (.var [ci v12]))]) (_ : sat (m s1 v2 q3 v4) Q), O 1012 [pX 0, .c (.fn 1092 [(.x 1)])] [(.x 0, some (.var [.str s1, ci v2, .bool q3])), (.x 1, some (.var [ci v4]))] R
def j1012b_take : Fn TT := ⟨39, [.t 4], (.seq (.reg [qo 4 (.mv sE)]) (.seq (.seq (.reg [qo 7 (.mv 0),qo 8 (.nilck 7),qo 9 (.fa 8 2),qo 10 (.load 9 1 false),qo 11 (.un .not 10)]) (.cond 11 (.seq (.reg [qo 4 (.mv sE)]) .ret) .skip)) (.seq (.reg [qo 13 (.mv 0),qo 14 (.call 14 1013 [13]),qo 12 (.mv 14),qo 15 (.ext 12 0),qo 16 (.ext 12 1),qo 5 (.mv 15),qo 6 (.mv 16)]) (.seq (.seq
 (.reg [qo 17 (.mv 6),qo 18 (.un .not 17),qo 19 (.mv 18),qf 19 20 (.mv 1),qf 19 21 (.mv 5),qf 19 22 (.callv 22 20 [21]),qf 19 23 (.un .not 22),qo 24 (.pick 19 bT 23)]) (.cond 24 (.seq (.reg [qo 25 (.mv 0),qo 26 (.nilck 25),qo 27 (.fa 26 2),qp (.store 27 bF 1)]) (.seq (.reg [qo 4 (.mv sE)]) .ret)) .skip)) (.seq (.reg [qo 28 (.mv 0),qo 29 (.nilck 28),qo 30 (.fa 29 1),
 qo 31 (.load 30 1 false),qo 32 (.mv 5),qo 33 (.len true 32),qo 34 (.bin .add .num 33 (iC 1)),qo 35 (.bin .add .num 31 34),qo 36 (.nilck 28),qo 37 (.fa 36 1),qp (.store 37 35 1)]) (.seq (.reg [qo 38 (.mv 5),qo 4 (.mv 38)]) .ret))))))⟩
theorem w1012b_take {O : Oracle TT} (h1013_peek : C1013_peek O f1013_peek) (h1092_1 : C1092_1 O f1092_1) : C1012b_take (fun _ => vcF (S := SS) O j1012b_take) f1012b_take := by
 intro s1 v2 q3 v4 Q R hQ h
 unfold f1012b_take at h
 refine ⟨nle rfl, rfl, ?_⟩
 cases q3
 replace h := sat_cf h
 exact kR [] (ND 2) (hQ _ _ _ _ (sat_some h))
 replace h := sat_ct h
 refine kL [(.x 0)] (h1013_peek _ _ _ _ _ ?_ (sat_bind h))
 rintro s5 q6 h
 cases q6
 replace h := sat_cf h
 exact kR [] (ND 2) (hQ _ _ _ _ (sat_some h))
 replace h := sat_ct h
 refine kL [(.x 1)] (h1092_1 _ _ _ _ ?_ (sat_bind h))
 rintro q7 v8 h
 cases q7
 replace h := sat_cf h
 exact kR [] (ND 2) (hQ _ _ _ _ (sat_some h))
 replace h := sat_ct h
 exact kR [] (ND 2) (hQ _ _ _ _ (sat_some h))
theorem c1012b_take {P : Program} {fid : Nat → FuncId} (mx : MX P) (k1012b_take : KF P fid 1012 j1012b_take) (h1013_peek : C1013_peek (SP P fid) f1013_peek) (h1092_1 : C1092_1 (SP P fid) f1092_1) : C1012b_take (SP P fid) f1012b_take :=
 fun a0 a1 a2 a3 Q R hQ h => spec_of_vc mx k1012b_take (w1012b_take h1013_peek h1092_1 a0 a1 a2 a3 Q R hQ h)
def f1091_number : BA → Int → Bool → Option (Int × Int × Bool)
 | s1, v2, q3 => (f1012b_take s1 v2 q3 (0 : Int)).bind fun (s4, v5, q6, v7) => some (v7, v5, q6)
def C1091_number (O : Oracle TT) (m : BA → Int → Bool → Option (Int × Int × Bool)) : Prop :=
 ∀ (s1 : BA) (v2 : Int) (q3 : Bool) (Q : (Int × Int × Bool) → Prop) (R : RR) (_ : ∀ (v8 : Int) (v9 : Int) (q10 : Bool), Q (v8, v9, q10) → R (iD v8) [(.x 0, some (.var [.str s1, ci v9, .bool q10]))]) (_ : sat (m s1 v2 q3) Q), O 1091 [pX 0] [(.x 0, some (.var [.str s1, ci v2, .bool q3]))] R
def j1091_number : Fn TT := ⟨8, [.t 2], (.seq (.reg [qo 2 (.mv (iC 0))]) (.seq (.reg [qo 3 (.alloc 3 [.int .i64 0]),qp (.store 3 (iC 0) 1)]) (.seq (.reg [qo 4 (.mv 0),qo 5 (.mkf 1092 [3]),qo 6 (.call 6 1012 [4, 5])]) (.seq (.reg [qo 7 (.load 3 1 false),qo 2 (.mv 7)]) .ret))))⟩
theorem w1091_number {O : Oracle TT} (h1012b_take : C1012b_take O f1012b_take) : C1091_number (fun _ => vcF (S := SS) O j1091_number) f1091_number := by
 intro s1 v2 q3 Q R hQ h
 unfold f1091_number at h
 refine ⟨nle rfl, rfl, ?_⟩
 refine kL [(.x 0), (.s 3)] (h1012b_take _ _ _ _ _ _ ?_ (sat_bind h))
 rintro s4 v5 q6 v7 h
 exact kR [] (ND 1) (hQ _ _ _ (sat_some h))
theorem c1091_number {P : Program} {fid : Nat → FuncId} (mx : MX P) (k1091_number : KF P fid 1091 j1091_number) (h1012b_take : C1012b_take (SP P fid) f1012b_take) : C1091_number (SP P fid) f1091_number :=
 fun a0 a1 a2 Q R hQ h => spec_of_vc mx k1091_number (w1091_number h1012b_take a0 a1 a2 Q R hQ h)
def f1019_word : Int → Option (BA)
 | v1 => getL ([(⟨#[115, 97, 109, 101]⟩ : BA), (⟨#[116, 104, 101, 110]⟩ : BA), (⟨#[97, 116]⟩ : BA), (⟨#[114, 101, 110, 97, 109, 101]⟩ : BA), (⟨#[100, 114, 111, 112]⟩ : BA), (⟨#[97, 100, 100]⟩ : BA), (⟨#[110, 101, 115, 116]⟩ : BA), (⟨#[102, 108, 97, 116]⟩ : BA), (⟨#[109, 111, 118, 101]⟩ : BA), (⟨#[115, 112, 108, 105, 116]⟩ : BA), (⟨#[103, 108, 117, 101]⟩ : BA), (⟨#[108, 111, 111, 107]⟩ : BA), (⟨#[110, 117, 109, 98, 101, 114]⟩ : BA), (⟨#[101, 97, 99, 104]⟩ : BA), (⟨#[99, 97, 115, 101]⟩ : BA), (⟨#[115, 101, 108, 101, 99, 116]⟩ : BA), (⟨#[116, 97, 103]⟩ : BA), (⟨#[117, 110, 116, 97, 103]⟩ : BA), (⟨#[102, 105, 108, 108]⟩ : BA)] : LB) v1 fun w2 => some w2
def C1019_word (O : Oracle TT) (m : Int → Option (BA)) : Prop :=
 ∀ (v1 : Int) (Q : BA → Prop) (R : RR) (_ : ∀ (s4 : BA), Q s4 → R (sD s4) []) (_ : sat (m v1) Q), O 1019 [iD v1] [] R
def j1019_word : Fn TT := ⟨6, [.t 2], (.seq (.reg [qo 2 (.mv sE)]) (.seq
 (.reg [qo 3 (.build [.str eB, .str eB, .str eB, .str eB, .str eB, .str eB, .str eB, .str eB, .str eB, .str eB, .str eB, .str eB, .str eB, .str eB, .str eB, .str eB, .str eB, .str eB, .str eB] [((0, 1), (.c (.str (⟨#[115, 97, 109, 101]⟩ : BA)))), ((1, 1), (.c (.str (⟨#[116, 104, 101, 110]⟩ : BA)))), ((2, 1), (.c (.str (⟨#[97, 116]⟩ : BA)))), ((3, 1), (.c (.str (⟨#[114, 101, 110, 97, 109, 101]⟩ : BA)))), ((4, 1), (.c (.str (⟨#[100, 114, 111, 112]⟩ : BA)))), ((5, 1), (.c (.str (⟨#[97, 100, 100]⟩ : BA)))), ((6, 1), (.c (.str (⟨#[110, 101, 115, 116]⟩ : BA)))), ((7, 1), (.c (.str (⟨#[102, 108, 97, 116]⟩ : BA)))), ((8, 1), (.c (.str (⟨#[109, 111, 118, 101]⟩ : BA)))), ((9, 1), (.c (.str (⟨#[115, 112, 108, 105, 116]⟩ : BA)))), ((10, 1), (.c (.str (⟨#[103, 108, 117, 101]⟩ : BA)))), ((11, 1), (.c (.str (⟨#[108, 111, 111, 107]⟩ : BA)))), ((12, 1), (.c (.str (⟨#[110, 117, 109, 98, 101, 114]⟩ : BA)))), ((13, 1), (.c (.str (⟨#[101, 97, 99, 104]⟩ : BA)))), ((14, 1), (.c (.str (⟨#[99, 97, 115, 101]⟩ : BA)))), ((15, 1), (.c (.str (⟨#[115, 101, 108, 101, 99, 116]⟩ : BA)))), ((16, 1), (.c (.str (⟨#[116, 97, 103]⟩ : BA)))), ((17, 1), (.c (.str (⟨#[117, 110, 116, 97, 103]⟩ : BA)))), ((18, 1), (.c (.str (⟨#[102, 105, 108, 108]⟩ : BA))))]),
 qo 4 (.mv 0),qo 5 (.idxG 3 4 19),qo 2 (.mv 5)]) .ret))⟩
theorem w1019_word {O : Oracle TT} : C1019_word (fun _ => vcF (S := SS) O j1019_word) f1019_word := by
 intro v1 Q R hQ h
 unfold f1019_word at h
 refine ⟨nle rfl, rfl, ?_⟩
 conv => whnf
 obtain ⟨hbw2, h⟩ := sat_getL h
 refine ⟨hbw2, by decide, fun c3 hc3 => ?_⟩
 obtain ⟨w2, hw2, rfl⟩ := map_get (f := (C.str : _ → C TT)) (xs := ([(⟨#[115, 97, 109, 101]⟩ : BA), (⟨#[116, 104, 101, 110]⟩ : BA), (⟨#[97, 116]⟩ : BA), (⟨#[114, 101, 110, 97, 109, 101]⟩ : BA), (⟨#[100, 114, 111, 112]⟩ : BA), (⟨#[97, 100, 100]⟩ : BA), (⟨#[110, 101, 115, 116]⟩ : BA), (⟨#[102, 108, 97, 116]⟩ : BA), (⟨#[109, 111, 118, 101]⟩ : BA), (⟨#[115, 112, 108, 105, 116]⟩ : BA), (⟨#[103, 108, 117, 101]⟩ : BA), (⟨#[108, 111, 111, 107]⟩ : BA), (⟨#[110, 117, 109, 98, 101, 114]⟩ : BA), (⟨#[101, 97, 99, 104]⟩ : BA), (⟨#[99, 97, 115, 101]⟩ : BA), (⟨#[115, 101, 108, 101, 99, 116]⟩ : BA), (⟨#[116, 97, 103]⟩ : BA), (⟨#[117, 110, 116, 97, 103]⟩ : BA), (⟨#[102, 105, 108, 108]⟩ : BA)] : LB)) hc3
 replace h := h _ hw2
 exact kR [] (ND 0) (hQ _ (sat_some h))
theorem c1019_word {P : Program} {fid : Nat → FuncId} (mx : MX P) (k1019_word : KF P fid 1019 j1019_word) : C1019_word (SP P fid) f1019_word :=
 fun a0 Q R hQ h => spec_of_vc mx k1019_word (w1019_word a0 Q R hQ h)
def f1011a_1_L2 (s1 : BA) : Nat → Int → Option (Sum (Bool × Int) (Unit))
 | 0, v32 => some (.inr ())
 | g34 + 1, v32 => (f1019_word v32).bind fun s37 => cond (s37.toList == s1.toList) (lft (some (true, v32))) (f1011a_1_L2 s1 g34 (v32 + 1))
def f1011a_1 : BA → Int → BA → BA → Int → Int → Int → Int → Int → Int → BA → Option (Bool × Int)
 | s1, v2, s3, s4, v5, v6, v7, v8, v9, v10, s11 => sbind (ο := Unit) (grdP ((19 : Int) ≤ 9223372036854775807) (f1011a_1_L2 s1 ((19 : Int) - 0).toNat 0)) (fun () => some (false, v2))
def C1011a_1 (O : Oracle TT) (m : BA → Int → BA → BA → Int → Int → Int → Int → Int → Int → BA → Option (Bool × Int)) : Prop :=
 ∀ (s1 : BA) (v2 : Int) (s3 : BA) (s4 : BA) (v5 : Int) (v6 : Int) (v7 : Int) (v8 : Int) (v9 : Int) (v10 : Int) (s11 : BA) (Q : (Bool × Int) → Prop) (R : RR) (_ : ∀ (q39 : Bool) (v40 : Int), Q (q39, v40) → R (bD q39) [(.x 0, some (.var [ci v40, .str s3, .str s4, .nils, ci v5, ci v6, ci v7, .int .u8 v8, ci v9, ci v10, .str s11, .nils, .nils, .nils]))]) (_ : sat (m s1 v2 s3 s4 v5 v6 v7 v8 v9 v10 s11) Q), O 1011 [sD s1, pX 0] [(.x 0, some (.var [ci v2, .str s3, .str s4, .nils, ci v5, ci v6, ci v7, .int .u8 v8, ci v9, ci v10, .str s11, .nils, .nils, .nils]))] R
def j1011a_1 : Fn TT := ⟨15, [.t 3], (.seq (.reg [qo 3 (.mv bF)]) (.cut [] [(.x 0)] (.seq (.reg [qo 5 (.mv (iC 0))]) (.block 0 (.loop (.keep [0, 1, 5] [(.x 0)] (.aft (.seq (.reg [qo 6 (.bin .lss .num 5 (iC 19))]) (.seq (.cond 6 .skip (.exit 0)) (.seq (.block 1 (.seq (.reg [qo 7 (.mv 5),qo 4 (.mv 7)]) (.seq (.reg [qo 8 (.mv 4),qo 9 (.call 9 1019 [8]),qo 10 (.mv 0),qo 11 (.bin .eql .str 9 10)])
 (.cond 11 (.seq (.reg [qo 12 (.mv 4),qo 13 (.fa 1 0),qp (.store 13 12 1)]) (.seq (.reg [qo 3 (.mv bT)]) .ret)) .skip)))) (.reg [qo 14 (.bin .add .num 5 (iC 1)),qo 5 (.mv 14)])))) [.keep [0, 1, 5] [(.x 0)]]))))) (.seq (.reg [qo 3 (.mv bF)]) .ret)))⟩
theorem w1011a_1 {O : Oracle TT} (h1019_word : C1019_word O f1019_word) : C1011a_1 (fun _ => vcF (S := SS) O j1011a_1) f1011a_1 := by
 intro s1 v2 s3 s4 v5 v6 v7 v8 v9 v10 s11 Q R hQ h
 unfold f1011a_1 at h
 refine ⟨nle rfl, rfl, ?_⟩
 obtain ⟨R25, h, hlR25, hrR25⟩ := sat_sbind h
 refine kX (fun σ => R25 (.inr ()) ∧ σ = ⟨[], [(.x 0, some (.var [ci v2, .str s3, .str s4, .nils, ci v5, ci v6, ci v7, .int .u8 v8, ci v9, ci v10, .str s11, .nils, .nils, .nils]))]⟩) ?_ ?_
 obtain ⟨hN35, h⟩ := sat_grdP h
 refine kX (fun σ n => ∃ (f33 : Nat) (v32 : Int) (z : Int), f33 = n ∧ f33 = (19 - v32).toNat ∧ 0 ≤ v32 ∧ v32 = z ∧ sat (f1011a_1_L2 s1 f33 v32) R25 ∧ σ.keep [0, 1, 5] [(.x 0)] = ⟨[(0, sD s1), (1, pX 0), (5, iD z)], [(.x 0, some (.var [ci v2, .str s3, .str s4, .nils, ci v5, ci v6, ci v7, .int .u8 v8, ci v9, ci v10, .str s11, .nils, .nils, .nils]))]⟩) ⟨_, _, 0, _, rfl, rfl, (by decide), rfl, h, rfl⟩ ?_
 rintro σ n ⟨f33, v32, _, rfl, hf33, hpf33, rfl, h, hσ⟩
 refine kk hσ ?_
 intro t36 (ht36 : t36 = decide (v32 < 19))
 cases t36
 obtain rfl := il_nil hf33 ht36
 rw [f1011a_1_L2] at h
 conv => whnf
 exact ⟨sat_some h, rfl⟩
 obtain ⟨g34, rfl, hwg34, hpg34, hfg34⟩ := il_cons hf33 hpf33 ht36 hN35
 rw [f1011a_1_L2] at h
 refine kL [] (h1019_word _ _ _ ?_ (sat_bind h))
 rintro s37 h
 refine kc h (fun h => ?_) fun h => ?_
 conv => whnf
 exact ⟨g34, nls, g34, v32 + 1, _, rfl, hfg34, hpg34, hwg34.symm, h, rfl⟩
 replace h := sat_lft hlR25 h
 exact kR [] (ND 1) (hQ _ _ (sat_some h))
 rintro _ ⟨h, rfl⟩
 replace h := hrR25 _ h
 exact kR [] (ND 1) (hQ _ _ (sat_some h))
theorem c1011a_1 {P : Program} {fid : Nat → FuncId} (mx : MX P) (k1011a_1 : KF P fid 1011 j1011a_1) (h1019_word : C1019_word (SP P fid) f1019_word) : C1011a_1 (SP P fid) f1011a_1 :=
 fun a0 a1 a2 a3 a4 a5 a6 a7 a8 a9 a10 Q R hQ h => spec_of_vc mx k1011a_1 (w1011a_1 h1019_word a0 a1 a2 a3 a4 a5 a6 a7 a8 a9 a10 Q R hQ h)
def f1012d_take : BA → Int → Bool → Int → BA → BA → Int → Int → Int → Int → Int → Int → BA → Option (BA × Int × Bool × Int)
 | s1, v2, q3, v4, s5, s6, v7, v8, v9, v10, v11, v12, s13 => cond q3 ((f1013_peek s1 v2 true).bind fun (s14, q15) => cond q15 ((f1011a_1 s14 v4 s5 s6 v7 v8 v9 v10 v11 v12 s13).bind fun (q16, v17) => cond q16 (some (s14, (wrap .i64 (v2 + (wrap .i64 ((s14.size : Int) + 1)))), true, v17)) (some ((⟨#[]⟩ : BA), v2, false, v17))) (some ((⟨#[]⟩ : BA), v2, false, v4))) (some ((⟨#[]⟩ : BA), v2, false, v4))
def C1012d_take (O : Oracle TT) (m : BA → Int → Bool → Int → BA → BA → Int → Int → Int → Int → Int → Int → BA → Option (BA × Int × Bool × Int)) : Prop :=
 ∀ (s1 : BA) (v2 : Int) (q3 : Bool) (v4 : Int) (s5 : BA) (s6 : BA) (v7 : Int) (v8 : Int) (v9 : Int) (v10 : Int) (v11 : Int) (v12 : Int) (s13 : BA) (Q : (BA × Int × Bool × Int) → Prop) (R : RR) (_ : ∀ (s18 : BA) (v19 : Int) (q20 : Bool) (v21 : Int), Q (s18, v19, q20, v21) → R (sD s18) [(.x 0, some (.var [.str s1, ci v19, .bool q20])), (.x 1, some (.var [ci v21, .str s5, .str s6, .nils, ci v7, ci v8, ci v9, .int .u8 v10, ci v11, ci v12, .str s13, .nils, .nils, .nils]))]) (_ : sat (m s1 v2 q3 v4 s5 s6 v7 v8 v9 v10 v11 v12 s13) Q), O 1012 [pX 0, .c (.fn 1011 [(.x 1)])] [(.x 0, some (.var [.str s1, ci v2, .bool q3])), (.x 1, some (.var [ci v4, .str s5, .str s6, .nils, ci v7, ci v8, ci v9, .int .u8 v10, ci v11, ci v12, .str s13, .nils, .nils, .nils]))] R
def j1012d_take : Fn TT := ⟨39, [.t 4], (.seq (.reg [qo 4 (.mv sE)]) (.seq (.seq (.reg [qo 7 (.mv 0),qo 8 (.nilck 7),qo 9 (.fa 8 2),qo 10 (.load 9 1 false),qo 11 (.un .not 10)]) (.cond 11 (.seq (.reg [qo 4 (.mv sE)]) .ret) .skip)) (.seq (.reg [qo 13 (.mv 0),qo 14 (.call 14 1013 [13]),qo 12 (.mv 14),qo 15 (.ext 12 0),qo 16 (.ext 12 1),qo 5 (.mv 15),qo 6 (.mv 16)]) (.seq (.seq
 (.reg [qo 17 (.mv 6),qo 18 (.un .not 17),qo 19 (.mv 18),qf 19 20 (.mv 1),qf 19 21 (.mv 5),qf 19 22 (.callv 22 20 [21]),qf 19 23 (.un .not 22),qo 24 (.pick 19 bT 23)]) (.cond 24 (.seq (.reg [qo 25 (.mv 0),qo 26 (.nilck 25),qo 27 (.fa 26 2),qp (.store 27 bF 1)]) (.seq (.reg [qo 4 (.mv sE)]) .ret)) .skip)) (.seq (.reg [qo 28 (.mv 0),qo 29 (.nilck 28),qo 30 (.fa 29 1),
 qo 31 (.load 30 1 false),qo 32 (.mv 5),qo 33 (.len true 32),qo 34 (.bin .add .num 33 (iC 1)),qo 35 (.bin .add .num 31 34),qo 36 (.nilck 28),qo 37 (.fa 36 1),qp (.store 37 35 1)]) (.seq (.reg [qo 38 (.mv 5),qo 4 (.mv 38)]) .ret))))))⟩
theorem w1012d_take {O : Oracle TT} (h1013_peek : C1013_peek O f1013_peek) (h1011a_1 : C1011a_1 O f1011a_1) : C1012d_take (fun _ => vcF (S := SS) O j1012d_take) f1012d_take := by
 intro s1 v2 q3 v4 s5 s6 v7 v8 v9 v10 v11 v12 s13 Q R hQ h
 unfold f1012d_take at h
 refine ⟨nle rfl, rfl, ?_⟩
 cases q3
 replace h := sat_cf h
 exact kR [] (ND 2) (hQ _ _ _ _ (sat_some h))
 replace h := sat_ct h
 refine kL [(.x 0)] (h1013_peek _ _ _ _ _ ?_ (sat_bind h))
 rintro s14 q15 h
 cases q15
 replace h := sat_cf h
 exact kR [] (ND 2) (hQ _ _ _ _ (sat_some h))
 replace h := sat_ct h
 refine kL [(.x 1)] (h1011a_1 _ _ _ _ _ _ _ _ _ _ _ _ _ ?_ (sat_bind h))
 rintro q16 v17 h
 cases q16
 replace h := sat_cf h
 exact kR [] (ND 2) (hQ _ _ _ _ (sat_some h))
 replace h := sat_ct h
 exact kR [] (ND 2) (hQ _ _ _ _ (sat_some h))
theorem c1012d_take {P : Program} {fid : Nat → FuncId} (mx : MX P) (k1012d_take : KF P fid 1012 j1012d_take) (h1013_peek : C1013_peek (SP P fid) f1013_peek) (h1011a_1 : C1011a_1 (SP P fid) f1011a_1) : C1012d_take (SP P fid) f1012d_take :=
 fun a0 a1 a2 a3 a4 a5 a6 a7 a8 a9 a10 a11 a12 Q R hQ h => spec_of_vc mx k1012d_take (w1012d_take h1013_peek h1011a_1 a0 a1 a2 a3 a4 a5 a6 a7 a8 a9 a10 a11 a12 Q R hQ h)
def f1095_1 : BA → BA → Option (Bool)
 | s1, s2 => cond (s1.toList == s2.toList) (some true) (some false)
def C1095_1 (O : Oracle TT) (m : BA → BA → Option (Bool)) : Prop :=
 ∀ (s1 : BA) (s2 : BA) (Q : Bool → Prop) (R : RR) (_ : ∀ (q4 : Bool), Q q4 → R (bD q4) [(.x 0, some (.var [.str s2]))]) (_ : sat (m s1 s2) Q), O 1095 [sD s1, pX 0] [(.x 0, some (.var [.str s2]))] R
def j1095_1 : Fn TT := ⟨7, [.t 3], (.seq (.reg [qo 3 (.mv bF)]) (.seq (.reg [qo 4 (.mv 0),qo 5 (.load 1 1 false),qo 6 (.bin .eql .str 4 5),qo 3 (.mv 6)]) .ret))⟩
theorem w1095_1 {O : Oracle TT} : C1095_1 (fun _ => vcF (S := SS) O j1095_1) f1095_1 := by
 intro s1 s2 Q R hQ h
 unfold f1095_1 at h
 refine ⟨nle rfl, rfl, ?_⟩
 refine kc h (fun h => ?_) fun h => ?_
 exact kR [] (ND 1) (hQ _ (sat_some h))
 exact kR [] (ND 1) (hQ _ (sat_some h))
theorem c1095_1 {P : Program} {fid : Nat → FuncId} (mx : MX P) (k1095_1 : KF P fid 1095 j1095_1) : C1095_1 (SP P fid) f1095_1 :=
 fun a0 a1 Q R hQ h => spec_of_vc mx k1095_1 (w1095_1 a0 a1 Q R hQ h)
def f1012c_take : BA → Int → Bool → BA → Option (BA × Int × Bool)
 | s1, v2, q3, s4 => cond q3 ((f1013_peek s1 v2 true).bind fun (s5, q6) => cond q6 ((f1095_1 s5 s4).bind fun q7 => cond q7 (some (s5, (wrap .i64 (v2 + (wrap .i64 ((s5.size : Int) + 1)))), true)) (some ((⟨#[]⟩ : BA), v2, false))) (some ((⟨#[]⟩ : BA), v2, false))) (some ((⟨#[]⟩ : BA), v2, false))
def C1012c_take (O : Oracle TT) (m : BA → Int → Bool → BA → Option (BA × Int × Bool)) : Prop :=
 ∀ (s1 : BA) (v2 : Int) (q3 : Bool) (s4 : BA) (Q : (BA × Int × Bool) → Prop) (R : RR) (_ : ∀ (s8 : BA) (v9 : Int) (q10 : Bool), Q (s8, v9, q10) → R (sD s8) [(.x 0, some (.var [.str s1, ci v9, .bool q10])), (.x 1, some (.var [.str s4]))]) (_ : sat (m s1 v2 q3 s4) Q), O 1012 [pX 0, .c (.fn 1095 [(.x 1)])] [(.x 0, some (.var [.str s1, ci v2, .bool q3])), (.x 1, some (.var [.str s4]))] R
def j1012c_take : Fn TT := ⟨39, [.t 4], (.seq (.reg [qo 4 (.mv sE)]) (.seq (.seq (.reg [qo 7 (.mv 0),qo 8 (.nilck 7),qo 9 (.fa 8 2),qo 10 (.load 9 1 false),qo 11 (.un .not 10)]) (.cond 11 (.seq (.reg [qo 4 (.mv sE)]) .ret) .skip)) (.seq (.reg [qo 13 (.mv 0),qo 14 (.call 14 1013 [13]),qo 12 (.mv 14),qo 15 (.ext 12 0),qo 16 (.ext 12 1),qo 5 (.mv 15),qo 6 (.mv 16)]) (.seq (.seq
 (.reg [qo 17 (.mv 6),qo 18 (.un .not 17),qo 19 (.mv 18),qf 19 20 (.mv 1),qf 19 21 (.mv 5),qf 19 22 (.callv 22 20 [21]),qf 19 23 (.un .not 22),qo 24 (.pick 19 bT 23)]) (.cond 24 (.seq (.reg [qo 25 (.mv 0),qo 26 (.nilck 25),qo 27 (.fa 26 2),qp (.store 27 bF 1)]) (.seq (.reg [qo 4 (.mv sE)]) .ret)) .skip)) (.seq (.reg [qo 28 (.mv 0),qo 29 (.nilck 28),qo 30 (.fa 29 1),
 qo 31 (.load 30 1 false),qo 32 (.mv 5),qo 33 (.len true 32),qo 34 (.bin .add .num 33 (iC 1)),qo 35 (.bin .add .num 31 34),qo 36 (.nilck 28),qo 37 (.fa 36 1),qp (.store 37 35 1)]) (.seq (.reg [qo 38 (.mv 5),qo 4 (.mv 38)]) .ret))))))⟩
theorem w1012c_take {O : Oracle TT} (h1013_peek : C1013_peek O f1013_peek) (h1095_1 : C1095_1 O f1095_1) : C1012c_take (fun _ => vcF (S := SS) O j1012c_take) f1012c_take := by
 intro s1 v2 q3 s4 Q R hQ h
 unfold f1012c_take at h
 refine ⟨nle rfl, rfl, ?_⟩
 cases q3
 replace h := sat_cf h
 exact kR [] (ND 2) (hQ _ _ _ (sat_some h))
 replace h := sat_ct h
 refine kL [(.x 0)] (h1013_peek _ _ _ _ _ ?_ (sat_bind h))
 rintro s5 q6 h
 cases q6
 replace h := sat_cf h
 exact kR [] (ND 2) (hQ _ _ _ (sat_some h))
 replace h := sat_ct h
 refine kL [(.x 1)] (h1095_1 _ _ _ _ ?_ (sat_bind h))
 rintro q7 h
 cases q7
 replace h := sat_cf h
 exact kR [] (ND 2) (hQ _ _ _ (sat_some h))
 replace h := sat_ct h
 exact kR [] (ND 2) (hQ _ _ _ (sat_some h))
theorem c1012c_take {P : Program} {fid : Nat → FuncId} (mx : MX P) (k1012c_take : KF P fid 1012 j1012c_take) (h1013_peek : C1013_peek (SP P fid) f1013_peek) (h1095_1 : C1095_1 (SP P fid) f1095_1) : C1012c_take (SP P fid) f1012c_take :=
 fun a0 a1 a2 a3 Q R hQ h => spec_of_vc mx k1012c_take (w1012c_take h1013_peek h1095_1 a0 a1 a2 a3 Q R hQ h)
def f1094_must : BA → BA → Int → Bool → Option (Int × Bool)
 | s1, s2, v3, q4 => (f1012c_take s2 v3 q4 s1).bind fun (s5, v6, q7) => some (v6, q7)
def C1094_must (O : Oracle TT) (m : BA → BA → Int → Bool → Option (Int × Bool)) : Prop :=
 ∀ (s1 : BA) (s2 : BA) (v3 : Int) (q4 : Bool) (Q : (Int × Bool) → Prop) (R : RR) (_ : ∀ (v8 : Int) (q9 : Bool), Q (v8, q9) → R (.tup []) [(.x 0, some (.var [.str s2, ci v8, .bool q9]))]) (_ : sat (m s1 s2 v3 q4) Q), O 1094 [pX 0, sD s1] [(.x 0, some (.var [.str s2, ci v3, .bool q4]))] R
def j1094_must : Fn TT := ⟨7, [], (.seq (.reg [qo 3 (.box 3 1)]) (.reg [qo 4 (.mv 0),qo 5 (.mkf 1095 [3]),qo 6 (.call 6 1012 [4, 5])]))⟩
theorem w1094_must {O : Oracle TT} (h1012c_take : C1012c_take O f1012c_take) : C1094_must (fun _ => vcF (S := SS) O j1094_must) f1094_must := by
 intro s1 s2 v3 q4 Q R hQ h
 unfold f1094_must at h
 refine ⟨nle rfl, rfl, ?_⟩
 refine kL [(.x 0), (.s 3)] (h1012c_take _ _ _ _ _ _ ?_ (sat_bind h))
 rintro s5 v6 q7 h
 exact kR [] (ND 1) (hQ _ _ (sat_some h))
theorem c1094_must {P : Program} {fid : Nat → FuncId} (mx : MX P) (k1094_must : KF P fid 1094 j1094_must) (h1012c_take : C1012c_take (SP P fid) f1012c_take) : C1094_must (SP P fid) f1094_must :=
 fun a0 a1 a2 a3 Q R hQ h => spec_of_vc mx k1094_must (w1094_must h1012c_take a0 a1 a2 a3 Q R hQ h)
def f1096_is : BA → BA → Int → Bool → Option (Bool × Int × Bool)
 | s1, s2, v3, q4 => (f1013_peek s2 v3 q4).bind fun (s5, q6) => cond q4 (cond q6 (cond (s5.toList == s1.toList) (some (true, (wrap .i64 (v3 + (wrap .i64 ((s5.size : Int) + 1)))), true)) (some (false, v3, true))) (some (false, v3, true))) (some (false, v3, false))
def C1096_is (O : Oracle TT) (m : BA → BA → Int → Bool → Option (Bool × Int × Bool)) : Prop :=
 ∀ (s1 : BA) (s2 : BA) (v3 : Int) (q4 : Bool) (Q : (Bool × Int × Bool) → Prop) (R : RR) (_ : ∀ (q8 : Bool) (v9 : Int) (q10 : Bool), Q (q8, v9, q10) → R (bD q8) [(.x 0, some (.var [.str s2, ci v9, .bool q10]))]) (_ : sat (m s1 s2 v3 q4) Q), O 1096 [pX 0, sD s1] [(.x 0, some (.var [.str s2, ci v3, .bool q4]))] R
def j1096_is : Fn TT := ⟨34, [.t 4], (.seq (.reg [qo 4 (.mv bF)]) (.seq (.reg [qo 8 (.mv 0),qo 9 (.call 9 1013 [8]),qo 7 (.mv 9),qo 10 (.ext 7 0),qo 11 (.ext 7 1),qo 5 (.mv 10),qo 6 (.mv 11)]) (.seq (.seq (.reg [qo 12 (.mv 0),qo 13 (.nilck 12),qo 14 (.fa 13 2),qo 15 (.load 14 1 false),qo 16 (.mv 15),qg 16 17 (.mv 6),qo 18 (.pick 16 17 bF),qo 19 (.mv 18),qg 19 20 (.mv 5),
 qg 19 21 (.mv 1),qg 19 22 (.bin .eql .str 20 21),qo 23 (.pick 19 22 bF)]) (.cond 23 (.seq (.reg [qo 24 (.mv 0),qo 25 (.nilck 24),qo 26 (.fa 25 1),qo 27 (.load 26 1 false),qo 28 (.mv 5),qo 29 (.len true 28),qo 30 (.bin .add .num 29 (iC 1)),qo 31 (.bin .add .num 27 30),qo 32 (.nilck 24),qo 33 (.fa 32 1),qp (.store 33 31 1)]) (.seq (.reg [qo 4 (.mv bT)]) .ret)) .skip)) (.seq
 (.reg [qo 4 (.mv bF)]) .ret))))⟩
theorem w1096_is {O : Oracle TT} (h1013_peek : C1013_peek O f1013_peek) : C1096_is (fun _ => vcF (S := SS) O j1096_is) f1096_is := by
 intro s1 s2 v3 q4 Q R hQ h
 unfold f1096_is at h
 refine ⟨nle rfl, rfl, ?_⟩
 refine kL [(.x 0)] (h1013_peek _ _ _ _ _ ?_ (sat_bind h))
 rintro s5 q6 h
 cases q4
 replace h := sat_cf h
 exact kR [] (ND 1) (hQ _ _ _ (sat_some h))
 replace h := sat_ct h
 cases q6
 replace h := sat_cf h
 exact kR [] (ND 1) (hQ _ _ _ (sat_some h))
 replace h := sat_ct h
 refine kc h (fun h => ?_) fun h => ?_
 exact kR [] (ND 1) (hQ _ _ _ (sat_some h))
 exact kR [] (ND 1) (hQ _ _ _ (sat_some h))
theorem c1096_is {P : Program} {fid : Nat → FuncId} (mx : MX P) (k1096_is : KF P fid 1096 j1096_is) (h1013_peek : C1013_peek (SP P fid) f1013_peek) : C1096_is (SP P fid) f1096_is :=
 fun a0 a1 a2 a3 Q R hQ h => spec_of_vc mx k1096_is (w1096_is h1013_peek a0 a1 a2 a3 Q R hQ h)
def f1098_1 (fuel : Nat) : BA → BA → Option (Bool × BA)
 | s1, s2 => (f1007_unquote fuel s1).bind fun (s3, q4) => some (q4, s3)
def C1098_1 (O : Oracle TT) (m : BA → BA → Option (Bool × BA)) : Prop :=
 ∀ (s1 : BA) (s2 : BA) (Q : (Bool × BA) → Prop) (R : RR) (_ : ∀ (q5 : Bool) (s6 : BA), Q (q5, s6) → R (bD q5) [(.x 0, some (.var [.str s6]))]) (_ : sat (m s1 s2) Q), O 1098 [sD s1, pX 0] [(.x 0, some (.var [.str s2]))] R
def j1098_1 : Fn TT := ⟨13, [.t 3], (.seq (.reg [qo 3 (.mv bF)]) (.seq (.reg [qo 7 (.mv 0),qo 8 (.call 8 1007 [7]),qo 6 (.mv 8),qo 9 (.ext 6 0),qo 10 (.ext 6 1),qo 4 (.mv 9),qo 5 (.mv 10)]) (.seq (.reg [qo 11 (.mv 4),qp (.store 1 11 1)]) (.seq (.reg [qo 12 (.mv 5),qo 3 (.mv 12)]) .ret))))⟩
theorem w1098_1 {O : Oracle TT} (fuel : Nat) (h1007_unquote : C1007_unquote O (f1007_unquote fuel)) : C1098_1 (fun _ => vcF (S := SS) O j1098_1) (f1098_1 fuel) := by
 intro s1 s2 Q R hQ h
 unfold f1098_1 at h
 refine ⟨nle rfl, rfl, ?_⟩
 refine kL [] (h1007_unquote _ _ _ ?_ (sat_bind h))
 rintro s3 q4 h
 exact kR [] (ND 1) (hQ _ _ (sat_some h))
theorem c1098_1 {P : Program} {fid : Nat → FuncId} (mx : MX P) (k1098_1 : KF P fid 1098 j1098_1) (h1007_unquote : ∀ n, C1007_unquote (SP P fid) (f1007_unquote n)) : ∀ n, C1098_1 (SP P fid) (f1098_1 n) :=
 fun n => fun a0 a1 Q R hQ h => spec_of_vc mx k1098_1 (w1098_1 n (h1007_unquote n) a0 a1 Q R hQ h)
def f1012e_take (fuel : Nat) : BA → Int → Bool → BA → Option (BA × Int × Bool × BA)
 | s1, v2, q3, s4 => cond q3 ((f1013_peek s1 v2 true).bind fun (s5, q6) => cond q6 ((f1098_1 fuel s5 s4).bind fun (q7, s8) => cond q7 (some (s5, (wrap .i64 (v2 + (wrap .i64 ((s5.size : Int) + 1)))), true, s8)) (some ((⟨#[]⟩ : BA), v2, false, s8))) (some ((⟨#[]⟩ : BA), v2, false, s4))) (some ((⟨#[]⟩ : BA), v2, false, s4))
def C1012e_take (O : Oracle TT) (m : BA → Int → Bool → BA → Option (BA × Int × Bool × BA)) : Prop :=
 ∀ (s1 : BA) (v2 : Int) (q3 : Bool) (s4 : BA) (Q : (BA × Int × Bool × BA) → Prop) (R : RR) (_ : ∀ (s9 : BA) (v10 : Int) (q11 : Bool) (s12 : BA), Q (s9, v10, q11, s12) → R (sD s9) [(.x 0, some (.var [.str s1, ci v10, .bool q11])), (.x 1, some (.var [.str s12]))]) (_ : sat (m s1 v2 q3 s4) Q), O 1012 [pX 0, .c (.fn 1098 [(.x 1)])] [(.x 0, some (.var [.str s1, ci v2, .bool q3])), (.x 1, some (.var [.str s4]))] R
def j1012e_take : Fn TT := ⟨39, [.t 4], (.seq (.reg [qo 4 (.mv sE)]) (.seq (.seq (.reg [qo 7 (.mv 0),qo 8 (.nilck 7),qo 9 (.fa 8 2),qo 10 (.load 9 1 false),qo 11 (.un .not 10)]) (.cond 11 (.seq (.reg [qo 4 (.mv sE)]) .ret) .skip)) (.seq (.reg [qo 13 (.mv 0),qo 14 (.call 14 1013 [13]),qo 12 (.mv 14),qo 15 (.ext 12 0),qo 16 (.ext 12 1),qo 5 (.mv 15),qo 6 (.mv 16)]) (.seq (.seq
 (.reg [qo 17 (.mv 6),qo 18 (.un .not 17),qo 19 (.mv 18),qf 19 20 (.mv 1),qf 19 21 (.mv 5),qf 19 22 (.callv 22 20 [21]),qf 19 23 (.un .not 22),qo 24 (.pick 19 bT 23)]) (.cond 24 (.seq (.reg [qo 25 (.mv 0),qo 26 (.nilck 25),qo 27 (.fa 26 2),qp (.store 27 bF 1)]) (.seq (.reg [qo 4 (.mv sE)]) .ret)) .skip)) (.seq (.reg [qo 28 (.mv 0),qo 29 (.nilck 28),qo 30 (.fa 29 1),
 qo 31 (.load 30 1 false),qo 32 (.mv 5),qo 33 (.len true 32),qo 34 (.bin .add .num 33 (iC 1)),qo 35 (.bin .add .num 31 34),qo 36 (.nilck 28),qo 37 (.fa 36 1),qp (.store 37 35 1)]) (.seq (.reg [qo 38 (.mv 5),qo 4 (.mv 38)]) .ret))))))⟩
theorem w1012e_take {O : Oracle TT} (fuel : Nat) (h1013_peek : C1013_peek O f1013_peek) (h1098_1 : C1098_1 O (f1098_1 fuel)) : C1012e_take (fun _ => vcF (S := SS) O j1012e_take) (f1012e_take fuel) := by
 intro s1 v2 q3 s4 Q R hQ h
 unfold f1012e_take at h
 refine ⟨nle rfl, rfl, ?_⟩
 cases q3
 replace h := sat_cf h
 exact kR [] (ND 2) (hQ _ _ _ _ (sat_some h))
 replace h := sat_ct h
 refine kL [(.x 0)] (h1013_peek _ _ _ _ _ ?_ (sat_bind h))
 rintro s5 q6 h
 cases q6
 replace h := sat_cf h
 exact kR [] (ND 2) (hQ _ _ _ _ (sat_some h))
 replace h := sat_ct h
 refine kL [(.x 1)] (h1098_1 _ _ _ _ ?_ (sat_bind h))
 rintro q7 s8 h
 cases q7
 replace h := sat_cf h
 exact kR [] (ND 2) (hQ _ _ _ _ (sat_some h))
 replace h := sat_ct h
 exact kR [] (ND 2) (hQ _ _ _ _ (sat_some h))
theorem c1012e_take {P : Program} {fid : Nat → FuncId} (mx : MX P) (k1012e_take : KF P fid 1012 j1012e_take) (h1013_peek : C1013_peek (SP P fid) f1013_peek) (h1098_1 : ∀ n, C1098_1 (SP P fid) (f1098_1 n)) : ∀ n, C1012e_take (SP P fid) (f1012e_take n) :=
 fun n => fun a0 a1 a2 a3 Q R hQ h => spec_of_vc mx k1012e_take (w1012e_take n h1013_peek (h1098_1 n) a0 a1 a2 a3 Q R hQ h)
def f1097_quoted (fuel : Nat) : BA → Int → Bool → Option (BA × Int × Bool)
 | s1, v2, q3 => (f1012e_take fuel s1 v2 q3 (⟨#[]⟩ : BA)).bind fun (s4, v5, q6, s7) => some (s7, v5, q6)
def C1097_quoted (O : Oracle TT) (m : BA → Int → Bool → Option (BA × Int × Bool)) : Prop :=
 ∀ (s1 : BA) (v2 : Int) (q3 : Bool) (Q : (BA × Int × Bool) → Prop) (R : RR) (_ : ∀ (s8 : BA) (v9 : Int) (q10 : Bool), Q (s8, v9, q10) → R (sD s8) [(.x 0, some (.var [.str s1, ci v9, .bool q10]))]) (_ : sat (m s1 v2 q3) Q), O 1097 [pX 0] [(.x 0, some (.var [.str s1, ci v2, .bool q3]))] R
def j1097_quoted : Fn TT := ⟨8, [.t 2], (.seq (.reg [qo 2 (.mv sE)]) (.seq (.reg [qo 3 (.alloc 3 [.str eB]),qp (.store 3 sE 1)]) (.seq (.reg [qo 4 (.mv 0),qo 5 (.mkf 1098 [3]),qo 6 (.call 6 1012 [4, 5])]) (.seq (.reg [qo 7 (.load 3 1 false),qo 2 (.mv 7)]) .ret))))⟩
theorem w1097_quoted {O : Oracle TT} (fuel : Nat) (h1012e_take : C1012e_take O (f1012e_take fuel)) : C1097_quoted (fun _ => vcF (S := SS) O j1097_quoted) (f1097_quoted fuel) := by
 intro s1 v2 q3 Q R hQ h
 unfold f1097_quoted at h
 refine ⟨nle rfl, rfl, ?_⟩
 refine kL [(.x 0), (.s 3)] (h1012e_take _ _ _ _ _ _ ?_ (sat_bind h))
 rintro s4 v5 q6 s7 h
 exact kR [] (ND 1) (hQ _ _ _ (sat_some h))
theorem c1097_quoted {P : Program} {fid : Nat → FuncId} (mx : MX P) (k1097_quoted : KF P fid 1097 j1097_quoted) (h1012e_take : ∀ n, C1012e_take (SP P fid) (f1012e_take n)) : ∀ n, C1097_quoted (SP P fid) (f1097_quoted n) :=
 fun n => fun a0 a1 a2 Q R hQ h => spec_of_vc mx k1097_quoted (w1097_quoted n (h1012e_take n) a0 a1 a2 Q R hQ h)
def f1008_kindOf_L2 (s1 : BA) : Nat → Int → Option (Sum (Int) (Unit))
 | 0, v28 => some (.inr ())
 | g30 + 1, v28 => getL ([(⟨#[117, 110, 105, 116]⟩ : BA), (⟨#[98, 111, 111, 108]⟩ : BA), (⟨#[105, 110, 116]⟩ : BA), (⟨#[102, 108, 111, 97, 116]⟩ : BA), (⟨#[100, 97, 121]⟩ : BA), (⟨#[116, 101, 120, 116]⟩ : BA), (⟨#[114, 101, 99, 111, 114, 100]⟩ : BA), (⟨#[99, 104, 111, 105, 99, 101]⟩ : BA), (⟨#[108, 105, 115, 116]⟩ : BA), (⟨#[109, 97, 112]⟩ : BA), (⟨#[]⟩ : BA), (⟨#[109, 97, 114, 107]⟩ : BA)] : LB) v28 fun w33 => cond (!(w33.toList == (⟨#[]⟩ : BA).toList)) (cond (w33.toList == s1.toList) (lft (some v28)) (f1008_kindOf_L2 s1 g30 (v28 + 1))) (f1008_kindOf_L2 s1 g30 (v28 + 1))
def f1008_kindOf : BA → Option (Int)
 | s1 => sbind (ο := Unit) (grdP ((12 : Int) ≤ 9223372036854775807) (f1008_kindOf_L2 s1 ((12 : Int) - 0).toNat 0)) (fun () => some (-1))
def C1008_kindOf (O : Oracle TT) (m : BA → Option (Int)) : Prop :=
 ∀ (s1 : BA) (Q : Int → Prop) (R : RR) (_ : ∀ (v37 : Int), Q v37 → R (iD v37) []) (_ : sat (m s1) Q), O 1008 [sD s1] [] R
def j1008_kindOf : Fn TT := ⟨19, [.t 2], (.seq (.reg [qo 2 (.mv (iC 0))]) (.cut [] [] (.seq
 (.reg [qo 5 (.build [.str eB, .str eB, .str eB, .str eB, .str eB, .str eB, .str eB, .str eB, .str eB, .str eB, .str eB, .str eB] [((0, 1), (.c (.str (⟨#[117, 110, 105, 116]⟩ : BA)))), ((1, 1), (.c (.str (⟨#[98, 111, 111, 108]⟩ : BA)))), ((2, 1), (.c (.str (⟨#[105, 110, 116]⟩ : BA)))), ((3, 1), (.c (.str (⟨#[102, 108, 111, 97, 116]⟩ : BA)))), ((4, 1), (.c (.str (⟨#[100, 97, 121]⟩ : BA)))), ((5, 1), (.c (.str (⟨#[116, 101, 120, 116]⟩ : BA)))), ((6, 1), (.c (.str (⟨#[114, 101, 99, 111, 114, 100]⟩ : BA)))), ((7, 1), (.c (.str (⟨#[99, 104, 111, 105, 99, 101]⟩ : BA)))), ((8, 1), (.c (.str (⟨#[108, 105, 115, 116]⟩ : BA)))), ((9, 1), (.c (.str (⟨#[109, 97, 112]⟩ : BA)))), ((11, 1), (.c (.str (⟨#[109, 97, 114, 107]⟩ : BA))))]),
 qo 6 (.mv (iC 0))]) (.block 0 (.loop (.keep [0, 5, 6] [] (.aft (.seq (.reg [qo 7 (.bin .lss .num 6 (iC 12))]) (.seq (.cond 7 .skip (.exit 0)) (.seq (.block 1 (.seq (.reg [qo 8 (.mv 6),qo 9 (.idxG 5 6 12),qo 3 (.mv 8),qo 4 (.mv 9)]) (.seq (.reg [qo 10 (.mv 4),qo 11 (.bin .neq .str 10 sE),qo 12 (.mv 11),qg 12 13 (.mv 4),qg 12 14 (.mv 0),qg 12 15 (.bin .eql .str 13 14),
 qo 16 (.pick 12 15 bF)]) (.cond 16 (.seq (.reg [qo 17 (.mv 3),qo 2 (.mv 17)]) .ret) .skip)))) (.reg [qo 18 (.bin .add .num 6 (iC 1)),qo 6 (.mv 18)])))) [.keep [0, 5, 6] []]))))) (.seq (.reg [qo 2 (.mv (iC (-1)))]) .ret)))⟩
theorem w1008_kindOf {O : Oracle TT} : C1008_kindOf (fun _ => vcF (S := SS) O j1008_kindOf) f1008_kindOf := by
 intro s1 Q R hQ h
 unfold f1008_kindOf at h
 refine ⟨nle rfl, rfl, ?_⟩
 obtain ⟨R19, h, hlR19, hrR19⟩ := sat_sbind h
 refine kX (fun σ => R19 (.inr ()) ∧ σ = ⟨[], []⟩) ?_ ?_
 obtain ⟨hN31, h⟩ := sat_grdP h
 refine kX (fun σ n => ∃ (f29 : Nat) (v28 : Int) (z : Int), f29 = n ∧ f29 = (12 - v28).toNat ∧ 0 ≤ v28 ∧ v28 = z ∧ sat (f1008_kindOf_L2 s1 f29 v28) R19 ∧ σ.keep [0, 5, 6] [] = ⟨[(0, sD s1), (5, .agg [.str (⟨#[117, 110, 105, 116]⟩ : BA), .str (⟨#[98, 111, 111, 108]⟩ : BA), .str (⟨#[105, 110, 116]⟩ : BA), .str (⟨#[102, 108, 111, 97, 116]⟩ : BA), .str (⟨#[100, 97, 121]⟩ : BA), .str (⟨#[116, 101, 120, 116]⟩ : BA), .str (⟨#[114, 101, 99, 111, 114, 100]⟩ : BA), .str (⟨#[99, 104, 111, 105, 99, 101]⟩ : BA), .str (⟨#[108, 105, 115, 116]⟩ : BA), .str (⟨#[109, 97, 112]⟩ : BA), .str (⟨#[]⟩ : BA), .str (⟨#[109, 97, 114, 107]⟩ : BA)]), (6, iD z)], []⟩) ⟨_, _, 0, _, rfl, rfl, (by decide), rfl, h, rfl⟩ ?_
 rintro σ n ⟨f29, v28, _, rfl, hf29, hpf29, rfl, h, hσ⟩
 refine kk hσ ?_
 intro t32 (ht32 : t32 = decide (v28 < 12))
 cases t32
 obtain rfl := il_nil hf29 ht32
 rw [f1008_kindOf_L2] at h
 conv => whnf
 exact ⟨sat_some h, rfl⟩
 obtain ⟨g30, rfl, hwg30, hpg30, hfg30⟩ := il_cons hf29 hpf29 ht32 hN31
 rw [f1008_kindOf_L2] at h
 conv => whnf
 obtain ⟨hbw33, h⟩ := sat_getL h
 refine ⟨hbw33, by decide, fun c34 hc34 => ?_⟩
 obtain ⟨w33, hw33, rfl⟩ := map_get (f := (C.str : _ → C TT)) (xs := ([(⟨#[117, 110, 105, 116]⟩ : BA), (⟨#[98, 111, 111, 108]⟩ : BA), (⟨#[105, 110, 116]⟩ : BA), (⟨#[102, 108, 111, 97, 116]⟩ : BA), (⟨#[100, 97, 121]⟩ : BA), (⟨#[116, 101, 120, 116]⟩ : BA), (⟨#[114, 101, 99, 111, 114, 100]⟩ : BA), (⟨#[99, 104, 111, 105, 99, 101]⟩ : BA), (⟨#[108, 105, 115, 116]⟩ : BA), (⟨#[109, 97, 112]⟩ : BA), (⟨#[]⟩ : BA), (⟨#[109, 97, 114, 107]⟩ : BA)] : LB)) hc34
 replace h := h _ hw33
 refine kc h (fun h => ?_) fun h => ?_
 conv => whnf
 exact ⟨g30, nls, g30, v28 + 1, _, rfl, hfg30, hpg30, hwg30.symm, h, rfl⟩
 refine kc h (fun h => ?_) fun h => ?_
 conv => whnf
 exact ⟨g30, nls, g30, v28 + 1, _, rfl, hfg30, hpg30, hwg30.symm, h, rfl⟩
 replace h := sat_lft hlR19 h
 exact kR [] (ND 0) (hQ _ (sat_some h))
 rintro _ ⟨h, rfl⟩
 replace h := hrR19 _ h
 exact kR [] (ND 0) (hQ _ (sat_some h))
theorem c1008_kindOf {P : Program} {fid : Nat → FuncId} (mx : MX P) (k1008_kindOf : KF P fid 1008 j1008_kindOf) : C1008_kindOf (SP P fid) f1008_kindOf :=
 fun a0 Q R hQ h => spec_of_vc mx k1008_kindOf (w1008_kindOf a0 Q R hQ h)
def f1100_1 : BA → Option (Bool)
 | s1 => (f1008_kindOf s1).bind fun v2 => cond (decide (v2 ≥ 0)) (some true) (some false)
def C1100_1 (O : Oracle TT) (m : BA → Option (Bool)) : Prop :=
 ∀ (s1 : BA) (Q : Bool → Prop) (R : RR) (_ : ∀ (q4 : Bool), Q q4 → R (bD q4) []) (_ : sat (m s1) Q), O 1100 [sD s1] [] R
def j1100_1 : Fn TT := ⟨6, [.t 2], (.seq (.reg [qo 2 (.mv bF)]) (.seq (.reg [qo 3 (.mv 0),qo 4 (.call 4 1008 [3]),qo 5 (.bin .geq .num 4 (iC 0)),qo 2 (.mv 5)]) .ret))⟩
theorem w1100_1 {O : Oracle TT} (h1008_kindOf : C1008_kindOf O f1008_kindOf) : C1100_1 (fun _ => vcF (S := SS) O j1100_1) f1100_1 := by
 intro s1 Q R hQ h
 unfold f1100_1 at h
 refine ⟨nle rfl, rfl, ?_⟩
 refine kL [] (h1008_kindOf _ _ _ ?_ (sat_bind h))
 rintro v2 h
 refine kc h (fun h => ?_) fun h => ?_
 exact kR [] (ND 0) (hQ _ (sat_some h))
 exact kR [] (ND 0) (hQ _ (sat_some h))
theorem c1100_1 {P : Program} {fid : Nat → FuncId} (mx : MX P) (k1100_1 : KF P fid 1100 j1100_1) (h1008_kindOf : C1008_kindOf (SP P fid) f1008_kindOf) : C1100_1 (SP P fid) f1100_1 :=
 fun a0 Q R hQ h => spec_of_vc mx k1100_1 (w1100_1 h1008_kindOf a0 Q R hQ h)
def f1012f_take : BA → Int → Bool → Option (BA × Int × Bool)
 | s1, v2, q3 => cond q3 ((f1013_peek s1 v2 true).bind fun (s4, q5) => cond q5 ((f1100_1 s4).bind fun q6 => cond q6 (some (s4, (wrap .i64 (v2 + (wrap .i64 ((s4.size : Int) + 1)))), true)) (some ((⟨#[]⟩ : BA), v2, false))) (some ((⟨#[]⟩ : BA), v2, false))) (some ((⟨#[]⟩ : BA), v2, false))
def C1012f_take (O : Oracle TT) (m : BA → Int → Bool → Option (BA × Int × Bool)) : Prop :=
 ∀ (s1 : BA) (v2 : Int) (q3 : Bool) (Q : (BA × Int × Bool) → Prop) (R : RR) (_ : ∀ (s7 : BA) (v8 : Int) (q9 : Bool), Q (s7, v8, q9) → R (sD s7) [(.x 0, some (.var [.str s1, ci v8, .bool q9]))]) (_ : sat (m s1 v2 q3) Q), O 1012 [pX 0, .c (.fn 1100 [])] [(.x 0, some (.var [.str s1, ci v2, .bool q3]))] R
def j1012f_take : Fn TT := ⟨39, [.t 4], (.seq (.reg [qo 4 (.mv sE)]) (.seq (.seq (.reg [qo 7 (.mv 0),qo 8 (.nilck 7),qo 9 (.fa 8 2),qo 10 (.load 9 1 false),qo 11 (.un .not 10)]) (.cond 11 (.seq (.reg [qo 4 (.mv sE)]) .ret) .skip)) (.seq (.reg [qo 13 (.mv 0),qo 14 (.call 14 1013 [13]),qo 12 (.mv 14),qo 15 (.ext 12 0),qo 16 (.ext 12 1),qo 5 (.mv 15),qo 6 (.mv 16)]) (.seq (.seq
 (.reg [qo 17 (.mv 6),qo 18 (.un .not 17),qo 19 (.mv 18),qf 19 20 (.mv 1),qf 19 21 (.mv 5),qf 19 22 (.callv 22 20 [21]),qf 19 23 (.un .not 22),qo 24 (.pick 19 bT 23)]) (.cond 24 (.seq (.reg [qo 25 (.mv 0),qo 26 (.nilck 25),qo 27 (.fa 26 2),qp (.store 27 bF 1)]) (.seq (.reg [qo 4 (.mv sE)]) .ret)) .skip)) (.seq (.reg [qo 28 (.mv 0),qo 29 (.nilck 28),qo 30 (.fa 29 1),
 qo 31 (.load 30 1 false),qo 32 (.mv 5),qo 33 (.len true 32),qo 34 (.bin .add .num 33 (iC 1)),qo 35 (.bin .add .num 31 34),qo 36 (.nilck 28),qo 37 (.fa 36 1),qp (.store 37 35 1)]) (.seq (.reg [qo 38 (.mv 5),qo 4 (.mv 38)]) .ret))))))⟩
theorem w1012f_take {O : Oracle TT} (h1013_peek : C1013_peek O f1013_peek) (h1100_1 : C1100_1 O f1100_1) : C1012f_take (fun _ => vcF (S := SS) O j1012f_take) f1012f_take := by
 intro s1 v2 q3 Q R hQ h
 unfold f1012f_take at h
 refine ⟨nle rfl, rfl, ?_⟩
 cases q3
 replace h := sat_cf h
 exact kR [] (ND 1) (hQ _ _ _ (sat_some h))
 replace h := sat_ct h
 refine kL [(.x 0)] (h1013_peek _ _ _ _ _ ?_ (sat_bind h))
 rintro s4 q5 h
 cases q5
 replace h := sat_cf h
 exact kR [] (ND 1) (hQ _ _ _ (sat_some h))
 replace h := sat_ct h
 refine kL [] (h1100_1 _ _ _ ?_ (sat_bind h))
 rintro q6 h
 cases q6
 replace h := sat_cf h
 exact kR [] (ND 1) (hQ _ _ _ (sat_some h))
 replace h := sat_ct h
 exact kR [] (ND 1) (hQ _ _ _ (sat_some h))
theorem c1012f_take {P : Program} {fid : Nat → FuncId} (mx : MX P) (k1012f_take : KF P fid 1012 j1012f_take) (h1013_peek : C1013_peek (SP P fid) f1013_peek) (h1100_1 : C1100_1 (SP P fid) f1100_1) : C1012f_take (SP P fid) f1012f_take :=
 fun a0 a1 a2 Q R hQ h => spec_of_vc mx k1012f_take (w1012f_take h1013_peek h1100_1 a0 a1 a2 Q R hQ h)
def hexB : BA := ⟨#[48, 49, 50, 51, 52, 53, 54, 55, 56, 57, 97, 98, 99, 100, 101, 102]⟩
def f1020_Trim : BA → BA → Option BA
 | s, c => grdP (c.data.toList = hexB.data.toList ∧ s.size ≤ 9223372036854775807) (some ⟨(Lib.trimS s.data.toList c.data.toList).toArray⟩)
def C1020_Trim (O : Oracle TT) (m : BA → BA → Option (BA)) : Prop :=
 ∀ (s1 : BA) (s2 : BA) (Q : BA → Prop) (R : RR) (_ : ∀ (s3 : BA), Q s3 → R (sD s3) []) (_ : sat (m s1 s2) Q), O 1020 [sD s1, sD s2] [] R
def f1102_2 : BA → Int → Int → BA → Option (Bool × Int)
 | s1, v2, v3, s4 => (f1088_ParseUint s1 (16 : Int) (64 : Int)).bind fun (v5, q6) => cond (bne q6 false) (cond ((s1.size : Int) == 16) ((f1020_Trim s1 (⟨#[48, 49, 50, 51, 52, 53, 54, 55, 56, 57, 97, 98, 99, 100, 101, 102]⟩ : BA)).bind fun s9 => cond (s9.toList == (⟨#[]⟩ : BA).toList) (some (true, (wrap .i64 v5))) (some (false, (wrap .i64 v5)))) (some (false, (wrap .i64 v5)))) (some (false, (wrap .i64 v5)))
def C1102_2 (O : Oracle TT) (m : BA → Int → Int → BA → Option (Bool × Int)) : Prop :=
 ∀ (s1 : BA) (v2 : Int) (v3 : Int) (s4 : BA) (Q : (Bool × Int) → Prop) (R : RR) (_ : ∀ (q11 : Bool) (v12 : Int), Q (q11, v12) → R (bD q11) [(.x 0, some (.var [ci v2, ci v12, .str s4, .nils]))]) (_ : sat (m s1 v2 v3 s4) Q), O 1102 [sD s1, pX 0] [(.x 0, some (.var [ci v2, ci v3, .str s4, .nils]))] R
def j1102_2 : Fn TT := ⟨26, [.t 3], (.seq (.reg [qo 3 (.mv bF)]) (.seq (.reg [qo 7 (.mv 0),qo 8 (.call 8 1088 [7, (iC 16), (iC 64)]),qo 6 (.mv 8),qo 9 (.ext 6 0),qo 10 (.ext 6 1),qo 4 (.mv 9),qo 5 (.mv 10)]) (.seq (.reg [qo 11 (.mv 4),qo 12 (.conv .i64 11),qo 13 (.fa 1 1),qp (.store 13 12 1)]) (.seq (.reg [qo 14 (.mv 5),qo 15 (.isnil false 14),qo 16 (.mv 15),qg 16 17 (.mv 0),
 qg 16 18 (.len true 17),qg 16 19 (.bin .eql .num 18 (iC 16)),qo 20 (.pick 16 19 bF),qo 21 (.mv 20),qg 21 22 (.mv 0),qg 21 23 (.call 23 1020 [22, (.c (.str (⟨#[48, 49, 50, 51, 52, 53, 54, 55, 56, 57, 97, 98, 99, 100, 101, 102]⟩ : BA)))]),qg 21 24 (.bin .eql .str 23 sE),qo 25 (.pick 21 24 bF),qo 3 (.mv 25)]) .ret))))⟩
theorem w1102_2 {O : Oracle TT} (h1088_ParseUint : C1088_ParseUint O f1088_ParseUint) (h1020_Trim : C1020_Trim O f1020_Trim) : C1102_2 (fun _ => vcF (S := SS) O j1102_2) f1102_2 := by
 intro s1 v2 v3 s4 Q R hQ h
 unfold f1102_2 at h
 refine ⟨nle rfl, rfl, ?_⟩
 refine kL [] (h1088_ParseUint _ _ _ _ _ ?_ (sat_bind h))
 rintro v5 q6 h
 refine kc h (fun h => ?_) fun h => ?_
 exact kR [] (ND 1) (hQ _ _ (sat_some h))
 refine kc h (fun h => ?_) fun h => ?_
 exact kR [] (ND 1) (hQ _ _ (sat_some h))
 refine kL [] (h1020_Trim _ _ _ _ ?_ (sat_bind h))
 rintro s9 h
 refine kc h (fun h => ?_) fun h => ?_
 exact kR [] (ND 1) (hQ _ _ (sat_some h))
 exact kR [] (ND 1) (hQ _ _ (sat_some h))
theorem c1102_2 {P : Program} {fid : Nat → FuncId} (mx : MX P) (k1102_2 : KF P fid 1102 j1102_2) (h1088_ParseUint : C1088_ParseUint (SP P fid) f1088_ParseUint) (h1020_Trim : C1020_Trim (SP P fid) f1020_Trim) : C1102_2 (SP P fid) f1102_2 :=
 fun a0 a1 a2 a3 Q R hQ h => spec_of_vc mx k1102_2 (w1102_2 h1088_ParseUint h1020_Trim a0 a1 a2 a3 Q R hQ h)
def f1012g_take : BA → Int → Bool → Int → Int → BA → Option (BA × Int × Bool × Int)
 | s1, v2, q3, v4, v5, s6 => cond q3 ((f1013_peek s1 v2 true).bind fun (s7, q8) => cond q8 ((f1102_2 s7 v4 v5 s6).bind fun (q9, v10) => cond q9 (some (s7, (wrap .i64 (v2 + (wrap .i64 ((s7.size : Int) + 1)))), true, v10)) (some ((⟨#[]⟩ : BA), v2, false, v10))) (some ((⟨#[]⟩ : BA), v2, false, v5))) (some ((⟨#[]⟩ : BA), v2, false, v5))
def C1012g_take (O : Oracle TT) (m : BA → Int → Bool → Int → Int → BA → Option (BA × Int × Bool × Int)) : Prop :=
 ∀ (s1 : BA) (v2 : Int) (q3 : Bool) (v4 : Int) (v5 : Int) (s6 : BA) (Q : (BA × Int × Bool × Int) → Prop) (R : RR) (_ : ∀ (s11 : BA) (v12 : Int) (q13 : Bool) (v14 : Int), Q (s11, v12, q13, v14) → R (sD s11) [(.x 0, some (.var [.str s1, ci v12, .bool q13])), (.x 1, some (.var [ci v4, ci v14, .str s6, .nils]))]) (_ : sat (m s1 v2 q3 v4 v5 s6) Q), O 1012 [pX 0, .c (.fn 1102 [(.x 1)])] [(.x 0, some (.var [.str s1, ci v2, .bool q3])), (.x 1, some (.var [ci v4, ci v5, .str s6, .nils]))] R
def j1012g_take : Fn TT := ⟨39, [.t 4], (.seq (.reg [qo 4 (.mv sE)]) (.seq (.seq (.reg [qo 7 (.mv 0),qo 8 (.nilck 7),qo 9 (.fa 8 2),qo 10 (.load 9 1 false),qo 11 (.un .not 10)]) (.cond 11 (.seq (.reg [qo 4 (.mv sE)]) .ret) .skip)) (.seq (.reg [qo 13 (.mv 0),qo 14 (.call 14 1013 [13]),qo 12 (.mv 14),qo 15 (.ext 12 0),qo 16 (.ext 12 1),qo 5 (.mv 15),qo 6 (.mv 16)]) (.seq (.seq
 (.reg [qo 17 (.mv 6),qo 18 (.un .not 17),qo 19 (.mv 18),qf 19 20 (.mv 1),qf 19 21 (.mv 5),qf 19 22 (.callv 22 20 [21]),qf 19 23 (.un .not 22),qo 24 (.pick 19 bT 23)]) (.cond 24 (.seq (.reg [qo 25 (.mv 0),qo 26 (.nilck 25),qo 27 (.fa 26 2),qp (.store 27 bF 1)]) (.seq (.reg [qo 4 (.mv sE)]) .ret)) .skip)) (.seq (.reg [qo 28 (.mv 0),qo 29 (.nilck 28),qo 30 (.fa 29 1),
 qo 31 (.load 30 1 false),qo 32 (.mv 5),qo 33 (.len true 32),qo 34 (.bin .add .num 33 (iC 1)),qo 35 (.bin .add .num 31 34),qo 36 (.nilck 28),qo 37 (.fa 36 1),qp (.store 37 35 1)]) (.seq (.reg [qo 38 (.mv 5),qo 4 (.mv 38)]) .ret))))))⟩
theorem w1012g_take {O : Oracle TT} (h1013_peek : C1013_peek O f1013_peek) (h1102_2 : C1102_2 O f1102_2) : C1012g_take (fun _ => vcF (S := SS) O j1012g_take) f1012g_take := by
 intro s1 v2 q3 v4 v5 s6 Q R hQ h
 unfold f1012g_take at h
 refine ⟨nle rfl, rfl, ?_⟩
 cases q3
 replace h := sat_cf h
 exact kR [] (ND 2) (hQ _ _ _ _ (sat_some h))
 replace h := sat_ct h
 refine kL [(.x 0)] (h1013_peek _ _ _ _ _ ?_ (sat_bind h))
 rintro s7 q8 h
 cases q8
 replace h := sat_cf h
 exact kR [] (ND 2) (hQ _ _ _ _ (sat_some h))
 replace h := sat_ct h
 refine kL [(.x 1)] (h1102_2 _ _ _ _ _ _ ?_ (sat_bind h))
 rintro q9 v10 h
 cases q9
 replace h := sat_cf h
 exact kR [] (ND 2) (hQ _ _ _ _ (sat_some h))
 replace h := sat_ct h
 exact kR [] (ND 2) (hQ _ _ _ _ (sat_some h))
theorem c1012g_take {P : Program} {fid : Nat → FuncId} (mx : MX P) (k1012g_take : KF P fid 1012 j1012g_take) (h1013_peek : C1013_peek (SP P fid) f1013_peek) (h1102_2 : C1102_2 (SP P fid) f1102_2) : C1012g_take (SP P fid) f1012g_take :=
 fun a0 a1 a2 a3 a4 a5 Q R hQ h => spec_of_vc mx k1012g_take (w1012g_take h1013_peek h1102_2 a0 a1 a2 a3 a4 a5 Q R hQ h)
def f1099_value_L2 (self1101_field : Int → Int → BA → Int → Bool → Option ((BA × V) × Int × Bool)) (v1 : Int) (s2 : BA) (v9 : Int) : Nat → FV → Int → Bool → Option (Sum (V × Int × Bool) (Int × BA × Int × Bool × FV))
 | 0, _, _, _ => none
 | g209 + 1, l211, v212, q213 => cond q213 ((f1096_is (⟨#[41]⟩ : BA) s2 v212 true).bind fun (q215, v216, q217) => cond q215 (some (.inr (0, (⟨#[]⟩ : BA), v216, q217, l211))) ((self1101_field v9 v1 s2 v216 q217).bind fun (((a219, .mk k220 n221 s222 f223)), v224, q225) => grdP (l211.length + ([((⟨#[]⟩ : BA), (V.mk 0 0 (⟨#[]⟩ : BA) []))] : FV).length ≤ 68719476736) (grdP ((0 : Int) ≤ ((l211.length : Nat) : Int) ∧ ((l211.length : Nat) : Int) < (((l211.length + ([((⟨#[]⟩ : BA), (V.mk 0 0 (⟨#[]⟩ : BA) []))] : FV).length) : Nat) : Int)) (getN (l211 ++ ([((⟨#[]⟩ : BA), (V.mk 0 0 (⟨#[]⟩ : BA) []))] : FV)) (0 + ((l211.length : Nat) : Int).toNat) fun uu232 => match uu232 with | (a227, .mk k228 n229 s230 f231) => f1099_value_L2 self1101_field v1 s2 v9 g209 ((l211 ++ ([((⟨#[]⟩ : BA), (V.mk 0 0 (⟨#[]⟩ : BA) []))] : FV)).set (0 + ((l211.length : Nat) : Int).toNat) (a219, (V.mk k220 n221 s222 f223))) v224 q225)))) (some (.inr (0, (⟨#[]⟩ : BA), v212, false, l211)))
def b1099_value (fuel : Nat) (self1101_field : Int → Int → BA → Int → Bool → Option ((BA × V) × Int × Bool)) : Int → BA → Int → Bool → Option (V × Int × Bool)
 | v1, s2, v3, q4 => cond (decide (v1 > 40)) (some ((V.mk 0 0 (⟨#[]⟩ : BA) []), v3, false)) ((f1012f_take s2 v3 q4).bind fun (s6, v7, q8) => (f1008_kindOf s6).bind fun v9 => cond q8 (sbind (ο := Int × BA × Int × Bool × FV) (cond (v9 == 0) (some (.inr (0, (⟨#[]⟩ : BA), v7, true, []))) (sbind (ο := Bool) (cond (v9 == 1) (some (.inr true)) (cond (v9 == 2) (some (.inr true)) (cond (v9 == 4) (some (.inr true)) (cond (v9 == 11) (some (.inr true)) (some (.inr false)))))) (fun q149 => cond q149 ((f1091_number s2 v7 true).bind fun (v268, v269, q270) => some (.inr (v268, (⟨#[]⟩ : BA), v269, q270, []))) (cond (v9 == 3) ((f1012g_take s2 v7 true v9 (0 : Int) (⟨#[]⟩ : BA)).bind fun (s264, v265, q266, v267) => some (.inr (v267, (⟨#[]⟩ : BA), v265, q266, []))) (cond (v9 == 5) ((f1097_quoted fuel s2 v7 true).bind fun (s261, v262, q263) => some (.inr (0, s261, v262, q263, []))) ((f1094_must (⟨#[40]⟩ : BA) s2 v7 true).bind fun (v157, q158) => f1099_value_L2 self1101_field v1 s2 v9 fuel [] v157 q158)))))) (fun (v137, s138, v139, q140, l141) => some ((V.mk v9 v137 s138 l141), v139, q140))) (some ((V.mk 0 0 (⟨#[]⟩ : BA) []), v7, false)))
def b1101_field (fuel : Nat) (self1099_value : Int → BA → Int → Bool → Option (V × Int × Bool)) : Int → Int → BA → Int → Bool → Option ((BA × V) × Int × Bool)
 | v1, v2, s3, v4, q5 => sbind (ο := Bool) (cond (v1 == 6) (some (.inr true)) (cond (v1 == 7) (some (.inr true)) (some (.inr false)))) (fun q8 => cond q8 ((f1089_any s3 v4 q5).bind fun (s28, v29, q30) => (self1099_value (wrap .i64 (v2 + 1)) s3 v29 q30).bind fun ((.mk k31 n32 s33 f34), v35, q36) => some ((s28, (V.mk k31 n32 s33 f34)), v35, q36)) (cond (v1 == 9) ((f1097_quoted fuel s3 v4 q5).bind fun (s19, v20, q21) => (self1099_value (wrap .i64 (v2 + 1)) s3 v20 q21).bind fun ((.mk k22 n23 s24 f25), v26, q27) => some ((s19, (V.mk k22 n23 s24 f25)), v26, q27)) ((self1099_value (wrap .i64 (v2 + 1)) s3 v4 q5).bind fun ((.mk k13 n14 s15 f16), v17, q18) => some (((⟨#[]⟩ : BA), (V.mk k13 n14 s15 f16)), v17, q18))))
def S1099_value : Nat → (Int → BA → Int → Bool → Option (V × Int × Bool)) × (Int → Int → BA → Int → Bool → Option ((BA × V) × Int × Bool))
 | 0 => (fun _ _ _ _ => none, fun _ _ _ _ _ => none)
 | n + 1 => (b1099_value n (S1099_value n).2, b1101_field n (S1099_value n).1)
def f1099_value (n : Nat) : Int → BA → Int → Bool → Option (V × Int × Bool) := (S1099_value n).1
def f1101_field (n : Nat) : Int → Int → BA → Int → Bool → Option ((BA × V) × Int × Bool) := (S1099_value n).2
def C1099_value (O : Oracle TT) (m : Int → BA → Int → Bool → Option (V × Int × Bool)) : Prop :=
 ∀ (v1 : Int) (s2 : BA) (v3 : Int) (q4 : Bool) (Q : (V × Int × Bool) → Prop) (R : RR) (_ : ∀ (k271 : Int) (n272 : Int) (s273 : BA) (f274 : FV) (v275 : Int) (q276 : Bool), Q ((V.mk k271 n272 s273 f274), v275, q276) → R (.agg [ci k271, ci n272, .str s273, .isl .fld f274]) [(.x 0, some (.var [.str s2, ci v275, .bool q276]))]) (_ : sat (m v1 s2 v3 q4) Q), O 1099 [pX 0, iD v1] [(.x 0, some (.var [.str s2, ci v3, .bool q4]))] R
def j1099_value : Fn TT := ⟨68, [.cell 4 4 true], (.seq (.reg [qo 4 (.alloc 4 zV)]) (.seq (.reg [qo 5 (.alloc 5 [.int .i64 0, .int .i64 0, .str eB, .nils])]) (.seq (.seq (.reg [qo 6 (.mv 1),qo 7 (.bin .gtr .num 6 (iC 40))]) (.cond 7 (.seq (.reg [qo 8 (.mv 0),qo 9 (.nilck 8),qo 10 (.fa 9 2),qp (.store 10 bF 1)]) (.seq (.reg [qo 11 (.load 5 4 true),qp (.store 4 11 4)])
 (.pre [.frzc (.s 4) 3 .fld] .ret))) .skip)) (.seq (.reg [qo 12 (.mv 0),qo 13 (.call 13 1012 [12, (.c (.fn 1100 []))]),qo 14 (.call 14 1008 [13]),qo 15 (.fa 5 0),qp (.store 15 14 1)]) (.seq (.seq (.reg [qo 16 (.mv 0),qo 17 (.nilck 16),qo 18 (.fa 17 2),qo 19 (.load 18 1 false),qo 20 (.un .not 19)]) (.cond 20 (.seq (.reg [qo 21 (.build zV []),qp (.store 4 21 4)]) .ret) .skip))
 (.cut [4, 5] [(.s 4), (.s 5), (.x 0), (.sub (.sub (.s 5) 4823) 3)] (.aft (.seq (.reg [qo 22 (.fa 5 0),qo 23 (.load 22 1 false)]) (.block 0 (.seq (.reg [qo 48 (.bin .eql .num 23 (iC 0)),qo 47 (.mv 48)]) (.cond 47 .skip (.cut [0, 1, 4, 5, 23, 49] [(.x 0), (.s 4), (.s 5)] (.seq (.reg [qo 50 (.bin .eql .num 23 (iC 1)),qo 49 (.mv 50)]) (.cond 49 .skip (.seq (.reg [qo 51 (.bin .eql .num 23 (iC 2)),
 qo 49 (.mv 51)]) (.cond 49 .skip (.seq (.reg [qo 52 (.bin .eql .num 23 (iC 4)),qo 49 (.mv 52)]) (.cond 49 .skip (.reg [qo 53 (.bin .eql .num 23 (iC 11)),qo 49 (.mv 53)]))))))) (.cond 49 (.reg [qo 54 (.mv 0),qo 55 (.call 55 1091 [54]),qo 56 (.fa 5 1),qp (.store 56 55 1)]) (.seq (.reg [qo 58 (.bin .eql .num 23 (iC 3)),qo 57 (.mv 58)]) (.cond 57 (.reg [qo 59 (.mv 0),qo 60 (.mkf 1102 [5]),
 qo 61 (.call 61 1012 [59, 60])]) (.seq (.reg [qo 63 (.bin .eql .num 23 (iC 5)),qo 62 (.mv 63)]) (.cond 62 (.reg [qo 64 (.mv 0),qo 65 (.call 65 1097 [64]),qo 66 (.fa 5 2),qp (.store 66 65 1)]) (.seq (.reg [qo 24 (.mv 0),qo 25 (.call 25 1094 [24, (.c (.str (⟨#[40]⟩ : BA)))])]) (.block 1 (.pre [.ownc (.s 5) 3 .fld (.sub (.sub (.s 5) 600) 3)]
 (.loop (.keep [0, 1, 4, 5] [(.x 0), (.s 4), (.s 5), (.sub (.sub (.s 5) 600) 3)] (.aft (.seq (.seq (.reg [qo 26 (.mv 0),qo 27 (.nilck 26),qo 28 (.fa 27 2),qo 29 (.load 28 1 false),qo 30 (.mv 29),qg 30 31 (.mv 0),qg 30 32 (.call 32 1096 [31, (.c (.str (⟨#[41]⟩ : BA)))]),qg 30 33 (.un .not 32),qo 34 (.pick 30 33 bF)]) (.cond 34 .skip (.exit 1))) (.block 2
 (.drw [(.x 0), (.sub (.sub (.s 5) 600) 3)] (.go 0 (.go 1 (.go 2 (.go 3 (.go 4 (.go 5 (.go 7 (.alt 6 (.go 8 (.go 9 (.go 10 (.go 12 (.alt 11 (.go 13 .nil) 13 (.go 11 .nil)))))) 8 (.go 6 (.go 9 (.go 10 (.go 12 (.alt 11 (.go 13 .nil) 13 (.go 11 .nil)))))))))))))) [11, 13] [0, 1, 2, 3, 4, 5, 7, 10, 12] [qo 35 (.fa 5 3),qo 36 (.load 35 1 false),qo 37 (.mv 0),qo 38 (.fa 5 0),qo 39 (.load 38 1 false),
 qo 40 (.mv 1),qo 41 (.call 41 1101 [37, 39, 40]),qo 42 (.len false 36),qo 43 (.bsl .fld [(.g [.str eB, .int .i64 0, .int .i64 0, .str eB, .nils])]),qo 44 (.app 44 .fld 68719476736 36 43),qo 45 (.idxA 44 42 5),qp (.store 45 41 5),qo 46 (.fa 5 3),
 qp (.store 46 44 1)]))) [.keep [0, 1, 4, 5] [(.x 0), (.s 4), (.s 5), (.s 44)], .ownc (.s 5) 3 .fld (.sub (.sub (.s 5) 600) 3)])))))))))))))))) [.ownc (.s 5) 3 .fld (.sub (.sub (.s 5) 4823) 3)]) (.seq (.reg [qo 67 (.load 5 4 true),qp (.store 4 67 4)]) (.pre [.frzc (.s 4) 3 .fld] .ret))))))))⟩
def C1101_field (O : Oracle TT) (m : Int → Int → BA → Int → Bool → Option ((BA × V) × Int × Bool)) : Prop :=
 ∀ (v1 : Int) (v2 : Int) (s3 : BA) (v4 : Int) (q5 : Bool) (Q : ((BA × V) × Int × Bool) → Prop) (R : RR) (_ : ∀ (a37 : BA) (k38 : Int) (n39 : Int) (s40 : BA) (f41 : FV) (v42 : Int) (q43 : Bool), Q ((a37, (V.mk k38 n39 s40 f41)), v42, q43) → R (.agg [.str a37, ci k38, ci n39, .str s40, .isl .fld f41]) [(.x 0, some (.var [.str s3, ci v42, .bool q43]))]) (_ : sat (m v1 v2 s3 v4 q5) Q), O 1101 [pX 0, iD v1, iD v2] [(.x 0, some (.var [.str s3, ci v4, .bool q5]))] R
def j1101_field : Fn TT := ⟨26, [.cell 6 5 true], (.seq (.reg [qo 6 (.alloc 6 zFd)]) (.seq (.reg [qo 7 (.alloc 7 zFd)]) (.seq (.seq (.reg [qo 8 (.mv 1)]) (.block 0 (.cut [0, 2, 6, 7, 8, 9] [(.x 0), (.s 6), (.s 7)] (.seq (.reg [qo 10 (.bin .eql .num 8 (iC 6)),qo 9 (.mv 10)]) (.cond 9 .skip (.reg [qo 11 (.bin .eql .num 8 (iC 7)),qo 9 (.mv 11)]))) (.cond 9 (.reg [qo 12 (.mv 0),
 qo 13 (.call 13 1089 [12]),qo 14 (.fa 7 0),qp (.store 14 13 1)]) (.seq (.reg [qo 16 (.bin .eql .num 8 (iC 9)),qo 15 (.mv 16)]) (.cond 15 (.reg [qo 17 (.mv 0),qo 18 (.call 18 1097 [17]),qo 19 (.fa 7 0),qp (.store 19 18 1)]) .skip)))))) (.seq (.reg [qo 20 (.mv 0),qo 21 (.mv 2),qo 22 (.bin .add .num 21 (iC 1)),qo 23 (.call 23 1099 [20, 22]),qo 24 (.fa 7 1),qp (.store 24 23 4)]) (.seq
 (.reg [qo 25 (.load 7 5 true),qp (.store 6 25 5)]) .ret)))))⟩
theorem w1099_value {O : Oracle TT} (fuel : Nat) (self1101_field : Int → Int → BA → Int → Bool → Option ((BA × V) × Int × Bool)) (h1091_number : C1091_number O f1091_number) (h1094_must : C1094_must O f1094_must) (h1096_is : C1096_is O f1096_is) (h1097_quoted : C1097_quoted O (f1097_quoted fuel)) (h1012f_take : C1012f_take O f1012f_take) (h1008_kindOf : C1008_kindOf O f1008_kindOf) (h1101_field : C1101_field O self1101_field) (h1012g_take : C1012g_take O f1012g_take) : C1099_value (fun _ => vcF (S := SS) O j1099_value) (b1099_value fuel self1101_field) := by
 intro v1 s2 v3 q4 Q R hQ h
 unfold b1099_value at h
 refine ⟨nle rfl, rfl, ?_⟩
 refine kc h (fun h => ?_) fun h => ?_
 refine kL [(.x 0)] (h1012f_take _ _ _ _ _ ?_ (sat_bind h))
 rintro s6 v7 q8 h
 refine kL [] (h1008_kindOf _ _ _ ?_ (sat_bind h))
 rintro v9 h
 cases q8
 replace h := sat_cf h
 exact kR [] (ND 1) (hQ _ _ _ _ _ _ (sat_some h))
 replace h := sat_ct h
 obtain ⟨R143, h, hlR143, hrR143⟩ := sat_sbind h
 refine kX (fun σ => ∃ (v137 : Int) (s138 : BA) (v139 : Int) (q140 : Bool) (l141 : FV) (n142 : Nat), n142 = l141.length ∧ R143 (.inr (v137, s138, v139, q140, l141)) ∧ σ = ⟨[(4, pS 4), (5, pS 5)], [(.s 4, some (.var [ci 0, ci 0, .str (⟨#[]⟩ : BA), .isl .fld []])), (.s 5, some (.var [ci v9, ci v137, .str s138, .osl (.sub (.sub (.s 5) 4823) 3) 0 n142])), (.x 0, some (.var [.str s2, ci v139, .bool q140])), (.sub (.sub (.s 5) 4823) 3, some (.row false .fld l141))]⟩) ?_ ?_
 refine kc h (fun h => ?_) fun h => ?_
 obtain ⟨R150, h, hlR150, hrR150⟩ := sat_sbind h
 refine kX (fun σ => ∃ (q149 : Bool), R150 (.inr q149) ∧ σ = ⟨[(0, pX 0), (1, iD v1), (4, pS 4), (5, pS 5), (23, iD v9), (49, bD q149)], [(.x 0, some (.var [.str s2, ci v7, .bool true])), (.s 4, some (.var [ci 0, ci 0, .str (⟨#[]⟩ : BA), .isl .fld []])), (.s 5, some (.var [ci v9, ci 0, .str (⟨#[]⟩ : BA), .nils]))]⟩) ?_ ?_
 refine kc h (fun h => ?_) fun h => ?_
 refine kc h (fun h => ?_) fun h => ?_
 refine kc h (fun h => ?_) fun h => ?_
 refine kc h (fun h => ?_) fun h => ?_
 conv => whnf
 exact ⟨false, sat_some h, rfl⟩
 conv => whnf
 exact ⟨true, sat_some h, rfl⟩
 conv => whnf
 exact ⟨true, sat_some h, rfl⟩
 conv => whnf
 exact ⟨true, sat_some h, rfl⟩
 conv => whnf
 exact ⟨true, sat_some h, rfl⟩
 rintro _ ⟨q149, h, rfl⟩
 replace h := hrR150 _ h
 cases q149
 replace h := sat_cf h
 refine kc h (fun h => ?_) fun h => ?_
 refine kc h (fun h => ?_) fun h => ?_
 refine kL [(.x 0)] (h1094_must _ _ _ _ _ _ ?_ (sat_bind h))
 rintro v157 q158 h
 refine kX (fun σ n => ∃ (f210 : Nat) (l211 : FV) (v212 : Int) (q213 : Bool) (n214 : Nat), f210 = n ∧ n214 = l211.length ∧ sat (f1099_value_L2 self1101_field v1 s2 v9 f210 l211 v212 q213) R143 ∧ σ.keep [0, 1, 4, 5] [(.x 0), (.s 4), (.s 5), (.sub (.sub (.s 5) 600) 3)] = ⟨[(0, pX 0), (1, iD v1), (4, pS 4), (5, pS 5)], [(.x 0, some (.var [.str s2, ci v212, .bool q213])), (.s 4, some (.var [ci 0, ci 0, .str (⟨#[]⟩ : BA), .isl .fld []])), (.s 5, some (.var [ci v9, ci 0, .str (⟨#[]⟩ : BA), .osl (.sub (.sub (.s 5) 600) 3) 0 n214])), (.sub (.sub (.s 5) 600) 3, some (.row false .fld l211))]⟩) ⟨_, _, [], v157, q158, _, rfl, LN, h, rfl⟩ ?_
 rintro σ n ⟨f210, l211, v212, q213, _, rfl, rfl, h, hσ⟩
 refine kk hσ ?_
 rcases f210 with _ | g209
 rw [f1099_value_L2] at h; exact nn h
 rw [f1099_value_L2] at h
 cases q213
 replace h := sat_cf h
 conv => whnf
 exact ⟨(0 : Int), (⟨#[]⟩ : BA), v212, false, l211, _, LN, sat_some h, rfl⟩
 replace h := sat_ct h
 refine kL [(.x 0)] (h1096_is _ _ _ _ _ _ ?_ (sat_bind h))
 rintro q215 v216 q217 h
 cases q215
 replace h := sat_cf h
 intro hl218
 conv => whnf
 refine ⟨?_, ?_⟩
 refine kL [(.x 0)] (h1101_field _ _ _ _ _ _ _ ?_ (sat_bind h))
 rintro a219 k220 n221 s222 f223 v224 q225 h
 conv => whnf
 refine ⟨LN, rfl, ?_⟩
 conv => whnf
 refine ⟨rfl, ?_⟩
 refine kp h fun hb239 h => ?_
 refine kp h fun hb226 h => ?_
 conv => whnf
 refine ⟨?_, ?_⟩
 refine kg (sat_getN h) fun uu232 huu232 h => ?_
 obtain ⟨a227, ⟨k228, n229, s230, f231⟩⟩ := uu232
 refine ⟨(a219, (V.mk k220 n221 s222 f223)), rfl, ?_⟩
 conv => whnf
 exact ⟨g209, nls, g209, ((l211 ++ ([((⟨#[]⟩ : BA), (V.mk 0 0 (⟨#[]⟩ : BA) []))] : FV)).set (0 + ((l211.length : Nat) : Int).toNat) (a219, (V.mk k220 n221 s222 f223))), v224, q225, _, rfl, LN, h, rfl⟩
 refine kg (sat_getN h) fun uu238 huu238 h => ?_
 obtain ⟨a233, ⟨k234, n235, s236, f237⟩⟩ := uu238
 refine ⟨(a219, (V.mk k220 n221 s222 f223)), rfl, ?_⟩
 conv => whnf
 exact ⟨g209, nls, g209, ((l211 ++ ([((⟨#[]⟩ : BA), (V.mk 0 0 (⟨#[]⟩ : BA) []))] : FV)).set (0 + ((l211.length : Nat) : Int).toNat) (a219, (V.mk k220 n221 s222 f223))), v224, q225, _, rfl, LN, h, rfl⟩
 refine kL [(.x 0)] (h1101_field _ _ _ _ _ _ _ ?_ (sat_bind h))
 rintro a240 k241 n242 s243 f244 v245 q246 h
 conv => whnf
 refine ⟨LN, rfl, ?_⟩
 conv => whnf
 refine ⟨rfl, ?_⟩
 refine kp h fun hb260 h => ?_
 refine kp h fun hb247 h => ?_
 conv => whnf
 refine ⟨?_, ?_⟩
 refine kg (sat_getN h) fun uu253 huu253 h => ?_
 obtain ⟨a248, ⟨k249, n250, s251, f252⟩⟩ := uu253
 refine ⟨(a240, (V.mk k241 n242 s243 f244)), rfl, ?_⟩
 conv => whnf
 exact ⟨g209, nls, g209, ((l211 ++ ([((⟨#[]⟩ : BA), (V.mk 0 0 (⟨#[]⟩ : BA) []))] : FV)).set (0 + ((l211.length : Nat) : Int).toNat) (a240, (V.mk k241 n242 s243 f244))), v245, q246, _, rfl, LN, h, rfl⟩
 refine kg (sat_getN h) fun uu259 huu259 h => ?_
 obtain ⟨a254, ⟨k255, n256, s257, f258⟩⟩ := uu259
 refine ⟨(a240, (V.mk k241 n242 s243 f244)), rfl, ?_⟩
 conv => whnf
 exact ⟨g209, nls, g209, ((l211 ++ ([((⟨#[]⟩ : BA), (V.mk 0 0 (⟨#[]⟩ : BA) []))] : FV)).set (0 + ((l211.length : Nat) : Int).toNat) (a240, (V.mk k241 n242 s243 f244))), v245, q246, _, rfl, LN, h, rfl⟩
 replace h := sat_ct h
 conv => whnf
 exact ⟨(0 : Int), (⟨#[]⟩ : BA), v216, q217, l211, _, LN, sat_some h, rfl⟩
 refine kL [(.x 0)] (h1097_quoted _ _ _ _ _ ?_ (sat_bind h))
 rintro s261 v262 q263 h
 conv => whnf
 exact ⟨(0 : Int), s261, v262, q263, [], _, LN, sat_some h, rfl⟩
 refine kL [(.x 0), (.s 5)] (h1012g_take _ _ _ _ _ _ _ _ ?_ (sat_bind h))
 rintro s264 v265 q266 v267 h
 conv => whnf
 exact ⟨v267, (⟨#[]⟩ : BA), v265, q266, [], _, LN, sat_some h, rfl⟩
 replace h := sat_ct h
 refine kL [(.x 0)] (h1091_number _ _ _ _ _ ?_ (sat_bind h))
 rintro v268 v269 q270 h
 conv => whnf
 exact ⟨v268, (⟨#[]⟩ : BA), v269, q270, [], _, LN, sat_some h, rfl⟩
 conv => whnf
 exact ⟨(0 : Int), (⟨#[]⟩ : BA), v7, true, [], _, LN, sat_some h, rfl⟩
 rintro _ ⟨v137, s138, v139, q140, l141, _, rfl, h, rfl⟩
 replace h := hrR143 _ h
 conv => whnf
 refine ⟨LN, ?_⟩
 exact kR [] (ND 1) (hQ _ _ _ _ _ _ (sat_some h))
 exact kR [] (ND 1) (hQ _ _ _ _ _ _ (sat_some h))
theorem w1101_field {O : Oracle TT} (fuel : Nat) (self1099_value : Int → BA → Int → Bool → Option (V × Int × Bool)) (h1089_any : C1089_any O f1089_any) (h1097_quoted : C1097_quoted O (f1097_quoted fuel)) (h1099_value : C1099_value O self1099_value) : C1101_field (fun _ => vcF (S := SS) O j1101_field) (b1101_field fuel self1099_value) := by
 intro v1 v2 s3 v4 q5 Q R hQ h
 unfold b1101_field at h
 refine ⟨nle rfl, rfl, ?_⟩
 obtain ⟨R9, h, hlR9, hrR9⟩ := sat_sbind h
 refine kX (fun σ => ∃ (q8 : Bool), R9 (.inr q8) ∧ σ = ⟨[(0, pX 0), (2, iD v2), (6, pS 6), (7, pS 7), (8, iD v1), (9, bD q8)], [(.x 0, some (.var [.str s3, ci v4, .bool q5])), (.s 6, some (.var [.str (⟨#[]⟩ : BA), ci 0, ci 0, .str (⟨#[]⟩ : BA), .isl .fld []])), (.s 7, some (.var [.str (⟨#[]⟩ : BA), ci 0, ci 0, .str (⟨#[]⟩ : BA), .isl .fld []]))]⟩) ?_ ?_
 refine kc h (fun h => ?_) fun h => ?_
 refine kc h (fun h => ?_) fun h => ?_
 conv => whnf
 exact ⟨false, sat_some h, rfl⟩
 conv => whnf
 exact ⟨true, sat_some h, rfl⟩
 conv => whnf
 exact ⟨true, sat_some h, rfl⟩
 rintro _ ⟨q8, h, rfl⟩
 replace h := hrR9 _ h
 cases q8
 replace h := sat_cf h
 refine kc h (fun h => ?_) fun h => ?_
 refine kL [(.x 0)] (h1099_value _ _ _ _ _ _ ?_ (sat_bind h))
 rintro k13 n14 s15 f16 v17 q18 h
 exact kR [] (ND 1) (hQ _ _ _ _ _ _ _ (sat_some h))
 refine kL [(.x 0)] (h1097_quoted _ _ _ _ _ ?_ (sat_bind h))
 rintro s19 v20 q21 h
 refine kL [(.x 0)] (h1099_value _ _ _ _ _ _ ?_ (sat_bind h))
 rintro k22 n23 s24 f25 v26 q27 h
 exact kR [] (ND 1) (hQ _ _ _ _ _ _ _ (sat_some h))
 replace h := sat_ct h
 refine kL [(.x 0)] (h1089_any _ _ _ _ _ ?_ (sat_bind h))
 rintro s28 v29 q30 h
 refine kL [(.x 0)] (h1099_value _ _ _ _ _ _ ?_ (sat_bind h))
 rintro k31 n32 s33 f34 v35 q36 h
 exact kR [] (ND 1) (hQ _ _ _ _ _ _ _ (sat_some h))
theorem cg1099_value {P : Program} {fid : Nat → FuncId} (mx : MX P) (k1099_value : KF P fid 1099 j1099_value) (k1101_field : KF P fid 1101 j1101_field) (h1091_number : C1091_number (SP P fid) f1091_number) (h1094_must : C1094_must (SP P fid) f1094_must) (h1096_is : C1096_is (SP P fid) f1096_is) (h1097_quoted : ∀ n, C1097_quoted (SP P fid) (f1097_quoted n)) (h1012f_take : C1012f_take (SP P fid) f1012f_take) (h1008_kindOf : C1008_kindOf (SP P fid) f1008_kindOf) (h1012g_take : C1012g_take (SP P fid) f1012g_take) (h1089_any : C1089_any (SP P fid) f1089_any) : ∀ n, C1099_value (SP P fid) (f1099_value n) ∧ C1101_field (SP P fid) (f1101_field n) := by
 intro n
 induction n with
 | zero => exact ⟨fun a0 a1 a2 a3 Q R hQ h => (sat_none h).elim, fun a0 a1 a2 a3 a4 Q R hQ h => (sat_none h).elim⟩
 | succ n ih =>
  obtain ⟨ih0, ih1⟩ := ih
  exact ⟨fun a0 a1 a2 a3 Q R hQ h => spec_of_vc mx k1099_value (w1099_value n (f1101_field n) h1091_number h1094_must h1096_is (h1097_quoted n) h1012f_take h1008_kindOf ih1 h1012g_take a0 a1 a2 a3 Q R hQ h), fun a0 a1 a2 a3 a4 Q R hQ h => spec_of_vc mx k1101_field (w1101_field n (f1099_value n) h1089_any (h1097_quoted n) ih0 a0 a1 a2 a3 a4 Q R hQ h)⟩
theorem c1099_value {P : Program} {fid : Nat → FuncId} (mx : MX P) (k1099_value : KF P fid 1099 j1099_value) (k1101_field : KF P fid 1101 j1101_field) (h1091_number : C1091_number (SP P fid) f1091_number) (h1094_must : C1094_must (SP P fid) f1094_must) (h1096_is : C1096_is (SP P fid) f1096_is) (h1097_quoted : ∀ n, C1097_quoted (SP P fid) (f1097_quoted n)) (h1012f_take : C1012f_take (SP P fid) f1012f_take) (h1008_kindOf : C1008_kindOf (SP P fid) f1008_kindOf) (h1012g_take : C1012g_take (SP P fid) f1012g_take) (h1089_any : C1089_any (SP P fid) f1089_any) : ∀ n, C1099_value (SP P fid) (f1099_value n) := fun n => (cg1099_value mx k1099_value k1101_field h1091_number h1094_must h1096_is h1097_quoted h1012f_take h1008_kindOf h1012g_take h1089_any n).1
def b1010_lens (self1093_rest : Bool → Bool → Bool → Bool → Bool → Bool → Bool → Bool → Int → Int → BA → Int → Bool → Int → BA → BA → Int → Int → Int → Int → Int → Int → BA → Option (Int × Bool × LB × Int × Int × BA × FV × LW × (List Ln))) : Int → BA → Int → Bool → Option (Ln × Int × Bool)
 | v1, s2, v3, q4 => cond (decide (v1 > 40)) (some ((Ln.mk 0 (⟨#[]⟩ : BA) (⟨#[]⟩ : BA) [] 0 0 0 0 (V.mk 0 0 (⟨#[]⟩ : BA) []) [] []), v3, false)) ((f1012d_take s2 v3 q4 (0 : Int) (⟨#[]⟩ : BA) (⟨#[]⟩ : BA) (0 : Int) (0 : Int) (0 : Int) (0 : Int) (0 : Int) (0 : Int) (⟨#[]⟩ : BA)).bind fun (s6, v7, q8, v9) => (f144_table v9).bind fun (q10, q11, q12, q13, q14, q15, q16, q17, v18) => sbind (ο := Int × Bool × BA × Bool) (cond q10 ((f1089_any s2 v7 q8).bind fun (s29, v30, q31) => cond (s29.toList == (⟨#[45]⟩ : BA).toList) (cond (v9 == 13) (some (.inr (v30, q31, (⟨#[]⟩ : BA), true))) (some (.inr (v30, q31, s29, true)))) (some (.inr (v30, q31, s29, true)))) (some (.inr (v7, q8, (⟨#[]⟩ : BA), false)))) (fun (v24, q25, s26, q27) => sbind (ο := Int × Bool × BA × Bool) (cond q11 ((f1089_any s2 v24 q25).bind fun (s42, v43, q44) => some (.inr (v43, q44, s42, true))) (some (.inr (v24, q25, (⟨#[]⟩ : BA), false)))) (fun (v37, q38, s39, q40) => sbind (ο := Int × Bool × Int × Bool) (cond q13 ((f1091_number s2 v37 q38).bind fun (v53, v54, q55) => some (.inr (v54, q55, v53, true))) (some (.inr (v37, q38, 0, false)))) (fun (v48, q49, v50, q51) => sbind (ο := Int × Bool × Int × Int × Bool) (cond q14 ((f1091_number s2 v48 q49).bind fun (v68, v69, q70) => (f1091_number s2 v69 q70).bind fun (v71, v72, q73) => some (.inr (v72, q73, v68, v71, true))) (some (.inr (v48, q49, 0, 0, false)))) (fun (v62, q63, v64, v65, q66) => cond q15 ((f1091_number s2 v62 q63).bind fun (v83, v84, q85) => cond q85 (cond (decide (v83 < 0)) ((self1093_rest q27 q40 q12 q51 q66 true q16 q17 v18 v1 s2 v62 false v9 s26 s39 v50 v64 v65 (wrap .u8 v83) (0 : Int) (0 : Int) (⟨#[]⟩ : BA)).bind fun (v115, q116, l117, v118, v119, s120, l121, l122, l123) => some ((Ln.mk v9 s26 s39 l117 v50 v64 v65 (wrap .u8 v83) (V.mk v118 v119 s120 l121) l122 l123), v115, q116)) (cond (decide (v83 > 255)) ((self1093_rest q27 q40 q12 q51 q66 true q16 q17 v18 v1 s2 v62 false v9 s26 s39 v50 v64 v65 (wrap .u8 v83) (0 : Int) (0 : Int) (⟨#[]⟩ : BA)).bind fun (v106, q107, l108, v109, v110, s111, l112, l113, l114) => some ((Ln.mk v9 s26 s39 l108 v50 v64 v65 (wrap .u8 v83) (V.mk v109 v110 s111 l112) l113 l114), v106, q107)) ((self1093_rest q27 q40 q12 q51 q66 true q16 q17 v18 v1 s2 v84 true v9 s26 s39 v50 v64 v65 (wrap .u8 v83) (0 : Int) (0 : Int) (⟨#[]⟩ : BA)).bind fun (v97, q98, l99, v100, v101, s102, l103, l104, l105) => some ((Ln.mk v9 s26 s39 l99 v50 v64 v65 (wrap .u8 v83) (V.mk v100 v101 s102 l103) l104 l105), v97, q98)))) ((self1093_rest q27 q40 q12 q51 q66 true q16 q17 v18 v1 s2 v84 false v9 s26 s39 v50 v64 v65 (wrap .u8 v83) (0 : Int) (0 : Int) (⟨#[]⟩ : BA)).bind fun (v86, q87, l88, v89, v90, s91, l92, l93, l94) => some ((Ln.mk v9 s26 s39 l88 v50 v64 v65 (wrap .u8 v83) (V.mk v89 v90 s91 l92) l93 l94), v86, q87))) ((self1093_rest q27 q40 q12 q51 q66 false q16 q17 v18 v1 s2 v62 q63 v9 s26 s39 v50 v64 v65 (0 : Int) (0 : Int) (0 : Int) (⟨#[]⟩ : BA)).bind fun (v74, q75, l76, v77, v78, s79, l80, l81, l82) => some ((Ln.mk v9 s26 s39 l76 v50 v64 v65 0 (V.mk v77 v78 s79 l80) l81 l82), v74, q75)))))))
def f1093_rest_L2 (fuel : Nat) (s11 : BA) (v14 : Int) : Nat → LB → Int → Bool → Option (Sum (Int × Bool × LB × Int × Int × BA × FV × LW × (List Ln)) (Int × Bool × Bool × LB))
 | 0, _, _, _ => none
 | g84 + 1, l86, v87, q88 => cond q88 ((f1096_is (⟨#[41]⟩ : BA) s11 v87 true).bind fun (q90, v91, q92) => cond q90 (some (.inr (v91, q92, true, l86))) (cond (v14 == 9) ((f1097_quoted fuel s11 v91 q92).bind fun (s98, v99, q100) => grdP (l86.length + ([s98] : LB).length ≤ 68719476736) (f1093_rest_L2 fuel s11 v14 g84 (l86 ++ ([s98] : LB)) v99 q100)) ((f1089_any s11 v91 q92).bind fun (s94, v95, q96) => grdP (l86.length + ([s94] : LB).length ≤ 68719476736) (f1093_rest_L2 fuel s11 v14 g84 (l86 ++ ([s94] : LB)) v95 q96)))) (some (.inr (v87, false, true, l86)))
def f1093_rest_L4 (fuel : Nat) (s11 : BA) : Nat → LW → Int → Bool → Option (Sum (Int × Bool × LB × Int × Int × BA × FV × LW × (List Ln)) (Int × Bool × Bool × LW))
 | 0, _, _, _ => none
 | g194 + 1, l196, v197, q198 => cond q198 ((f1096_is (⟨#[41]⟩ : BA) s11 v197 true).bind fun (q200, v201, q202) => cond q200 (some (.inr (v201, q202, true, l196))) ((f1099_value fuel (0 : Int) s11 v201 q202).bind fun ((.mk k203 n204 s205 f206), v207, q208) => (f1099_value fuel (0 : Int) s11 v207 q208).bind fun ((.mk k209 n210 s211 f212), v213, q214) => grdP (l196.length + ([((V.mk k203 n204 s205 f206), (V.mk k209 n210 s211 f212))] : LW).length ≤ 68719476736) (f1093_rest_L4 fuel s11 g194 (l196 ++ ([((V.mk k203 n204 s205 f206), (V.mk k209 n210 s211 f212))] : LW)) v213 q214))) (some (.inr (v197, false, true, l196)))
def f1093_rest_L5 (self1010_lens : Int → BA → Int → Bool → Option (Ln × Int × Bool)) (v10 : Int) (s11 : BA) (l63 : LB) (v110 : Int) (v111 : Int) (s112 : BA) (l113 : FV) (l169 : LW) : Nat → (List Ln) → Int → Bool → Option (Int × Bool × LB × Int × Int × BA × FV × LW × (List Ln))
 | 0, _, _, _ => none
 | g323 + 1, l325, v326, q327 => cond q327 ((f1096_is (⟨#[41]⟩ : BA) s11 v326 true).bind fun (q329, v330, q331) => cond q329 (some (v330, q331, l63, v110, v111, s112, l113, l169, l325)) ((self1010_lens (wrap .i64 (v10 + 1)) s11 v330 q331).bind fun ((.mk op333 nm334 to335 ns336 n337 lo338 hi339 sep340 (.mk k341 n342 s343 f344) prs345 ks346), v347, q348) => grdP (l325.length + ([(Ln.mk 0 (⟨#[]⟩ : BA) (⟨#[]⟩ : BA) [] 0 0 0 0 (V.mk 0 0 (⟨#[]⟩ : BA) []) [] [])] : List Ln).length ≤ 68719476736) (grdP ((0 : Int) ≤ ((l325.length : Nat) : Int) ∧ ((l325.length : Nat) : Int) < (((l325.length + ([(Ln.mk 0 (⟨#[]⟩ : BA) (⟨#[]⟩ : BA) [] 0 0 0 0 (V.mk 0 0 (⟨#[]⟩ : BA) []) [] [])] : List Ln).length) : Nat) : Int)) (getN (l325 ++ ([(Ln.mk 0 (⟨#[]⟩ : BA) (⟨#[]⟩ : BA) [] 0 0 0 0 (V.mk 0 0 (⟨#[]⟩ : BA) []) [] [])] : List Ln)) (0 + ((l325.length : Nat) : Int).toNat) fun uu364 => match uu364 with | .mk op350 nm351 to352 ns353 n354 lo355 hi356 sep357 (.mk k358 n359 s360 f361) prs362 ks363 => f1093_rest_L5 self1010_lens v10 s11 l63 v110 v111 s112 l113 l169 g323 ((l325 ++ ([(Ln.mk 0 (⟨#[]⟩ : BA) (⟨#[]⟩ : BA) [] 0 0 0 0 (V.mk 0 0 (⟨#[]⟩ : BA) []) [] [])] : List Ln)).set (0 + ((l325.length : Nat) : Int).toNat) (Ln.mk op333 nm334 to335 ns336 n337 lo338 hi339 sep340 (V.mk k341 n342 s343 f344) prs345 ks346)) v347 q348)))) (some (v326, false, l63, v110, v111, s112, l113, l169, l325))
def b1093_rest (fuel : Nat) (self1010_lens : Int → BA → Int → Bool → Option (Ln × Int × Bool)) : Bool → Bool → Bool → Bool → Bool → Bool → Bool → Bool → Int → Int → BA → Int → Bool → Int → BA → BA → Int → Int → Int → Int → Int → Int → BA → Option (Int × Bool × LB × Int × Int × BA × FV × LW × (List Ln))
 | q1, q2, q3, q4, q5, q6, q7, q8, v9, v10, s11, v12, q13, v14, s15, s16, v17, v18, v19, v20, v21, v22, s23 => sbind (ο := Int × Bool × Bool × LB) (cond q3 ((f1094_must (⟨#[40]⟩ : BA) s11 v12 q13).bind fun (v66, q67) => f1093_rest_L2 fuel s11 v14 fuel [] v66 q67) (some (.inr (v12, q13, false, [])))) (fun (v60, q61, q62, l63) => sbind (ο := Int × Bool × Int × Int × BA × FV × Bool) (cond q7 ((f1099_value fuel (0 : Int) s11 v60 q61).bind fun ((.mk k116 n117 s118 f119), v120, q121) => some (.inr (v120, q121, k116, n117, s118, f119, true))) (some (.inr (v60, q61, v21, v22, s23, [], false)))) (fun (v108, q109, v110, v111, s112, l113, q114) => sbind (ο := Int × Bool × Bool × LW) (cond q8 ((f1094_must (⟨#[40]⟩ : BA) s11 v108 q109).bind fun (v172, q173) => f1093_rest_L4 fuel s11 fuel [] v172 q173) (some (.inr (v108, q109, false, [])))) (fun (v166, q167, q168, l169) => cond (v9 != 0) ((f1094_must (⟨#[40]⟩ : BA) s11 v166 q167).bind fun (v217, q218) => f1093_rest_L5 self1010_lens v10 s11 l63 v110 v111 s112 l113 l169 fuel [] v217 q218) (some (v166, q167, l63, v110, v111, s112, l113, l169, [])))))
def S1010_lens : Nat → (Int → BA → Int → Bool → Option (Ln × Int × Bool)) × (Bool → Bool → Bool → Bool → Bool → Bool → Bool → Bool → Int → Int → BA → Int → Bool → Int → BA → BA → Int → Int → Int → Int → Int → Int → BA → Option (Int × Bool × LB × Int × Int × BA × FV × LW × (List Ln)))
 | 0 => (fun _ _ _ _ => none, fun _ _ _ _ _ _ _ _ _ _ _ _ _ _ _ _ _ _ _ _ _ _ _ => none)
 | n + 1 => (b1010_lens (S1010_lens n).2, b1093_rest n (S1010_lens n).1)
def f1010_lens (n : Nat) : Int → BA → Int → Bool → Option (Ln × Int × Bool) := (S1010_lens n).1
def f1093_rest (n : Nat) : Bool → Bool → Bool → Bool → Bool → Bool → Bool → Bool → Int → Int → BA → Int → Bool → Int → BA → BA → Int → Int → Int → Int → Int → Int → BA → Option (Int × Bool × LB × Int × Int × BA × FV × LW × (List Ln)) := (S1010_lens n).2
def C1010_lens (O : Oracle TT) (m : Int → BA → Int → Bool → Option (Ln × Int × Bool)) : Prop :=
 ∀ (v1 : Int) (s2 : BA) (v3 : Int) (q4 : Bool) (Q : (Ln × Int × Bool) → Prop) (R : RR) (_ : ∀ (op124 : Int) (nm125 : BA) (to126 : BA) (ns127 : LB) (n128 : Int) (lo129 : Int) (hi130 : Int) (sep131 : Int) (k132 : Int) (n133 : Int) (s134 : BA) (f135 : FV) (prs136 : LW) (ks137 : List Ln) (v138 : Int) (q139 : Bool), Q ((Ln.mk op124 nm125 to126 ns127 n128 lo129 hi130 sep131 (V.mk k132 n133 s134 f135) prs136 ks137), v138, q139) → R (.agg [ci op124, .str nm125, .str to126, .isl .str ns127, ci n128, ci lo129, ci hi130, .int .u8 sep131, ci k132, ci n133, .str s134, .isl .fld f135, .isl .two prs136, .isl .lens ks137]) [(.x 0, some (.var [.str s2, ci v138, .bool q139]))]) (_ : sat (m v1 s2 v3 q4) Q), O 1010 [pX 0, iD v1] [(.x 0, some (.var [.str s2, ci v3, .bool q4]))] R
def j1010_lens : Fn TT := ⟨88, [.cell 4 14 true], (.seq (.reg [qo 4 (.alloc 4 zLn)]) (.seq (.reg [qo 5 (.alloc 5 [.int .i64 0, .str eB, .str eB, .nils, .int .i64 0, .int .i64 0, .int .i64 0, .int .u8 0, .int .i64 0, .int .i64 0, .str eB, .nils, .nils, .nils])]) (.seq (.seq (.reg [qo 9 (.mv 1),qo 10 (.bin .gtr .num 9 (iC 40))]) (.cond 10 (.seq (.reg [qo 11 (.mv 0),qo 12 (.nilck 11),
 qo 13 (.fa 12 2),qp (.store 13 bF 1)]) (.seq (.reg [qo 14 (.load 5 14 true),qp (.store 4 14 14)]) (.pre [.frzc (.s 4) 3 .str, .frzc (.s 4) 11 .fld, .frzc (.s 4) 12 .two, .frzc (.s 4) 13 .lens] .ret))) .skip)) (.seq (.reg [qo 15 (.mv 0),qo 16 (.mkf 1011 [5]),qo 17 (.call 17 1012 [15, 16])]) (.seq (.reg [qo 18 (.fa 5 0),qo 19 (.load 18 1 false),qo 20 (.call 20 144 [19]),
 qo 6 (.alloc 6 [.bool false, .bool false, .bool false, .bool false, .bool false, .bool false, .bool false, .bool false, .int .i64 0]),qp (.store 6 20 9)]) (.cut [0, 1, 4, 5, 6] [(.x 0), (.s 4), (.s 5), (.s 6)] (.seq (.reg [qo 21 (.fa 6 0),qo 22 (.load 21 1 false)]) (.cond 22 (.seq (.reg [qo 23 (.mv 0),qo 24 (.call 24 1089 [23]),qo 25 (.fa 5 1),qp (.store 25 24 1)]) (.seq
 (.reg [qo 26 (.fa 5 1),qo 27 (.load 26 1 false),qo 28 (.bin .eql .str 27 (.c (.str (⟨#[45]⟩ : BA)))),qo 29 (.mv 28),qg 29 30 (.fa 5 0),qg 29 31 (.load 30 1 false),qg 29 32 (.bin .eql .num 31 (iC 13)),qo 33 (.pick 29 32 bF)]) (.cond 33 (.reg [qo 34 (.fa 5 1),qp (.store 34 sE 1)]) .skip))) .skip)) (.cut [0, 1, 4, 5, 6] [(.x 0), (.s 4), (.s 5), (.s 6)] (.seq (.reg [qo 35 (.fa 6 1),
 qo 36 (.load 35 1 false)]) (.cond 36 (.reg [qo 37 (.mv 0),qo 38 (.call 38 1089 [37]),qo 39 (.fa 5 2),qp (.store 39 38 1)]) .skip)) (.cut [0, 1, 4, 5, 6] [(.x 0), (.s 4), (.s 5), (.s 6)] (.seq (.reg [qo 40 (.fa 6 3),qo 41 (.load 40 1 false)]) (.cond 41 (.reg [qo 42 (.mv 0),qo 43 (.call 43 1091 [42]),qo 44 (.fa 5 4),qp (.store 44 43 1)]) .skip))
 (.cut [0, 1, 4, 5, 6] [(.x 0), (.s 4), (.s 5), (.s 6)] (.seq (.reg [qo 45 (.fa 6 4),qo 46 (.load 45 1 false)]) (.cond 46 (.reg [qo 47 (.mv 0),qo 48 (.call 48 1091 [47]),qo 49 (.mv 0),qo 50 (.call 50 1091 [49]),qo 51 (.fa 5 5),qp (.store 51 48 1),qo 52 (.fa 5 6),qp (.store 52 50 1)]) .skip)) (.seq (.seq (.reg [qo 53 (.fa 6 5),qo 54 (.load 53 1 false)]) (.cond 54 (.seq (.reg [qo 55 (.mv 0),
 qo 56 (.nilck 55),qo 57 (.fa 56 1),qo 58 (.load 57 1 false),qo 7 (.mv 58)]) (.seq (.reg [qo 59 (.mv 0),qo 60 (.call 60 1091 [59]),qo 8 (.mv 60)]) (.seq (.seq (.reg [qo 61 (.mv 0),qo 62 (.nilck 61),qo 63 (.fa 62 2),qo 64 (.load 63 1 false),qo 65 (.mv 64),qg 65 66 (.mv 8),qg 65 67 (.bin .lss .num 66 (iC 0)),qg 65 68 (.mv 67),qf 68 69 (.mv 8),qf 68 70 (.bin .gtr .num 69 (iC 255)),
 qg 65 71 (.pick 68 bT 70),qo 72 (.pick 65 71 bF)]) (.cond 72 (.reg [qo 73 (.mv 0),qo 74 (.mv 0),qo 75 (.mv 7),qo 76 (.nilck 73),qo 77 (.fa 76 1),qp (.store 77 75 1),qo 78 (.nilck 74),qo 79 (.fa 78 2),qp (.store 79 bF 1)]) .skip)) (.reg [qo 80 (.mv 8),qo 81 (.conv .u8 80),qo 82 (.fa 5 7),qp (.store 82 81 1)])))) .skip)) (.seq (.reg [qo 83 (.mv 0),qo 84 (.load 6 9 true),qo 85 (.mv 1),
 qo 86 (.call 86 1093 [83, 5, 84, 85])]) (.seq (.reg [qo 87 (.load 5 14 true),qp (.store 4 87 14)]) (.pre [.frzc (.s 4) 3 .str, .frzc (.s 4) 12 .two, .frzc (.s 4) 13 .lens] .ret)))))))))))))⟩
def C1093_rest (O : Oracle TT) (m : Bool → Bool → Bool → Bool → Bool → Bool → Bool → Bool → Int → Int → BA → Int → Bool → Int → BA → BA → Int → Int → Int → Int → Int → Int → BA → Option (Int × Bool × LB × Int × Int × BA × FV × LW × (List Ln))) : Prop :=
 ∀ (q1 : Bool) (q2 : Bool) (q3 : Bool) (q4 : Bool) (q5 : Bool) (q6 : Bool) (q7 : Bool) (q8 : Bool) (v9 : Int) (v10 : Int) (s11 : BA) (v12 : Int) (q13 : Bool) (v14 : Int) (s15 : BA) (s16 : BA) (v17 : Int) (v18 : Int) (v19 : Int) (v20 : Int) (v21 : Int) (v22 : Int) (s23 : BA) (Q : (Int × Bool × LB × Int × Int × BA × FV × LW × (List Ln)) → Prop) (R : RR) (_ : ∀ (v429 : Int) (q430 : Bool) (l431 : LB) (v432 : Int) (v433 : Int) (s434 : BA) (l435 : FV) (l436 : LW) (l437 : List Ln) (n0r : Nat) (_ : n0r = l431.length) (n1r : Nat) (_ : n1r = l436.length) (n2r : Nat) (_ : n2r = l437.length), Q (v429, q430, l431, v432, v433, s434, l435, l436, l437) → R (.tup []) [(.x 0, some (.var [.str s11, ci v429, .bool q430])), (.x 1, some (.var [ci v14, .str s15, .str s16, .osl (.x 2) 0 n0r, ci v17, ci v18, ci v19, .int .u8 v20, ci v432, ci v433, .str s434, .isl .fld l435, .osl (.x 3) 0 n1r, .osl (.x 4) 0 n2r])), (.x 2, some (.row false .str l431)), (.x 3, some (.row false .two l436)), (.x 4, some (.row false .lens l437))]) (_ : sat (m q1 q2 q3 q4 q5 q6 q7 q8 v9 v10 s11 v12 q13 v14 s15 s16 v17 v18 v19 v20 v21 v22 s23) Q), O 1093 [pX 0, pX 1, .agg [.bool q1, .bool q2, .bool q3, .bool q4, .bool q5, .bool q6, .bool q7, .bool q8, ci v9], iD v10] [(.x 0, some (.var [.str s11, ci v12, .bool q13])), (.x 1, some (.var [ci v14, .str s15, .str s16, .nils, ci v17, ci v18, ci v19, .int .u8 v20, ci v21, ci v22, .str s23, .nils, .nils, .nils]))] R
def j1093_rest : Fn TT := ⟨112, [], (.aft (.seq (.reg [qo 6 (.box 6 2)]) (.cut [0, 1, 3, 6] [(.x 0), (.x 1), (.s 6), (.sub (.sub (.x 1) 4711) 3)] (.aft (.seq (.reg [qo 9 (.fa 6 2),qo 10 (.load 9 1 false)]) (.cond 10 (.seq (.reg [qo 11 (.mv 0),qo 12 (.call 12 1094 [11, (.c (.str (⟨#[40]⟩ : BA)))])]) (.block 0 (.pre [.ownc (.x 1) 3 .str (.sub (.sub (.x 1) 600) 3)]
 (.loop (.keep [0, 1, 3, 6] [(.x 0), (.x 1), (.s 6), (.sub (.sub (.x 1) 600) 3)] (.aft (.seq (.seq (.reg [qo 13 (.mv 0),qo 14 (.nilck 13),qo 15 (.fa 14 2),qo 16 (.load 15 1 false),qo 17 (.mv 16),qg 17 18 (.mv 0),qg 17 19 (.call 19 1096 [18, (.c (.str (⟨#[41]⟩ : BA)))]),qg 17 20 (.un .not 19),qo 21 (.pick 17 20 bF)]) (.cond 21 .skip (.exit 0))) (.block 1 (.seq (.reg [qo 22 (.mv 1),
 qo 23 (.nilck 22),qo 24 (.fa 23 0),qo 25 (.load 24 1 false),qo 26 (.bin .eql .num 25 (iC 9))]) (.cond 26 (.drw [(.x 0), (.sub (.sub (.x 1) 600) 3)] (oR 12) [11] [0, 1, 2, 3, 4, 5, 9, 10] [qo 27 (.mv 1),qo 28 (.mv 1),qo 29 (.nilck 28),qo 30 (.fa 29 3),qo 31 (.load 30 1 false),qo 32 (.mv 0),qo 33 (.call 33 1097 [32]),qo 34 (.bsl .str [33]),qo 35 (.app 35 .str 68719476736 31 34),
 qo 36 (.nilck 27),qo 37 (.fa 36 3),qp (.store 37 35 1)]) (.drw [(.x 0), (.sub (.sub (.x 1) 600) 3)] (oR 12) [11] [0, 1, 2, 3, 4, 5, 9, 10] [qo 38 (.mv 1),qo 39 (.mv 1),qo 40 (.nilck 39),qo 41 (.fa 40 3),qo 42 (.load 41 1 false),qo 43 (.mv 0),qo 44 (.call 44 1089 [43]),qo 45 (.bsl .str [44]),qo 46 (.app 46 .str 68719476736 42 45),qo 47 (.nilck 38),qo 48 (.fa 47 3),
 qp (.store 48 46 1)]))))) [.keep [0, 1, 3, 6] [(.x 0), (.x 1), (.s 6), (.s 46), (.s 35)], .ownc (.x 1) 3 .str (.sub (.sub (.x 1) 600) 3)])))))) .skip)) [.ownc (.x 1) 3 .str (.sub (.sub (.x 1) 4711) 3)]) (.cut [0, 1, 3, 6] [(.x 0), (.x 1), (.s 6), (.sub (.sub (.x 1) 4711) 3)] (.aft (.seq (.reg [qo 49 (.fa 6 6),qo 50 (.load 49 1 false)]) (.cond 50 (.reg [qo 51 (.mv 1),qo 52 (.mv 0),
 qo 53 (.call 53 1099 [52, (iC 0)]),qo 54 (.nilck 51),qo 55 (.fa 54 8),qp (.store 55 53 4)]) .skip)) [.frzc (.x 1) 11 .fld]) (.cut [0, 1, 3, 6] [(.x 0), (.x 1), (.s 6), (.sub (.sub (.x 1) 4711) 3), (.sub (.sub (.x 1) 4709) 12)] (.aft (.seq (.reg [qo 56 (.fa 6 7),qo 57 (.load 56 1 false)]) (.cond 57 (.seq (.reg [qo 58 (.mv 0),qo 59 (.call 59 1094 [58, (.c (.str (⟨#[40]⟩ : BA)))])])
 (.block 2 (.pre [.ownc (.x 1) 12 .two (.sub (.sub (.x 1) 601) 12)] (.loop (.keep [0, 1, 3, 6] [(.x 0), (.x 1), (.s 6), (.sub (.sub (.x 1) 4711) 3), (.sub (.sub (.x 1) 601) 12)] (.aft (.seq (.seq (.reg [qo 60 (.mv 0),qo 61 (.nilck 60),qo 62 (.fa 61 2),qo 63 (.load 62 1 false),qo 64 (.mv 63),qg 64 65 (.mv 0),qg 64 66 (.call 66 1096 [65, (.c (.str (⟨#[41]⟩ : BA)))]),
 qg 64 67 (.un .not 66),qo 68 (.pick 64 67 bF)]) (.cond 68 .skip (.exit 2))) (.block 3 (.seq (.reg [qo 69 (.mv 0),qo 70 (.call 70 1099 [69, (iC 0)]),qo 8 (.alloc 8 zV),qp (.store 8 70 4)]) (.drw [(.x 0), (.sub (.sub (.x 1) 601) 12)] (oR 14) [13] [0, 1, 2, 3, 4, 5, 6, 8, 11, 12] [qo 71 (.mv 1),qo 72 (.mv 1),qo 73 (.nilck 72),qo 74 (.fa 73 12),qo 75 (.load 74 1 false),qo 76 (.load 8 4 true),
 qo 77 (.mv 0),qo 78 (.call 78 1099 [77, (iC 0)]),qo 79 (.build zTw [((0, 4), 76), ((4, 4), 78)]),qo 80 (.bsl .two [79]),qo 81 (.app 81 .two 68719476736 75 80),qo 82 (.nilck 71),qo 83 (.fa 82 12),qp (.store 83 81 1)])))) [.keep [0, 1, 3, 6] [(.x 0), (.x 1), (.s 6), (.sub (.sub (.x 1) 4711) 3), (.s 81)], .ownc (.x 1) 12 .two (.sub (.sub (.x 1) 601) 12)]))))))
 .skip)) [.ownc (.x 1) 12 .two (.sub (.sub (.x 1) 4709) 12)]) (.seq (.reg [qo 84 (.fa 6 8),qo 85 (.load 84 1 false),qo 86 (.bin .neq .num 85 (iC 0))]) (.cond 86 (.seq (.reg [qo 87 (.mv 0),qo 88 (.call 88 1094 [87, (.c (.str (⟨#[40]⟩ : BA)))])]) (.block 4 (.pre [.ownc (.x 1) 13 .lens (.sub (.sub (.x 1) 602) 13)]
 (.loop (.keep [0, 1, 3] [(.x 0), (.x 1), (.sub (.sub (.x 1) 4711) 3), (.sub (.sub (.x 1) 4709) 12), (.sub (.sub (.x 1) 602) 13)] (.aft (.seq (.seq (.reg [qo 89 (.mv 0),qo 90 (.nilck 89),qo 91 (.fa 90 2),qo 92 (.load 91 1 false),qo 93 (.mv 92),qg 93 94 (.mv 0),qg 93 95 (.call 95 1096 [94, (.c (.str (⟨#[41]⟩ : BA)))]),qg 93 96 (.un .not 95),qo 97 (.pick 93 96 bF)]) (.cond 97 .skip
 (.exit 4))) (.block 5 (.drw [(.x 0), (.sub (.sub (.x 1) 602) 13)] (.go 0 (.go 1 (.go 2 (.go 3 (.go 4 (.go 5 (.go 6 (.go 8 (.alt 7 (.go 9 (.go 10 (.go 11 (.go 13 (.go 14 (.alt 12 (.go 15 .nil) 15 (.go 12 .nil))))))) 9 (.go 7 (.go 10 (.go 11 (.go 13 (.go 14 (.alt 12 (.go 15 .nil) 15 (.go 12 .nil)))))))))))))))) [12, 15] [0, 1, 2, 3, 4, 5, 6, 8, 11, 13, 14] [qo 98 (.mv 1),qo 99 (.nilck 98),
 qo 100 (.fa 99 13),qo 101 (.load 100 1 false),qo 102 (.mv 0),qo 103 (.mv 3),qo 104 (.bin .add .num 103 (iC 1)),qo 105 (.call 105 1010 [102, 104]),qo 106 (.len false 101),qo 107 (.bsl .lens [(.g [.int .i64 0, .str eB, .str eB, .nils, .int .i64 0, .int .i64 0, .int .i64 0, .int .u8 0, .int .i64 0, .int .i64 0, .str eB, .nils, .nils, .nils])]),qo 108 (.app 108 .lens 68719476736 101 107),
 qo 109 (.idxA 108 106 14),qp (.store 109 105 14),qo 110 (.nilck 98),qo 111 (.fa 110 13),qp (.store 111 108 1)]))) [.keep [0, 1, 3] [(.x 0), (.x 1), (.sub (.sub (.x 1) 4711) 3), (.sub (.sub (.x 1) 4709) 12), (.s 108)], .ownc (.x 1) 13 .lens (.sub (.sub (.x 1) 602) 13)])))))) .skip)))))) [.ownc (.x 1) 13 .lens (.sub (.sub (.x 1) 801) 13)])⟩
theorem w1010_lens {O : Oracle TT} (self1093_rest : Bool → Bool → Bool → Bool → Bool → Bool → Bool → Bool → Int → Int → BA → Int → Bool → Int → BA → BA → Int → Int → Int → Int → Int → Int → BA → Option (Int × Bool × LB × Int × Int × BA × FV × LW × (List Ln))) (h144_table : C144_table O f144_table) (h1089_any : C1089_any O f1089_any) (h1091_number : C1091_number O f1091_number) (h1012d_take : C1012d_take O f1012d_take) (h1093_rest : C1093_rest O self1093_rest) : C1010_lens (fun _ => vcF (S := SS) O j1010_lens) (b1010_lens self1093_rest) := by
 intro v1 s2 v3 q4 Q R hQ h
 unfold b1010_lens at h
 refine ⟨nle rfl, rfl, ?_⟩
 refine kc h (fun h => ?_) fun h => ?_
 refine kL [(.x 0), (.s 5)] (h1012d_take _ _ _ _ _ _ _ _ _ _ _ _ _ _ _ ?_ (sat_bind h))
 rintro s6 v7 q8 v9 h
 refine kL [] (h144_table _ _ _ ?_ (sat_bind h))
 rintro q10 q11 q12 q13 q14 q15 q16 q17 v18 h
 obtain ⟨R28, h, hlR28, hrR28⟩ := sat_sbind h
 refine kX (fun σ => ∃ (v24 : Int) (q25 : Bool) (s26 : BA) (q27 : Bool), R28 (.inr (v24, q25, s26, q27)) ∧ σ = ⟨[(0, pX 0), (1, iD v1), (4, pS 4), (5, pS 5), (6, pS 6)], [(.x 0, some (.var [.str s2, ci v24, .bool q25])), (.s 4, some (.var [ci 0, .str (⟨#[]⟩ : BA), .str (⟨#[]⟩ : BA), .isl .str [], ci 0, ci 0, ci 0, .int .u8 0, ci 0, ci 0, .str (⟨#[]⟩ : BA), .isl .fld [], .isl .two [], .isl .lens []])), (.s 5, some (.var [ci v9, .str s26, .str (⟨#[]⟩ : BA), .nils, ci 0, ci 0, ci 0, .int .u8 0, ci 0, ci 0, .str (⟨#[]⟩ : BA), .nils, .nils, .nils])), (.s 6, some (.var [.bool q27, .bool q11, .bool q12, .bool q13, .bool q14, .bool q15, .bool q16, .bool q17, ci v18]))]⟩) ?_ ?_
 cases q10
 replace h := sat_cf h
 conv => whnf
 exact ⟨v7, q8, (⟨#[]⟩ : BA), false, sat_some h, rfl⟩
 replace h := sat_ct h
 refine kL [(.x 0)] (h1089_any _ _ _ _ _ ?_ (sat_bind h))
 rintro s29 v30 q31 h
 refine kc h (fun h => ?_) fun h => ?_
 conv => whnf
 exact ⟨v30, q31, s29, true, sat_some h, rfl⟩
 refine kc h (fun h => ?_) fun h => ?_
 conv => whnf
 exact ⟨v30, q31, s29, true, sat_some h, rfl⟩
 conv => whnf
 exact ⟨v30, q31, (⟨#[]⟩ : BA), true, sat_some h, rfl⟩
 rintro _ ⟨v24, q25, s26, q27, h, rfl⟩
 replace h := hrR28 _ h
 obtain ⟨R41, h, hlR41, hrR41⟩ := sat_sbind h
 refine kX (fun σ => ∃ (v37 : Int) (q38 : Bool) (s39 : BA) (q40 : Bool), R41 (.inr (v37, q38, s39, q40)) ∧ σ = ⟨[(0, pX 0), (1, iD v1), (4, pS 4), (5, pS 5), (6, pS 6)], [(.x 0, some (.var [.str s2, ci v37, .bool q38])), (.s 4, some (.var [ci 0, .str (⟨#[]⟩ : BA), .str (⟨#[]⟩ : BA), .isl .str [], ci 0, ci 0, ci 0, .int .u8 0, ci 0, ci 0, .str (⟨#[]⟩ : BA), .isl .fld [], .isl .two [], .isl .lens []])), (.s 5, some (.var [ci v9, .str s26, .str s39, .nils, ci 0, ci 0, ci 0, .int .u8 0, ci 0, ci 0, .str (⟨#[]⟩ : BA), .nils, .nils, .nils])), (.s 6, some (.var [.bool q27, .bool q40, .bool q12, .bool q13, .bool q14, .bool q15, .bool q16, .bool q17, ci v18]))]⟩) ?_ ?_
 cases q11
 replace h := sat_cf h
 conv => whnf
 exact ⟨v24, q25, (⟨#[]⟩ : BA), false, sat_some h, rfl⟩
 replace h := sat_ct h
 refine kL [(.x 0)] (h1089_any _ _ _ _ _ ?_ (sat_bind h))
 rintro s42 v43 q44 h
 conv => whnf
 exact ⟨v43, q44, s42, true, sat_some h, rfl⟩
 rintro _ ⟨v37, q38, s39, q40, h, rfl⟩
 replace h := hrR41 _ h
 obtain ⟨R52, h, hlR52, hrR52⟩ := sat_sbind h
 refine kX (fun σ => ∃ (v48 : Int) (q49 : Bool) (v50 : Int) (q51 : Bool), R52 (.inr (v48, q49, v50, q51)) ∧ σ = ⟨[(0, pX 0), (1, iD v1), (4, pS 4), (5, pS 5), (6, pS 6)], [(.x 0, some (.var [.str s2, ci v48, .bool q49])), (.s 4, some (.var [ci 0, .str (⟨#[]⟩ : BA), .str (⟨#[]⟩ : BA), .isl .str [], ci 0, ci 0, ci 0, .int .u8 0, ci 0, ci 0, .str (⟨#[]⟩ : BA), .isl .fld [], .isl .two [], .isl .lens []])), (.s 5, some (.var [ci v9, .str s26, .str s39, .nils, ci v50, ci 0, ci 0, .int .u8 0, ci 0, ci 0, .str (⟨#[]⟩ : BA), .nils, .nils, .nils])), (.s 6, some (.var [.bool q27, .bool q40, .bool q12, .bool q51, .bool q14, .bool q15, .bool q16, .bool q17, ci v18]))]⟩) ?_ ?_
 cases q13
 replace h := sat_cf h
 conv => whnf
 exact ⟨v37, q38, (0 : Int), false, sat_some h, rfl⟩
 replace h := sat_ct h
 refine kL [(.x 0)] (h1091_number _ _ _ _ _ ?_ (sat_bind h))
 rintro v53 v54 q55 h
 conv => whnf
 exact ⟨v54, q55, v53, true, sat_some h, rfl⟩
 rintro _ ⟨v48, q49, v50, q51, h, rfl⟩
 replace h := hrR52 _ h
 obtain ⟨R67, h, hlR67, hrR67⟩ := sat_sbind h
 refine kX (fun σ => ∃ (v62 : Int) (q63 : Bool) (v64 : Int) (v65 : Int) (q66 : Bool), R67 (.inr (v62, q63, v64, v65, q66)) ∧ σ = ⟨[(0, pX 0), (1, iD v1), (4, pS 4), (5, pS 5), (6, pS 6)], [(.x 0, some (.var [.str s2, ci v62, .bool q63])), (.s 4, some (.var [ci 0, .str (⟨#[]⟩ : BA), .str (⟨#[]⟩ : BA), .isl .str [], ci 0, ci 0, ci 0, .int .u8 0, ci 0, ci 0, .str (⟨#[]⟩ : BA), .isl .fld [], .isl .two [], .isl .lens []])), (.s 5, some (.var [ci v9, .str s26, .str s39, .nils, ci v50, ci v64, ci v65, .int .u8 0, ci 0, ci 0, .str (⟨#[]⟩ : BA), .nils, .nils, .nils])), (.s 6, some (.var [.bool q27, .bool q40, .bool q12, .bool q51, .bool q66, .bool q15, .bool q16, .bool q17, ci v18]))]⟩) ?_ ?_
 cases q14
 replace h := sat_cf h
 conv => whnf
 exact ⟨v48, q49, (0 : Int), (0 : Int), false, sat_some h, rfl⟩
 replace h := sat_ct h
 refine kL [(.x 0)] (h1091_number _ _ _ _ _ ?_ (sat_bind h))
 rintro v68 v69 q70 h
 refine kL [(.x 0)] (h1091_number _ _ _ _ _ ?_ (sat_bind h))
 rintro v71 v72 q73 h
 conv => whnf
 exact ⟨v72, q73, v68, v71, true, sat_some h, rfl⟩
 rintro _ ⟨v62, q63, v64, v65, q66, h, rfl⟩
 replace h := hrR67 _ h
 cases q15
 replace h := sat_cf h
 refine kL [(.x 0), (.s 5)] (h1093_rest _ _ _ _ _ _ _ _ _ _ _ _ _ _ _ _ _ _ _ _ _ _ _ _ _ ?_ (sat_bind h))
 rintro v74 q75 l76 v77 v78 s79 l80 l81 l82 _ rfl _ rfl _ rfl h
 conv => whnf
 refine ⟨LN, ?_⟩
 conv => whnf
 refine ⟨LN, ?_⟩
 conv => whnf
 refine ⟨LN, ?_⟩
 exact kR [] (ND 1) (hQ _ _ _ _ _ _ _ _ _ _ _ _ _ _ _ _ (sat_some h))
 replace h := sat_ct h
 refine kL [(.x 0)] (h1091_number _ _ _ _ _ ?_ (sat_bind h))
 rintro v83 v84 q85 h
 cases q85
 replace h := sat_cf h
 refine kL [(.x 0), (.s 5)] (h1093_rest _ _ _ _ _ _ _ _ _ _ _ _ _ _ _ _ _ _ _ _ _ _ _ _ _ ?_ (sat_bind h))
 rintro v86 q87 l88 v89 v90 s91 l92 l93 l94 _ rfl _ rfl _ rfl h
 conv => whnf
 refine ⟨LN, ?_⟩
 conv => whnf
 refine ⟨LN, ?_⟩
 conv => whnf
 refine ⟨LN, ?_⟩
 exact kR [] (ND 1) (hQ _ _ _ _ _ _ _ _ _ _ _ _ _ _ _ _ (sat_some h))
 replace h := sat_ct h
 refine kc h (fun h => ?_) fun h => ?_
 refine kc h (fun h => ?_) fun h => ?_
 refine kL [(.x 0), (.s 5)] (h1093_rest _ _ _ _ _ _ _ _ _ _ _ _ _ _ _ _ _ _ _ _ _ _ _ _ _ ?_ (sat_bind h))
 rintro v97 q98 l99 v100 v101 s102 l103 l104 l105 _ rfl _ rfl _ rfl h
 conv => whnf
 refine ⟨LN, ?_⟩
 conv => whnf
 refine ⟨LN, ?_⟩
 conv => whnf
 refine ⟨LN, ?_⟩
 exact kR [] (ND 1) (hQ _ _ _ _ _ _ _ _ _ _ _ _ _ _ _ _ (sat_some h))
 refine kL [(.x 0), (.s 5)] (h1093_rest _ _ _ _ _ _ _ _ _ _ _ _ _ _ _ _ _ _ _ _ _ _ _ _ _ ?_ (sat_bind h))
 rintro v106 q107 l108 v109 v110 s111 l112 l113 l114 _ rfl _ rfl _ rfl h
 conv => whnf
 refine ⟨LN, ?_⟩
 conv => whnf
 refine ⟨LN, ?_⟩
 conv => whnf
 refine ⟨LN, ?_⟩
 exact kR [] (ND 1) (hQ _ _ _ _ _ _ _ _ _ _ _ _ _ _ _ _ (sat_some h))
 refine kL [(.x 0), (.s 5)] (h1093_rest _ _ _ _ _ _ _ _ _ _ _ _ _ _ _ _ _ _ _ _ _ _ _ _ _ ?_ (sat_bind h))
 rintro v115 q116 l117 v118 v119 s120 l121 l122 l123 _ rfl _ rfl _ rfl h
 conv => whnf
 refine ⟨LN, ?_⟩
 conv => whnf
 refine ⟨LN, ?_⟩
 conv => whnf
 refine ⟨LN, ?_⟩
 exact kR [] (ND 1) (hQ _ _ _ _ _ _ _ _ _ _ _ _ _ _ _ _ (sat_some h))
 exact kR [] (ND 1) (hQ _ _ _ _ _ _ _ _ _ _ _ _ _ _ _ _ (sat_some h))
theorem w1093_rest {O : Oracle TT} (fuel : Nat) (self1010_lens : Int → BA → Int → Bool → Option (Ln × Int × Bool)) (h1010_lens : C1010_lens O self1010_lens) (h1089_any : C1089_any O f1089_any) (h1094_must : C1094_must O f1094_must) (h1096_is : C1096_is O f1096_is) (h1097_quoted : C1097_quoted O (f1097_quoted fuel)) (h1099_value : C1099_value O (f1099_value fuel)) : C1093_rest (fun _ => vcF (S := SS) O j1093_rest) (b1093_rest fuel self1010_lens) := by
 intro q1 q2 q3 q4 q5 q6 q7 q8 v9 v10 s11 v12 q13 v14 s15 s16 v17 v18 v19 v20 v21 v22 s23 Q R hQ h
 unfold b1093_rest at h
 refine ⟨nle rfl, rfl, ?_⟩
 obtain ⟨R65, h, hlR65, hrR65⟩ := sat_sbind h
 refine kX (fun σ => ∃ (v60 : Int) (q61 : Bool) (q62 : Bool) (l63 : LB) (n64 : Nat), n64 = l63.length ∧ R65 (.inr (v60, q61, q62, l63)) ∧ σ = ⟨[(0, pX 0), (1, pX 1), (3, iD v10), (6, pS 6)], [(.x 0, some (.var [.str s11, ci v60, .bool q61])), (.x 1, some (.var [ci v14, .str s15, .str s16, .osl (.sub (.sub (.x 1) 4711) 3) 0 n64, ci v17, ci v18, ci v19, .int .u8 v20, ci v21, ci v22, .str s23, .nils, .nils, .nils])), (.s 6, some (.var [.bool q1, .bool q2, .bool q62, .bool q4, .bool q5, .bool q6, .bool q7, .bool q8, ci v9])), (.sub (.sub (.x 1) 4711) 3, some (.row false .str l63))]⟩) ?_ ?_
 cases q3
 replace h := sat_cf h
 conv => whnf
 exact ⟨v12, q13, false, [], _, LN, sat_some h, rfl⟩
 replace h := sat_ct h
 refine kL [(.x 0)] (h1094_must _ _ _ _ _ _ ?_ (sat_bind h))
 rintro v66 q67 h
 refine kX (fun σ n => ∃ (f85 : Nat) (l86 : LB) (v87 : Int) (q88 : Bool) (n89 : Nat), f85 = n ∧ n89 = l86.length ∧ sat (f1093_rest_L2 fuel s11 v14 f85 l86 v87 q88) R65 ∧ σ.keep [0, 1, 3, 6] [(.x 0), (.x 1), (.s 6), (.sub (.sub (.x 1) 600) 3)] = ⟨[(0, pX 0), (1, pX 1), (3, iD v10), (6, pS 6)], [(.x 0, some (.var [.str s11, ci v87, .bool q88])), (.x 1, some (.var [ci v14, .str s15, .str s16, .osl (.sub (.sub (.x 1) 600) 3) 0 n89, ci v17, ci v18, ci v19, .int .u8 v20, ci v21, ci v22, .str s23, .nils, .nils, .nils])), (.s 6, some (.var [.bool q1, .bool q2, .bool true, .bool q4, .bool q5, .bool q6, .bool q7, .bool q8, ci v9])), (.sub (.sub (.x 1) 600) 3, some (.row false .str l86))]⟩) ⟨_, _, [], v66, q67, _, rfl, LN, h, rfl⟩ ?_
 rintro σ n ⟨f85, l86, v87, q88, _, rfl, rfl, h, hσ⟩
 refine kk hσ ?_
 rcases f85 with _ | g84
 rw [f1093_rest_L2] at h; exact nn h
 rw [f1093_rest_L2] at h
 cases q88
 replace h := sat_cf h
 conv => whnf
 exact ⟨v87, false, true, l86, _, LN, sat_some h, rfl⟩
 replace h := sat_ct h
 refine kL [(.x 0)] (h1096_is _ _ _ _ _ _ ?_ (sat_bind h))
 rintro q90 v91 q92 h
 cases q90
 replace h := sat_cf h
 refine kc h (fun h => ?_) fun h => ?_
 refine kL [(.x 0)] (h1089_any _ _ _ _ _ ?_ (sat_bind h))
 rintro s94 v95 q96 h
 conv => whnf
 refine ⟨LN, rfl, ?_⟩
 conv => whnf
 refine ⟨rfl, ?_⟩
 refine kp h fun hb97 h => ?_
 conv => whnf
 exact ⟨g84, nls, g84, (l86 ++ ([s94] : LB)), v95, q96, _, rfl, LN, h, rfl⟩
 refine kL [(.x 0)] (h1097_quoted _ _ _ _ _ ?_ (sat_bind h))
 rintro s98 v99 q100 h
 conv => whnf
 refine ⟨LN, rfl, ?_⟩
 conv => whnf
 refine ⟨rfl, ?_⟩
 refine kp h fun hb101 h => ?_
 conv => whnf
 exact ⟨g84, nls, g84, (l86 ++ ([s98] : LB)), v99, q100, _, rfl, LN, h, rfl⟩
 replace h := sat_ct h
 conv => whnf
 exact ⟨v91, q92, true, l86, _, LN, sat_some h, rfl⟩
 rintro _ ⟨v60, q61, q62, l63, _, rfl, h, rfl⟩
 replace h := hrR65 _ h
 obtain ⟨R115, h, hlR115, hrR115⟩ := sat_sbind h
 refine kX (fun σ => ∃ (v108 : Int) (q109 : Bool) (v110 : Int) (v111 : Int) (s112 : BA) (l113 : FV) (q114 : Bool), R115 (.inr (v108, q109, v110, v111, s112, l113, q114)) ∧ σ = ⟨[(0, pX 0), (1, pX 1), (3, iD v10), (6, pS 6)], [(.x 0, some (.var [.str s11, ci v108, .bool q109])), (.x 1, some (.var [ci v14, .str s15, .str s16, .osl (.sub (.sub (.x 1) 4711) 3) 0 l63.length, ci v17, ci v18, ci v19, .int .u8 v20, ci v110, ci v111, .str s112, .isl .fld l113, .nils, .nils])), (.s 6, some (.var [.bool q1, .bool q2, .bool q62, .bool q4, .bool q5, .bool q6, .bool q114, .bool q8, ci v9])), (.sub (.sub (.x 1) 4711) 3, some (.row false .str l63))]⟩) ?_ ?_
 cases q7
 replace h := sat_cf h
 conv => whnf
 exact ⟨v60, q61, v21, v22, s23, [], false, sat_some h, rfl⟩
 replace h := sat_ct h
 refine kL [(.x 0)] (h1099_value _ _ _ _ _ _ ?_ (sat_bind h))
 rintro k116 n117 s118 f119 v120 q121 h
 conv => whnf
 exact ⟨v120, q121, k116, n117, s118, f119, true, sat_some h, rfl⟩
 rintro _ ⟨v108, q109, v110, v111, s112, l113, q114, h, rfl⟩
 replace h := hrR115 _ h
 obtain ⟨R171, h, hlR171, hrR171⟩ := sat_sbind h
 refine kX (fun σ => ∃ (v166 : Int) (q167 : Bool) (q168 : Bool) (l169 : LW) (n170 : Nat), n170 = l169.length ∧ R171 (.inr (v166, q167, q168, l169)) ∧ σ = ⟨[(0, pX 0), (1, pX 1), (3, iD v10), (6, pS 6)], [(.x 0, some (.var [.str s11, ci v166, .bool q167])), (.x 1, some (.var [ci v14, .str s15, .str s16, .osl (.sub (.sub (.x 1) 4711) 3) 0 l63.length, ci v17, ci v18, ci v19, .int .u8 v20, ci v110, ci v111, .str s112, .isl .fld l113, .osl (.sub (.sub (.x 1) 4709) 12) 0 n170, .nils])), (.s 6, some (.var [.bool q1, .bool q2, .bool q62, .bool q4, .bool q5, .bool q6, .bool q114, .bool q168, ci v9])), (.sub (.sub (.x 1) 4711) 3, some (.row false .str l63)), (.sub (.sub (.x 1) 4709) 12, some (.row false .two l169))]⟩) ?_ ?_
 cases q8
 replace h := sat_cf h
 conv => whnf
 exact ⟨v108, q109, false, [], _, LN, sat_some h, rfl⟩
 replace h := sat_ct h
 refine kL [(.x 0)] (h1094_must _ _ _ _ _ _ ?_ (sat_bind h))
 rintro v172 q173 h
 refine kX (fun σ n => ∃ (f195 : Nat) (l196 : LW) (v197 : Int) (q198 : Bool) (n199 : Nat), f195 = n ∧ n199 = l196.length ∧ sat (f1093_rest_L4 fuel s11 f195 l196 v197 q198) R171 ∧ σ.keep [0, 1, 3, 6] [(.x 0), (.x 1), (.s 6), (.sub (.sub (.x 1) 4711) 3), (.sub (.sub (.x 1) 601) 12)] = ⟨[(0, pX 0), (1, pX 1), (3, iD v10), (6, pS 6)], [(.x 0, some (.var [.str s11, ci v197, .bool q198])), (.x 1, some (.var [ci v14, .str s15, .str s16, .osl (.sub (.sub (.x 1) 4711) 3) 0 l63.length, ci v17, ci v18, ci v19, .int .u8 v20, ci v110, ci v111, .str s112, .isl .fld l113, .osl (.sub (.sub (.x 1) 601) 12) 0 n199, .nils])), (.s 6, some (.var [.bool q1, .bool q2, .bool q62, .bool q4, .bool q5, .bool q6, .bool q114, .bool true, ci v9])), (.sub (.sub (.x 1) 4711) 3, some (.row false .str l63)), (.sub (.sub (.x 1) 601) 12, some (.row false .two l196))]⟩) ⟨_, _, [], v172, q173, _, rfl, LN, h, rfl⟩ ?_
 rintro σ n ⟨f195, l196, v197, q198, _, rfl, rfl, h, hσ⟩
 refine kk hσ ?_
 rcases f195 with _ | g194
 rw [f1093_rest_L4] at h; exact nn h
 rw [f1093_rest_L4] at h
 cases q198
 replace h := sat_cf h
 conv => whnf
 exact ⟨v197, false, true, l196, _, LN, sat_some h, rfl⟩
 replace h := sat_ct h
 refine kL [(.x 0)] (h1096_is _ _ _ _ _ _ ?_ (sat_bind h))
 rintro q200 v201 q202 h
 cases q200
 replace h := sat_cf h
 refine kL [(.x 0)] (h1099_value _ _ _ _ _ _ ?_ (sat_bind h))
 rintro k203 n204 s205 f206 v207 q208 h
 refine kL [(.x 0)] (h1099_value _ _ _ _ _ _ ?_ (sat_bind h))
 rintro k209 n210 s211 f212 v213 q214 h
 conv => whnf
 refine ⟨LN, rfl, ?_⟩
 conv => whnf
 refine ⟨rfl, ?_⟩
 refine kp h fun hb215 h => ?_
 conv => whnf
 exact ⟨g194, nls, g194, (l196 ++ ([((V.mk k203 n204 s205 f206), (V.mk k209 n210 s211 f212))] : LW)), v213, q214, _, rfl, LN, h, rfl⟩
 replace h := sat_ct h
 conv => whnf
 exact ⟨v201, q202, true, l196, _, LN, sat_some h, rfl⟩
 rintro _ ⟨v166, q167, q168, l169, _, rfl, h, rfl⟩
 replace h := hrR171 _ h
 refine kc h (fun h => ?_) fun h => ?_
 exact kR [(.sub (.sub (.x 1) 4711) 3), (.sub (.sub (.x 1) 4709) 12), (.sub (.sub (.x 1) 801) 13)] (ND 2) (hQ _ _ _ _ _ _ _ _ _ _ LN _ LN _ LN (sat_some h))
 refine kL [(.x 0)] (h1094_must _ _ _ _ _ _ ?_ (sat_bind h))
 rintro v217 q218 h
 refine kX (fun σ n => ∃ (f324 : Nat) (l325 : List Ln) (v326 : Int) (q327 : Bool) (n328 : Nat), f324 = n ∧ n328 = l325.length ∧ sat (f1093_rest_L5 self1010_lens v10 s11 l63 v110 v111 s112 l113 l169 f324 l325 v326 q327) Q ∧ σ.keep [0, 1, 3] [(.x 0), (.x 1), (.sub (.sub (.x 1) 4711) 3), (.sub (.sub (.x 1) 4709) 12), (.sub (.sub (.x 1) 602) 13)] = ⟨[(0, pX 0), (1, pX 1), (3, iD v10)], [(.x 0, some (.var [.str s11, ci v326, .bool q327])), (.x 1, some (.var [ci v14, .str s15, .str s16, .osl (.sub (.sub (.x 1) 4711) 3) 0 l63.length, ci v17, ci v18, ci v19, .int .u8 v20, ci v110, ci v111, .str s112, .isl .fld l113, .osl (.sub (.sub (.x 1) 4709) 12) 0 l169.length, .osl (.sub (.sub (.x 1) 602) 13) 0 n328])), (.sub (.sub (.x 1) 4711) 3, some (.row false .str l63)), (.sub (.sub (.x 1) 4709) 12, some (.row false .two l169)), (.sub (.sub (.x 1) 602) 13, some (.row false .lens l325))]⟩) ⟨_, _, [], v217, q218, _, rfl, LN, h, rfl⟩ ?_
 rintro σ n ⟨f324, l325, v326, q327, _, rfl, rfl, h, hσ⟩
 refine kk hσ ?_
 rcases f324 with _ | g323
 rw [f1093_rest_L5] at h; exact nn h
 rw [f1093_rest_L5] at h
 cases q327
 replace h := sat_cf h
 exact kR [(.sub (.sub (.x 1) 4711) 3), (.sub (.sub (.x 1) 4709) 12), (.sub (.sub (.x 1) 801) 13)] (ND 2) (hQ _ _ _ _ _ _ _ _ _ _ LN _ LN _ LN (sat_some h))
 replace h := sat_ct h
 refine kL [(.x 0)] (h1096_is _ _ _ _ _ _ ?_ (sat_bind h))
 rintro q329 v330 q331 h
 cases q329
 replace h := sat_cf h
 intro hl332
 conv => whnf
 refine ⟨?_, ?_⟩
 refine kL [(.x 0)] (h1010_lens _ _ _ _ _ _ ?_ (sat_bind h))
 rintro op333 nm334 to335 ns336 n337 lo338 hi339 sep340 k341 n342 s343 f344 prs345 ks346 v347 q348 h
 conv => whnf
 refine ⟨LN, rfl, ?_⟩
 conv => whnf
 refine ⟨rfl, ?_⟩
 refine kp h fun hb380 h => ?_
 refine kp h fun hb349 h => ?_
 conv => whnf
 refine ⟨?_, ?_⟩
 refine kg (sat_getN h) fun uu364 huu364 h => ?_
 obtain ⟨op350, nm351, to352, ns353, n354, lo355, hi356, sep357, ⟨k358, n359, s360, f361⟩, prs362, ks363⟩ := uu364
 refine ⟨(Ln.mk op333 nm334 to335 ns336 n337 lo338 hi339 sep340 (V.mk k341 n342 s343 f344) prs345 ks346), rfl, ?_⟩
 conv => whnf
 exact ⟨g323, nls, g323, ((l325 ++ ([(Ln.mk 0 (⟨#[]⟩ : BA) (⟨#[]⟩ : BA) [] 0 0 0 0 (V.mk 0 0 (⟨#[]⟩ : BA) []) [] [])] : List Ln)).set (0 + ((l325.length : Nat) : Int).toNat) (Ln.mk op333 nm334 to335 ns336 n337 lo338 hi339 sep340 (V.mk k341 n342 s343 f344) prs345 ks346)), v347, q348, _, rfl, LN, h, rfl⟩
 refine kg (sat_getN h) fun uu379 huu379 h => ?_
 obtain ⟨op365, nm366, to367, ns368, n369, lo370, hi371, sep372, ⟨k373, n374, s375, f376⟩, prs377, ks378⟩ := uu379
 refine ⟨(Ln.mk op333 nm334 to335 ns336 n337 lo338 hi339 sep340 (V.mk k341 n342 s343 f344) prs345 ks346), rfl, ?_⟩
 conv => whnf
 exact ⟨g323, nls, g323, ((l325 ++ ([(Ln.mk 0 (⟨#[]⟩ : BA) (⟨#[]⟩ : BA) [] 0 0 0 0 (V.mk 0 0 (⟨#[]⟩ : BA) []) [] [])] : List Ln)).set (0 + ((l325.length : Nat) : Int).toNat) (Ln.mk op333 nm334 to335 ns336 n337 lo338 hi339 sep340 (V.mk k341 n342 s343 f344) prs345 ks346)), v347, q348, _, rfl, LN, h, rfl⟩
 refine kL [(.x 0)] (h1010_lens _ _ _ _ _ _ ?_ (sat_bind h))
 rintro op381 nm382 to383 ns384 n385 lo386 hi387 sep388 k389 n390 s391 f392 prs393 ks394 v395 q396 h
 conv => whnf
 refine ⟨LN, rfl, ?_⟩
 conv => whnf
 refine ⟨rfl, ?_⟩
 refine kp h fun hb428 h => ?_
 refine kp h fun hb397 h => ?_
 conv => whnf
 refine ⟨?_, ?_⟩
 refine kg (sat_getN h) fun uu412 huu412 h => ?_
 obtain ⟨op398, nm399, to400, ns401, n402, lo403, hi404, sep405, ⟨k406, n407, s408, f409⟩, prs410, ks411⟩ := uu412
 refine ⟨(Ln.mk op381 nm382 to383 ns384 n385 lo386 hi387 sep388 (V.mk k389 n390 s391 f392) prs393 ks394), rfl, ?_⟩
 conv => whnf
 exact ⟨g323, nls, g323, ((l325 ++ ([(Ln.mk 0 (⟨#[]⟩ : BA) (⟨#[]⟩ : BA) [] 0 0 0 0 (V.mk 0 0 (⟨#[]⟩ : BA) []) [] [])] : List Ln)).set (0 + ((l325.length : Nat) : Int).toNat) (Ln.mk op381 nm382 to383 ns384 n385 lo386 hi387 sep388 (V.mk k389 n390 s391 f392) prs393 ks394)), v395, q396, _, rfl, LN, h, rfl⟩
 refine kg (sat_getN h) fun uu427 huu427 h => ?_
 obtain ⟨op413, nm414, to415, ns416, n417, lo418, hi419, sep420, ⟨k421, n422, s423, f424⟩, prs425, ks426⟩ := uu427
 refine ⟨(Ln.mk op381 nm382 to383 ns384 n385 lo386 hi387 sep388 (V.mk k389 n390 s391 f392) prs393 ks394), rfl, ?_⟩
 conv => whnf
 exact ⟨g323, nls, g323, ((l325 ++ ([(Ln.mk 0 (⟨#[]⟩ : BA) (⟨#[]⟩ : BA) [] 0 0 0 0 (V.mk 0 0 (⟨#[]⟩ : BA) []) [] [])] : List Ln)).set (0 + ((l325.length : Nat) : Int).toNat) (Ln.mk op381 nm382 to383 ns384 n385 lo386 hi387 sep388 (V.mk k389 n390 s391 f392) prs393 ks394)), v395, q396, _, rfl, LN, h, rfl⟩
 replace h := sat_ct h
 exact kR [(.sub (.sub (.x 1) 4711) 3), (.sub (.sub (.x 1) 4709) 12), (.sub (.sub (.x 1) 801) 13)] (ND 2) (hQ _ _ _ _ _ _ _ _ _ _ LN _ LN _ LN (sat_some h))
theorem cg1010_lens {P : Program} {fid : Nat → FuncId} (mx : MX P) (k1010_lens : KF P fid 1010 j1010_lens) (k1093_rest : KF P fid 1093 j1093_rest) (h144_table : C144_table (SP P fid) f144_table) (h1089_any : C1089_any (SP P fid) f1089_any) (h1091_number : C1091_number (SP P fid) f1091_number) (h1012d_take : C1012d_take (SP P fid) f1012d_take) (h1094_must : C1094_must (SP P fid) f1094_must) (h1096_is : C1096_is (SP P fid) f1096_is) (h1097_quoted : ∀ n, C1097_quoted (SP P fid) (f1097_quoted n)) (h1099_value : ∀ n, C1099_value (SP P fid) (f1099_value n)) : ∀ n, C1010_lens (SP P fid) (f1010_lens n) ∧ C1093_rest (SP P fid) (f1093_rest n) := by
 intro n
 induction n with
 | zero => exact ⟨fun a0 a1 a2 a3 Q R hQ h => (sat_none h).elim, fun a0 a1 a2 a3 a4 a5 a6 a7 a8 a9 a10 a11 a12 a13 a14 a15 a16 a17 a18 a19 a20 a21 a22 Q R hQ h => (sat_none h).elim⟩
 | succ n ih =>
  obtain ⟨ih0, ih1⟩ := ih
  exact ⟨fun a0 a1 a2 a3 Q R hQ h => spec_of_vc mx k1010_lens (w1010_lens (f1093_rest n) h144_table h1089_any h1091_number h1012d_take ih1 a0 a1 a2 a3 Q R hQ h), fun a0 a1 a2 a3 a4 a5 a6 a7 a8 a9 a10 a11 a12 a13 a14 a15 a16 a17 a18 a19 a20 a21 a22 Q R hQ h => spec_of_vc mx k1093_rest (w1093_rest n (f1010_lens n) ih0 h1089_any h1094_must h1096_is (h1097_quoted n) (h1099_value n) a0 a1 a2 a3 a4 a5 a6 a7 a8 a9 a10 a11 a12 a13 a14 a15 a16 a17 a18 a19 a20 a21 a22 Q R hQ h)⟩
theorem c1010_lens {P : Program} {fid : Nat → FuncId} (mx : MX P) (k1010_lens : KF P fid 1010 j1010_lens) (k1093_rest : KF P fid 1093 j1093_rest) (h144_table : C144_table (SP P fid) f144_table) (h1089_any : C1089_any (SP P fid) f1089_any) (h1091_number : C1091_number (SP P fid) f1091_number) (h1012d_take : C1012d_take (SP P fid) f1012d_take) (h1094_must : C1094_must (SP P fid) f1094_must) (h1096_is : C1096_is (SP P fid) f1096_is) (h1097_quoted : ∀ n, C1097_quoted (SP P fid) (f1097_quoted n)) (h1099_value : ∀ n, C1099_value (SP P fid) (f1099_value n)) : ∀ n, C1010_lens (SP P fid) (f1010_lens n) := fun n => (cg1010_lens mx k1010_lens k1093_rest h144_table h1089_any h1091_number h1012d_take h1094_must h1096_is h1097_quoted h1099_value n).1
def f1009_Read (fuel : Nat) : BA → Option (Ln × Int × Int)
 | s1 => cond (decide ((s1.size : Int) > 4000)) (some ((Ln.mk 0 (⟨#[]⟩ : BA) (⟨#[]⟩ : BA) [] 0 0 0 0 (V.mk 0 0 (⟨#[]⟩ : BA) []) [] []), 0, 2)) ((f1010_lens fuel (0 : Int) s1 (0 : Int) true).bind fun ((.mk op3 nm4 to5 ns6 n7 lo8 hi9 sep10 (.mk k11 n12 s13 f14) prs15 ks16), v17, q18) => sbind (ο := Bool) (cond q18 (cond (decide (v17 ≤ (s1.size : Int))) (some (.inr false)) (some (.inr true))) (some (.inr false))) (fun q20 => cond q20 ((f70_Check fuel (Ln.mk op3 nm4 to5 ns6 n7 lo8 hi9 sep10 (V.mk k11 n12 s13 f14) prs15 ks16)).bind fun v23 => cond (v23 != 0) (some ((Ln.mk 0 (⟨#[]⟩ : BA) (⟨#[]⟩ : BA) [] 0 0 0 0 (V.mk 0 0 (⟨#[]⟩ : BA) []) [] []), 0, v23)) (some ((Ln.mk op3 nm4 to5 ns6 n7 lo8 hi9 sep10 (V.mk k11 n12 s13 f14) prs15 ks16), 0, 0))) (some ((Ln.mk 0 (⟨#[]⟩ : BA) (⟨#[]⟩ : BA) [] 0 0 0 0 (V.mk 0 0 (⟨#[]⟩ : BA) []) [] []), (if (s1.size : Int) < v17 then (s1.size : Int) else v17), 14))))
def C1009_Read (O : Oracle TT) (m : BA → Option (Ln × Int × Int)) : Prop :=
 ∀ (s1 : BA) (Q : (Ln × Int × Int) → Prop) (R : RR) (_ : ∀ (op25 : Int) (nm26 : BA) (to27 : BA) (ns28 : LB) (n29 : Int) (lo30 : Int) (hi31 : Int) (sep32 : Int) (k33 : Int) (n34 : Int) (s35 : BA) (f36 : FV) (prs37 : LW) (ks38 : List Ln) (v39 : Int) (v40 : Int), Q ((Ln.mk op25 nm26 to27 ns28 n29 lo30 hi31 sep32 (V.mk k33 n34 s35 f36) prs37 ks38), v39, v40) → R (.tup [.agg [ci op25, .str nm26, .str to27, .isl .str ns28, ci n29, ci lo30, ci hi31, .int .u8 sep32, ci k33, ci n34, .str s35, .isl .fld f36, .isl .two prs37, .isl .lens ks38], iD v39, iD v40]) []) (_ : sat (m s1) Q), O 1009 [sD s1] [] R
def j1009_Read : Fn TT := ⟨53, [.cell 2 14 true, .t 3, .t 4], (.seq (.reg [qo 2 (.alloc 2 zLn),qo 3 (.mv (iC 0)),qo 4 (.mv (iC 0))]) (.seq (.seq (.reg [qo 8 (.mv 0),qo 9 (.len true 8),qo 10 (.bin .gtr .num 9 (iC 4000))]) (.cond 10 (.seq (.reg [qo 11 (.build zLn []),qp (.store 2 11 14),qo 3 (.mv (iC 0)),qo 4 (.mv (iC 2))]) .ret) .skip)) (.seq (.reg [qo 12 (.mv 0),
 qo 13 (.build [.str eB, .int .i64 0, .bool false] [((0, 1), 12), ((2, 1), bT)]),qo 14 (.box 14 13),qo 5 (.mv 14)]) (.seq (.reg [qo 15 (.mv 5),qo 16 (.call 16 1010 [15, (iC 0)]),qo 6 (.alloc 6 zLn),qp (.store 6 16 14)]) (.cut [0, 2, 5, 6] [(.s 2), (.s 14), (.s 6)] (.seq (.reg [qo 17 (.mv 5),qo 18 (.nilck 17),qo 19 (.fa 18 2),qo 20 (.load 19 1 false),qo 21 (.mv 20),qg 21 22 (.mv 5),
 qg 21 23 (.nilck 22),qg 21 24 (.fa 23 1),qg 21 25 (.load 24 1 false),qg 21 26 (.mv 0),qg 21 27 (.len true 26),qg 21 28 (.bin .leq .num 25 27),qo 29 (.pick 21 28 bF)]) (.cond 29 (.reg [qo 30 (.mv 5),qo 31 (.nilck 30),qo 32 (.fa 31 2),qp (.store 32 bF 1)]) .skip)) (.seq (.seq (.reg [qo 33 (.mv 5),qo 34 (.nilck 33),qo 35 (.fa 34 2),qo 36 (.load 35 1 false),qo 37 (.un .not 36)]) (.cond 37
 (.seq (.drw [(.s 2)] (oR 11) [] [0, 1, 2, 3, 4, 5, 6, 7, 9, 10] [qo 38 (.build zLn []),qo 39 (.mv 5),qo 40 (.nilck 39),qo 41 (.fa 40 1),qo 42 (.load 41 1 false),qo 43 (.mv 0),qo 44 (.len true 43),qo 45 (.mn [42, 44]),qp (.store 2 38 14),qo 3 (.mv 45),qo 4 (.mv (iC 14))]) .ret) .skip)) (.seq (.seq (.reg [qo 46 (.load 6 14 true),qo 47 (.call 47 70 [46]),qo 7 (.mv 47)]) (.seq
 (.reg [qo 48 (.mv 7),qo 49 (.bin .neq .num 48 (iC 0))]) (.cond 49 (.seq (.reg [qo 50 (.build zLn []),qo 51 (.mv 7),qp (.store 2 50 14),qo 3 (.mv (iC 0)),qo 4 (.mv 51)]) .ret) .skip))) (.seq (.reg [qo 52 (.load 6 14 true),qp (.store 2 52 14),qo 3 (.mv (iC 0)),qo 4 (.mv (iC 0))]) .ret))))))))⟩
theorem w1009_Read {O : Oracle TT} (fuel : Nat) (h70_Check : C70_Check O (f70_Check fuel)) (h1010_lens : C1010_lens O (f1010_lens fuel)) : C1009_Read (fun _ => vcF (S := SS) O j1009_Read) (f1009_Read fuel) := by
 intro s1 Q R hQ h
 unfold f1009_Read at h
 refine ⟨nle rfl, rfl, ?_⟩
 refine kc h (fun h => ?_) fun h => ?_
 refine kL [(.s 14)] (h1010_lens _ _ _ _ _ _ ?_ (sat_bind h))
 rintro op3 nm4 to5 ns6 n7 lo8 hi9 sep10 k11 n12 s13 f14 prs15 ks16 v17 q18 h
 obtain ⟨R21, h, hlR21, hrR21⟩ := sat_sbind h
 refine kX (fun σ => ∃ (q20 : Bool), R21 (.inr q20) ∧ σ = ⟨[(0, sD s1), (2, pS 2), (5, pS 14), (6, pS 6)], [(.s 2, some (.var [ci 0, .str (⟨#[]⟩ : BA), .str (⟨#[]⟩ : BA), .isl .str [], ci 0, ci 0, ci 0, .int .u8 0, ci 0, ci 0, .str (⟨#[]⟩ : BA), .isl .fld [], .isl .two [], .isl .lens []])), (.s 14, some (.var [.str s1, ci v17, .bool q20])), (.s 6, some (.var [ci op3, .str nm4, .str to5, .isl .str ns6, ci n7, ci lo8, ci hi9, .int .u8 sep10, ci k11, ci n12, .str s13, .isl .fld f14, .isl .two prs15, .isl .lens ks16]))]⟩) ?_ ?_
 cases q18
 replace h := sat_cf h
 conv => whnf
 exact ⟨false, sat_some h, rfl⟩
 replace h := sat_ct h
 refine kc h (fun h => ?_) fun h => ?_
 conv => whnf
 exact ⟨true, sat_some h, rfl⟩
 conv => whnf
 exact ⟨false, sat_some h, rfl⟩
 rintro _ ⟨q20, h, rfl⟩
 replace h := hrR21 _ h
 cases q20
 replace h := sat_cf h
 exact kR [] (ND 0) (hQ _ _ _ _ _ _ _ _ _ _ _ _ _ _ _ _ (sat_some h))
 replace h := sat_ct h
 refine kL [] (h70_Check _ _ _ _ _ _ _ _ _ _ _ _ _ _ _ _ ?_ (sat_bind h))
 rintro v23 h
 refine kc h (fun h => ?_) fun h => ?_
 exact kR [] (ND 0) (hQ _ _ _ _ _ _ _ _ _ _ _ _ _ _ _ _ (sat_some h))
 exact kR [] (ND 0) (hQ _ _ _ _ _ _ _ _ _ _ _ _ _ _ _ _ (sat_some h))
 exact kR [] (ND 0) (hQ _ _ _ _ _ _ _ _ _ _ _ _ _ _ _ _ (sat_some h))
theorem c1009_Read {P : Program} {fid : Nat → FuncId} (mx : MX P) (k1009_Read : KF P fid 1009 j1009_Read) (h70_Check : ∀ n, C70_Check (SP P fid) (f70_Check n)) (h1010_lens : ∀ n, C1010_lens (SP P fid) (f1010_lens n)) : ∀ n, C1009_Read (SP P fid) (f1009_Read n) :=
 fun n => fun a0 Q R hQ h => spec_of_vc mx k1009_Read (w1009_Read n (h70_Check n) (h1010_lens n) a0 Q R hQ h)
end Go.Clap
