/- The checks of the small code against the loaded functions. -/
import Derived.Test.YtnjgakngmbbmfaaGreatDoorClapG0
set_option linter.unusedVariables false
set_option linter.unusedSimpArgs false
set_option maxHeartbeats 4000000
set_option maxRecDepth 100000
namespace Go.Clap
open Go.IntKind (wrap)
end Go.Clap

set_option linter.unusedVariables false
set_option linter.unusedSimpArgs false
set_option maxHeartbeats 4000000
set_option maxRecDepth 100000
namespace Go.Clap
open Go.IntKind (wrap)
def f156b_more : BA → Int → Bool → Int → Int → Int → Int → Int → Int → Int → Int → Bool → L4 → L4 → Option (Bool × L4 × L4 × Bool)
 | s1, v2, q3, v4, v5, v6, v7, v8, v9, v10, v11, q12, r13, r14 => cond q12 (some (false, r13, r14, true)) (cond (decide (v2 < (s1.size : Int))) (some (true, r13, r14, false)) (some (false, r13, r14, false)))
def C156b_more (O : Oracle TT) (m : BA → Int → Bool → Int → Int → Int → Int → Int → Int → Int → Int → Bool → L4 → L4 → Option (Bool × L4 × L4 × Bool)) : Prop :=
 ∀ (s1 : BA) (v2 : Int) (q3 : Bool) (v4 : Int) (v5 : Int) (v6 : Int) (v7 : Int) (v8 : Int) (v9 : Int) (v10 : Int) (v11 : Int) (q12 : Bool) (r13 : L4) (r14 : L4) (n0 : Nat) (en0 : n0 = r13.length) (n1 : Nat) (en1 : n1 = r14.length) (Q : (Bool × L4 × L4 × Bool) → Prop) (R : RR) (_ : ∀ (q16 : Bool) (l17 : L4) (l18 : L4) (q19 : Bool) (n0r : Nat) (_ : n0r = l17.length) (n1r : Nat) (_ : n1r = l18.length) (_ : l17.length = r13.length) (_ : l18.length = r14.length), Q (q16, l17, l18, q19) → R (bD q16) [(.x 0, some (.var [.str s1, ci v2, .osl (.x 1) 0 n0r, .osl (.x 2) 0 n1r, .bool q3, .int .u64 v4, .int .u64 v5, .int .u64 v6, .int .u64 v7, .int .u64 v8, .int .u64 v9, .int .u64 v10, .int .u64 v11, .bool q19])), (.x 1, some (.row false .set4 l17)), (.x 2, some (.row false .set4 l18))]) (_ : sat (m s1 v2 q3 v4 v5 v6 v7 v8 v9 v10 v11 q12 r13 r14) Q), O 156 [pX 0] [(.x 0, some (.var [.str s1, ci v2, .osl (.x 1) 0 n0, .osl (.x 2) 0 n1, .bool q3, .int .u64 v4, .int .u64 v5, .int .u64 v6, .int .u64 v7, .int .u64 v8, .int .u64 v9, .int .u64 v10, .int .u64 v11, .bool q12])), (.x 1, some (.row false .set4 r13)), (.x 2, some (.row false .set4 r14))] R
def j156b_more : Fn TT := ⟨20, [.t 2], (.seq (.reg [qo 2 (.mv bF)]) (.seq (.drw [] (oR 18) [] (List.range 18) [qo 3 (.mv 0),qo 4 (.nilck 3),qo 5 (.fa 4 13),qo 6 (.load 5 1 false),qo 7 (.un .not 6),qo 8 (.mv 7),qg 8 9 (.mv 0),qg 8 10 (.nilck 9),qg 8 11 (.fa 10 1),qg 8 12 (.load 11 1 false),qg 8 13 (.mv 0),qg 8 14 (.nilck 13),qg 8 15 (.fa 14 0),qg 8 16 (.load 15 1 false),
 qg 8 17 (.len true 16),qg 8 18 (.bin .lss .num 12 17),qo 19 (.pick 8 18 bF),qo 2 (.mv 19)]) .ret))⟩
theorem w156b_more {O : Oracle TT} : C156b_more (fun _ => vcF (S := SS) O j156b_more) f156b_more := by
 intro s1 v2 q3 v4 v5 v6 v7 v8 v9 v10 v11 q12 r13 r14 n0 en0 n1 en1 Q R hQ h
 subst en0
 subst en1
 unfold f156b_more at h
 refine ⟨nle rfl, rfl, ?_⟩
 cases q12
 replace h := sat_cf h
 refine kc h (fun h => ?_) fun h => ?_
 exact kR [] (ND 3) (hQ _ _ _ _ _ LN _ LN LN LN (sat_some h))
 exact kR [] (ND 3) (hQ _ _ _ _ _ LN _ LN LN LN (sat_some h))
 replace h := sat_ct h
 exact kR [] (ND 3) (hQ _ _ _ _ _ LN _ LN LN LN (sat_some h))
theorem c156b_more {P : Program} {fid : Nat → FuncId} (mx : MX P) (k156b_more : KF P fid 156 j156b_more) : C156b_more (SP P fid) f156b_more :=
 fun a0 a1 a2 a3 a4 a5 a6 a7 a8 a9 a10 a11 a12 a13 n0 e0 n1 e1 Q R hQ h => spec_of_vc mx k156b_more (w156b_more a0 a1 a2 a3 a4 a5 a6 a7 a8 a9 a10 a11 a12 a13 n0 e0 n1 e1 Q R hQ h)
def f157b_peek : BA → Int → Bool → Int → Int → Int → Int → Int → Int → Int → Int → Bool → L4 → L4 → Option (Int × L4 × L4)
 | s1, v2, q3, v4, v5, v6, v7, v8, v9, v10, v11, q12, r13, r14 => cond (decide (v2 ≥ (s1.size : Int))) (some (0, r13, r14)) (getB s1 v2 fun c16 => some ((c16.toNat : Int), r13, r14))
def C157b_peek (O : Oracle TT) (m : BA → Int → Bool → Int → Int → Int → Int → Int → Int → Int → Int → Bool → L4 → L4 → Option (Int × L4 × L4)) : Prop :=
 ∀ (s1 : BA) (v2 : Int) (q3 : Bool) (v4 : Int) (v5 : Int) (v6 : Int) (v7 : Int) (v8 : Int) (v9 : Int) (v10 : Int) (v11 : Int) (q12 : Bool) (r13 : L4) (r14 : L4) (n0 : Nat) (en0 : n0 = r13.length) (n1 : Nat) (en1 : n1 = r14.length) (Q : (Int × L4 × L4) → Prop) (R : RR) (_ : ∀ (v17 : Int) (l18 : L4) (l19 : L4) (n0r : Nat) (_ : n0r = l18.length) (n1r : Nat) (_ : n1r = l19.length) (_ : l18.length = r13.length) (_ : l19.length = r14.length), Q (v17, l18, l19) → R (.c (.int .u8 v17)) [(.x 0, some (.var [.str s1, ci v2, .osl (.x 1) 0 n0r, .osl (.x 2) 0 n1r, .bool q3, .int .u64 v4, .int .u64 v5, .int .u64 v6, .int .u64 v7, .int .u64 v8, .int .u64 v9, .int .u64 v10, .int .u64 v11, .bool q12])), (.x 1, some (.row false .set4 l18)), (.x 2, some (.row false .set4 l19))]) (_ : sat (m s1 v2 q3 v4 v5 v6 v7 v8 v9 v10 v11 q12 r13 r14) Q), O 157 [pX 0] [(.x 0, some (.var [.str s1, ci v2, .osl (.x 1) 0 n0, .osl (.x 2) 0 n1, .bool q3, .int .u64 v4, .int .u64 v5, .int .u64 v6, .int .u64 v7, .int .u64 v8, .int .u64 v9, .int .u64 v10, .int .u64 v11, .bool q12])), (.x 1, some (.row false .set4 r13)), (.x 2, some (.row false .set4 r14))] R
def j157b_peek : Fn TT := ⟨22, [.t 2], (.seq (.reg [qo 2 (.mv (.c (.int .u8 0)))]) (.seq (.seq (.drw [] (oR 10) [] (List.range 10) [qo 3 (.mv 0),qo 4 (.nilck 3),qo 5 (.fa 4 1),qo 6 (.load 5 1 false),qo 7 (.mv 0),qo 8 (.nilck 7),qo 9 (.fa 8 0),qo 10 (.load 9 1 false),qo 11 (.len true 10),qo 12 (.bin .geq .num 6 11)]) (.cond 12 (.seq (.reg [qo 2 (.mv (.c (.int .u8 0)))]) .ret) .skip)) (.seq
 (.drw [] (oR 10) [] (List.range 10) [qo 13 (.mv 0),qo 14 (.nilck 13),qo 15 (.fa 14 0),qo 16 (.load 15 1 false),qo 17 (.mv 0),qo 18 (.nilck 17),qo 19 (.fa 18 1),qo 20 (.load 19 1 false),qo 21 (.idxS 16 20),qo 2 (.mv 21)]) .ret)))⟩
theorem w157b_peek {O : Oracle TT} : C157b_peek (fun _ => vcF (S := SS) O j157b_peek) f157b_peek := by
 intro s1 v2 q3 v4 v5 v6 v7 v8 v9 v10 v11 q12 r13 r14 n0 en0 n1 en1 Q R hQ h
 subst en0
 subst en1
 unfold f157b_peek at h
 refine ⟨nle rfl, rfl, ?_⟩
 refine kc h (fun h => ?_) fun h => ?_
 refine kg (sat_getB h) fun c16 hc16 h => ?_
 exact kR [] (ND 3) (hQ _ _ _ _ LN _ LN LN LN (sat_some h))
 exact kR [] (ND 3) (hQ _ _ _ _ LN _ LN LN LN (sat_some h))
theorem c157b_peek {P : Program} {fid : Nat → FuncId} (mx : MX P) (k157b_peek : KF P fid 157 j157b_peek) : C157b_peek (SP P fid) f157b_peek :=
 fun a0 a1 a2 a3 a4 a5 a6 a7 a8 a9 a10 a11 a12 a13 n0 e0 n1 e1 Q R hQ h => spec_of_vc mx k157b_peek (w157b_peek a0 a1 a2 a3 a4 a5 a6 a7 a8 a9 a10 a11 a12 a13 n0 e0 n1 e1 Q R hQ h)
def f114_IndexByte : BA → Int → Option (Int)
 | s1, v2 => some (firstIdx s1 (v2).toNat.toUInt8)
def C114_IndexByte (O : Oracle TT) (m : BA → Int → Option (Int)) : Prop :=
 ∀ (s1 : BA) (v2 : Int) (Q : Int → Prop) (R : RR) (_ : ∀ (v3 : Int), Q v3 → R (iD v3) []) (_ : sat (m s1 v2) Q), O 114 [sD s1, .c (.int .u8 v2)] [] R
def j114_IndexByte : Fn TT := ⟨8, [.t 4], (.seq (.reg [qo 4 (.mv (iC 0))]) (.seq (.reg [qo 5 (.mv 0),qo 6 (.mv 1),qo 7 (.xidx 5 6),qo 4 (.mv 7)]) .ret))⟩
theorem w114_IndexByte {O : Oracle TT} : C114_IndexByte (fun _ => vcF (S := SS) O j114_IndexByte) f114_IndexByte := by
 intro s1 v2 Q R hQ h
 unfold f114_IndexByte at h
 refine ⟨nle rfl, rfl, ?_⟩
 exact kR [] (ND 0) (hQ _ (sat_some h))
theorem c114_IndexByte {P : Program} {fid : Nat → FuncId} (mx : MX P) (k114_IndexByte : KF P fid 114 j114_IndexByte) : C114_IndexByte (SP P fid) f114_IndexByte :=
 fun a0 a1 Q R hQ h => spec_of_vc mx k114_IndexByte (w114_IndexByte a0 a1 Q R hQ h)
def f91_IndexByte : BA → Int → Option (Int)
 | s1, v2 => (f114_IndexByte s1 v2).bind fun v3 => some v3
def C91_IndexByte (O : Oracle TT) (m : BA → Int → Option (Int)) : Prop :=
 ∀ (s1 : BA) (v2 : Int) (Q : Int → Prop) (R : RR) (_ : ∀ (v4 : Int), Q v4 → R (iD v4) []) (_ : sat (m s1 v2) Q), O 91 [sD s1, .c (.int .u8 v2)] [] R
def j91_IndexByte : Fn TT := ⟨8, [.t 4], (.seq (.reg [qo 4 (.mv (iC 0))]) (.seq (.reg [qo 5 (.mv 0),qo 6 (.mv 1),qo 7 (.call 7 114 [5, 6]),qo 4 (.mv 7)]) .ret))⟩
theorem w91_IndexByte {O : Oracle TT} (h114_IndexByte : C114_IndexByte O f114_IndexByte) : C91_IndexByte (fun _ => vcF (S := SS) O j91_IndexByte) f91_IndexByte := by
 intro s1 v2 Q R hQ h
 unfold f91_IndexByte at h
 refine ⟨nle rfl, rfl, ?_⟩
 refine kL [] (h114_IndexByte _ _ _ _ ?_ (sat_bind h))
 rintro v3 h
 exact kR [] (ND 0) (hQ _ (sat_some h))
theorem c91_IndexByte {P : Program} {fid : Nat → FuncId} (mx : MX P) (k91_IndexByte : KF P fid 91 j91_IndexByte) (h114_IndexByte : C114_IndexByte (SP P fid) f114_IndexByte) : C91_IndexByte (SP P fid) f91_IndexByte :=
 fun a0 a1 Q R hQ h => spec_of_vc mx k91_IndexByte (w91_IndexByte h114_IndexByte a0 a1 Q R hQ h)
def f178_add : Int → Int → Int → Int → Int → Option N4
 | v1, v2, v3, v4, v5 => caseI (wrap .u8 (Int.tdiv v1 64)) [grdP (0 ≤ (Int.tmod v1 64)) (some ((bOr .u64 v2 (bShl .u64 1 (Int.tmod v1 64))), v3, v4, v5)), grdP (0 ≤ (Int.tmod v1 64)) (some (v2, (bOr .u64 v3 (bShl .u64 1 (Int.tmod v1 64))), v4, v5)), grdP (0 ≤ (Int.tmod v1 64)) (some (v2, v3, (bOr .u64 v4 (bShl .u64 1 (Int.tmod v1 64))), v5)), grdP (0 ≤ (Int.tmod v1 64)) (some (v2, v3, v4, (bOr .u64 v5 (bShl .u64 1 (Int.tmod v1 64)))))]
def C178_add (O : Oracle TT) (m : Int → Int → Int → Int → Int → Option N4) : Prop :=
 ∀ (v1 : Int) (v2 : Int) (v3 : Int) (v4 : Int) (v5 : Int) (Q : N4 → Prop) (R : RR) (_ : ∀ (v15 : Int) (v16 : Int) (v17 : Int) (v18 : Int), Q (v15, v16, v17, v18) → R (.tup []) [(.x 0, some (.var [.int .u64 v15, .int .u64 v16, .int .u64 v17, .int .u64 v18]))]) (_ : sat (m v1 v2 v3 v4 v5) Q), O 178 [pX 0, .c (.int .u8 v1)] [(.x 0, some (.var [.int .u64 v2, .int .u64 v3, .int .u64 v4, .int .u64 v5]))] R
def j178_add : Fn TT := ⟨16, [], (.drw [] (oR 13) [12] (List.range 12) [qo 4 (.mv 0),qo 5 (.mv 1),qo 6 (.bin .quo .num 5 (.c (.int .u8 64))),qo 7 (.nilck 4),qo 8 (.idxC 7 6 1 4),qo 9 (.load 8 1 false),qo 10 (.mv 1),qo 11 (.bin .rem .num 10 (.c (.int .u8 64))),qo 12 (.bin .shl .num (.c (.int .u64 1)) 11),qo 13 (.bin .or .num 9 12),qo 14 (.nilck 4),qo 15 (.idxC 14 6 1 4),
 qp (.store 15 13 1)])⟩
theorem w178_add {O : Oracle TT} : C178_add (fun _ => vcF (S := SS) O j178_add) f178_add := by
 intro v1 v2 v3 v4 v5 Q R hQ h
 unfold f178_add at h
 refine ⟨nle rfl, rfl, ?_⟩
 conv => whnf
 refine ⟨by decide, ?_⟩
 conv => whnf
 obtain ⟨hbj6, h⟩ := sat_caseI h
 refine ⟨hbj6, fun j6 hj6 => ?_⟩
 replace h := h j6 hj6
 replace hbj6 : (0 : Int) ≤ (wrap .u8 (Int.tdiv v1 64)) ∧ (wrap .u8 (Int.tdiv v1 64)) < 4 := hbj6
 have hcj6 : j6 = 0 ∨ j6 = 1 ∨ j6 = 2 ∨ j6 = 3 := by omega
 rcases hcj6 with rfl | rfl | rfl | rfl
 replace h := sat_j0 h
 conv => whnf
 refine ⟨by decide, ?_⟩
 refine kp h fun hb8 h => ?_
 conv => whnf
 refine ⟨⟨by omega, by omega⟩, fun j7 hj7 => ?_⟩
 obtain rfl : j7 = 0 := by omega
 exact kR [] (ND 1) (hQ _ _ _ _ (sat_some h))
 replace h := sat_j1 h
 conv => whnf
 refine ⟨by decide, ?_⟩
 refine kp h fun hb10 h => ?_
 conv => whnf
 refine ⟨⟨by omega, by omega⟩, fun j9 hj9 => ?_⟩
 obtain rfl : j9 = 1 := by omega
 exact kR [] (ND 1) (hQ _ _ _ _ (sat_some h))
 replace h := sat_j2 h
 conv => whnf
 refine ⟨by decide, ?_⟩
 refine kp h fun hb12 h => ?_
 conv => whnf
 refine ⟨⟨by omega, by omega⟩, fun j11 hj11 => ?_⟩
 obtain rfl : j11 = 2 := by omega
 exact kR [] (ND 1) (hQ _ _ _ _ (sat_some h))
 replace h := sat_j3 h
 conv => whnf
 refine ⟨by decide, ?_⟩
 refine kp h fun hb14 h => ?_
 conv => whnf
 refine ⟨⟨by omega, by omega⟩, fun j13 hj13 => ?_⟩
 obtain rfl : j13 = 3 := by omega
 exact kR [] (ND 1) (hQ _ _ _ _ (sat_some h))
theorem c178_add {P : Program} {fid : Nat → FuncId} (mx : MX P) (k178_add : KF P fid 178 j178_add) : C178_add (SP P fid) f178_add :=
 fun a0 a1 a2 a3 a4 Q R hQ h => spec_of_vc mx k178_add (w178_add a0 a1 a2 a3 a4 Q R hQ h)
def f110_add : Int → Bool → Int → Int → Int → Int → Int → Int → Int → Int → Option N4
 | v1, q2, v3, v4, v5, v6, v7, v8, v9, v10 => caseI (wrap .i64 (Int.tdiv v1 64)) [grdP (0 ≤ (Int.tmod v1 64)) (some ((bOr .u64 v3 (bShl .u64 1 (Int.tmod v1 64))), v4, v5, v6)), grdP (0 ≤ (Int.tmod v1 64)) (some (v3, (bOr .u64 v4 (bShl .u64 1 (Int.tmod v1 64))), v5, v6)), grdP (0 ≤ (Int.tmod v1 64)) (some (v3, v4, (bOr .u64 v5 (bShl .u64 1 (Int.tmod v1 64))), v6)), grdP (0 ≤ (Int.tmod v1 64)) (some (v3, v4, v5, (bOr .u64 v6 (bShl .u64 1 (Int.tmod v1 64)))))]
def C110_add (O : Oracle TT) (m : Int → Bool → Int → Int → Int → Int → Int → Int → Int → Int → Option N4) : Prop :=
 ∀ (v1 : Int) (q2 : Bool) (v3 : Int) (v4 : Int) (v5 : Int) (v6 : Int) (v7 : Int) (v8 : Int) (v9 : Int) (v10 : Int) (Q : N4 → Prop) (R : RR) (_ : ∀ (v20 : Int) (v21 : Int) (v22 : Int) (v23 : Int), Q (v20, v21, v22, v23) → R (.tup []) [(.x 0, some (.var [.bool q2, .int .u64 v20, .int .u64 v21, .int .u64 v22, .int .u64 v23, .int .u64 v7, .int .u64 v8, .int .u64 v9, .int .u64 v10]))]) (_ : sat (m v1 q2 v3 v4 v5 v6 v7 v8 v9 v10) Q), O 110 [.c (.ptr (.x 0) 0 1), iD v1] [(.x 0, some (.var [.bool q2, .int .u64 v3, .int .u64 v4, .int .u64 v5, .int .u64 v6, .int .u64 v7, .int .u64 v8, .int .u64 v9, .int .u64 v10]))] R
def j110_add : Fn TT := ⟨16, [], (.drw [] (oR 13) [12] (List.range 12) [qo 4 (.mv 0),qo 5 (.mv 1),qo 6 (.bin .quo .num 5 (iC 64)),qo 7 (.nilck 4),qo 8 (.idxC 7 6 1 4),qo 9 (.load 8 1 false),qo 10 (.mv 1),qo 11 (.bin .rem .num 10 (iC 64)),qo 12 (.bin .shl .num (.c (.int .u64 1)) 11),qo 13 (.bin .or .num 9 12),qo 14 (.nilck 4),qo 15 (.idxC 14 6 1 4),qp (.store 15 13 1)])⟩
theorem w110_add {O : Oracle TT} : C110_add (fun _ => vcF (S := SS) O j110_add) f110_add := by
 intro v1 q2 v3 v4 v5 v6 v7 v8 v9 v10 Q R hQ h
 unfold f110_add at h
 refine ⟨nle rfl, rfl, ?_⟩
 conv => whnf
 refine ⟨by decide, ?_⟩
 conv => whnf
 obtain ⟨hbj11, h⟩ := sat_caseI h
 refine ⟨hbj11, fun j11 hj11 => ?_⟩
 replace h := h j11 hj11
 replace hbj11 : (0 : Int) ≤ (wrap .i64 (Int.tdiv v1 64)) ∧ (wrap .i64 (Int.tdiv v1 64)) < 4 := hbj11
 have hcj11 : j11 = 0 ∨ j11 = 1 ∨ j11 = 2 ∨ j11 = 3 := by omega
 rcases hcj11 with rfl | rfl | rfl | rfl
 replace h := sat_j0 h
 conv => whnf
 refine ⟨by decide, ?_⟩
 refine kp h fun hb13 h => ?_
 conv => whnf
 refine ⟨⟨by omega, by omega⟩, fun j12 hj12 => ?_⟩
 obtain rfl : j12 = 0 := by omega
 exact kR [] (ND 1) (hQ _ _ _ _ (sat_some h))
 replace h := sat_j1 h
 conv => whnf
 refine ⟨by decide, ?_⟩
 refine kp h fun hb15 h => ?_
 conv => whnf
 refine ⟨⟨by omega, by omega⟩, fun j14 hj14 => ?_⟩
 obtain rfl : j14 = 1 := by omega
 exact kR [] (ND 1) (hQ _ _ _ _ (sat_some h))
 replace h := sat_j2 h
 conv => whnf
 refine ⟨by decide, ?_⟩
 refine kp h fun hb17 h => ?_
 conv => whnf
 refine ⟨⟨by omega, by omega⟩, fun j16 hj16 => ?_⟩
 obtain rfl : j16 = 2 := by omega
 exact kR [] (ND 1) (hQ _ _ _ _ (sat_some h))
 replace h := sat_j3 h
 conv => whnf
 refine ⟨by decide, ?_⟩
 refine kp h fun hb19 h => ?_
 conv => whnf
 refine ⟨⟨by omega, by omega⟩, fun j18 hj18 => ?_⟩
 obtain rfl : j18 = 3 := by omega
 exact kR [] (ND 1) (hQ _ _ _ _ (sat_some h))
theorem c110_add {P : Program} {fid : Nat → FuncId} (mx : MX P) (k110_add : KF P fid 110 j110_add) : C110_add (SP P fid) f110_add :=
 fun a0 a1 a2 a3 a4 a5 a6 a7 a8 a9 Q R hQ h => spec_of_vc mx k110_add (w110_add a0 a1 a2 a3 a4 a5 a6 a7 a8 a9 Q R hQ h)
def f110a_add : Int → Bool → Int → Int → Int → Int → Int → Int → Int → Int → Option N4
 | v1, q2, v3, v4, v5, v6, v7, v8, v9, v10 => caseI (wrap .i64 (Int.tdiv v1 64)) [grdP (0 ≤ (Int.tmod v1 64)) (some ((bOr .u64 v7 (bShl .u64 1 (Int.tmod v1 64))), v8, v9, v10)), grdP (0 ≤ (Int.tmod v1 64)) (some (v7, (bOr .u64 v8 (bShl .u64 1 (Int.tmod v1 64))), v9, v10)), grdP (0 ≤ (Int.tmod v1 64)) (some (v7, v8, (bOr .u64 v9 (bShl .u64 1 (Int.tmod v1 64))), v10)), grdP (0 ≤ (Int.tmod v1 64)) (some (v7, v8, v9, (bOr .u64 v10 (bShl .u64 1 (Int.tmod v1 64)))))]
def C110a_add (O : Oracle TT) (m : Int → Bool → Int → Int → Int → Int → Int → Int → Int → Int → Option N4) : Prop :=
 ∀ (v1 : Int) (q2 : Bool) (v3 : Int) (v4 : Int) (v5 : Int) (v6 : Int) (v7 : Int) (v8 : Int) (v9 : Int) (v10 : Int) (Q : N4 → Prop) (R : RR) (_ : ∀ (v20 : Int) (v21 : Int) (v22 : Int) (v23 : Int), Q (v20, v21, v22, v23) → R (.tup []) [(.x 0, some (.var [.bool q2, .int .u64 v3, .int .u64 v4, .int .u64 v5, .int .u64 v6, .int .u64 v20, .int .u64 v21, .int .u64 v22, .int .u64 v23]))]) (_ : sat (m v1 q2 v3 v4 v5 v6 v7 v8 v9 v10) Q), O 110 [.c (.ptr (.x 0) 0 5), iD v1] [(.x 0, some (.var [.bool q2, .int .u64 v3, .int .u64 v4, .int .u64 v5, .int .u64 v6, .int .u64 v7, .int .u64 v8, .int .u64 v9, .int .u64 v10]))] R
def j110a_add : Fn TT := ⟨16, [], (.drw [] (oR 13) [12] (List.range 12) [qo 4 (.mv 0),qo 5 (.mv 1),qo 6 (.bin .quo .num 5 (iC 64)),qo 7 (.nilck 4),qo 8 (.idxC 7 6 1 4),qo 9 (.load 8 1 false),qo 10 (.mv 1),qo 11 (.bin .rem .num 10 (iC 64)),qo 12 (.bin .shl .num (.c (.int .u64 1)) 11),qo 13 (.bin .or .num 9 12),qo 14 (.nilck 4),qo 15 (.idxC 14 6 1 4),qp (.store 15 13 1)])⟩
theorem w110a_add {O : Oracle TT} : C110a_add (fun _ => vcF (S := SS) O j110a_add) f110a_add := by
 intro v1 q2 v3 v4 v5 v6 v7 v8 v9 v10 Q R hQ h
 unfold f110a_add at h
 refine ⟨nle rfl, rfl, ?_⟩
 conv => whnf
 refine ⟨by decide, ?_⟩
 conv => whnf
 obtain ⟨hbj11, h⟩ := sat_caseI h
 refine ⟨hbj11, fun j11 hj11 => ?_⟩
 replace h := h j11 hj11
 replace hbj11 : (0 : Int) ≤ (wrap .i64 (Int.tdiv v1 64)) ∧ (wrap .i64 (Int.tdiv v1 64)) < 4 := hbj11
 have hcj11 : j11 = 0 ∨ j11 = 1 ∨ j11 = 2 ∨ j11 = 3 := by omega
 rcases hcj11 with rfl | rfl | rfl | rfl
 replace h := sat_j0 h
 conv => whnf
 refine ⟨by decide, ?_⟩
 refine kp h fun hb13 h => ?_
 conv => whnf
 refine ⟨⟨by omega, by omega⟩, fun j12 hj12 => ?_⟩
 obtain rfl : j12 = 0 := by omega
 exact kR [] (ND 1) (hQ _ _ _ _ (sat_some h))
 replace h := sat_j1 h
 conv => whnf
 refine ⟨by decide, ?_⟩
 refine kp h fun hb15 h => ?_
 conv => whnf
 refine ⟨⟨by omega, by omega⟩, fun j14 hj14 => ?_⟩
 obtain rfl : j14 = 1 := by omega
 exact kR [] (ND 1) (hQ _ _ _ _ (sat_some h))
 replace h := sat_j2 h
 conv => whnf
 refine ⟨by decide, ?_⟩
 refine kp h fun hb17 h => ?_
 conv => whnf
 refine ⟨⟨by omega, by omega⟩, fun j16 hj16 => ?_⟩
 obtain rfl : j16 = 2 := by omega
 exact kR [] (ND 1) (hQ _ _ _ _ (sat_some h))
 replace h := sat_j3 h
 conv => whnf
 refine ⟨by decide, ?_⟩
 refine kp h fun hb19 h => ?_
 conv => whnf
 refine ⟨⟨by omega, by omega⟩, fun j18 hj18 => ?_⟩
 obtain rfl : j18 = 3 := by omega
 exact kR [] (ND 1) (hQ _ _ _ _ (sat_some h))
theorem c110a_add {P : Program} {fid : Nat → FuncId} (mx : MX P) (k110a_add : KF P fid 110 j110a_add) : C110a_add (SP P fid) f110a_add :=
 fun a0 a1 a2 a3 a4 a5 a6 a7 a8 a9 Q R hQ h => spec_of_vc mx k110a_add (w110a_add a0 a1 a2 a3 a4 a5 a6 a7 a8 a9 Q R hQ h)
def f179_position : N4 → BA → Int → Bool → Int → Int → Int → Int → Int → Int → Int → Int → Bool → L4 → L4 → Option (Bool × Int × Int × Int × Int × Int × Int × Int × Int × L4 × L4 × Bool)
 | (w1, w2, w3, w4), s5, v6, q7, v8, v9, v10, v11, v12, v13, v14, v15, q16, r17, r18 => cond (decide (((r17.length : Nat) : Int) > 255)) (some (false, 0, 0, 0, 0, 0, 0, 0, 0, r17, r18, true)) (grdP (r17.length + ([(w1, w2, w3, w4)] : L4).length ≤ 68719476736) (grdP (r18.length + ([(0, 0, 0, 0)] : L4).length ≤ 68719476736) ((f110_add ((r17.length : Nat) : Int) false (0 : Int) (0 : Int) (0 : Int) (0 : Int) (0 : Int) (0 : Int) (0 : Int) (0 : Int)).bind fun (v21, v22, v23, v24) => (f110a_add ((r17.length : Nat) : Int) false v21 v22 v23 v24 (0 : Int) (0 : Int) (0 : Int) (0 : Int)).bind fun (v25, v26, v27, v28) => some (false, v21, v22, v23, v24, v25, v26, v27, v28, (r17 ++ ([(w1, w2, w3, w4)] : L4)), (r18 ++ ([(0, 0, 0, 0)] : L4)), q16))))
def C179_position (O : Oracle TT) (m : N4 → BA → Int → Bool → Int → Int → Int → Int → Int → Int → Int → Int → Bool → L4 → L4 → Option (Bool × Int × Int × Int × Int × Int × Int × Int × Int × L4 × L4 × Bool)) : Prop :=
 ∀ (w1 : Int) (w2 : Int) (w3 : Int) (w4 : Int) (s5 : BA) (v6 : Int) (q7 : Bool) (v8 : Int) (v9 : Int) (v10 : Int) (v11 : Int) (v12 : Int) (v13 : Int) (v14 : Int) (v15 : Int) (q16 : Bool) (r17 : L4) (r18 : L4) (n0 : Nat) (en0 : n0 = r17.length) (n1 : Nat) (en1 : n1 = r18.length) (Q : (Bool × Int × Int × Int × Int × Int × Int × Int × Int × L4 × L4 × Bool) → Prop) (R : RR) (_ : ∀ (q31 : Bool) (v32 : Int) (v33 : Int) (v34 : Int) (v35 : Int) (v36 : Int) (v37 : Int) (v38 : Int) (v39 : Int) (l40 : L4) (l41 : L4) (q42 : Bool) (n0r : Nat) (_ : n0r = l40.length) (n1r : Nat) (_ : n1r = l41.length), Q (q31, v32, v33, v34, v35, v36, v37, v38, v39, l40, l41, q42) → R (.agg [.bool q31, .int .u64 v32, .int .u64 v33, .int .u64 v34, .int .u64 v35, .int .u64 v36, .int .u64 v37, .int .u64 v38, .int .u64 v39]) [(.x 0, some (.var [.str s5, ci v6, .osl (.x 3) 0 n0r, .osl (.x 4) 0 n1r, .bool q7, .int .u64 v8, .int .u64 v9, .int .u64 v10, .int .u64 v11, .int .u64 v12, .int .u64 v13, .int .u64 v14, .int .u64 v15, .bool q42])), (.x 1, none), (.x 2, none), (.x 3, some (.row false .set4 l40)), (.x 4, some (.row false .set4 l41))]) (_ : sat (m (w1, w2, w3, w4) s5 v6 q7 v8 v9 v10 v11 v12 v13 v14 v15 q16 r17 r18) Q), O 179 [pX 0, .agg [.int .u64 w1, .int .u64 w2, .int .u64 w3, .int .u64 w4]] [(.x 0, some (.var [.str s5, ci v6, .osl (.x 1) 0 n0, .osl (.x 2) 0 n1, .bool q7, .int .u64 v8, .int .u64 v9, .int .u64 v10, .int .u64 v11, .int .u64 v12, .int .u64 v13, .int .u64 v14, .int .u64 v15, .bool q16])), (.x 1, some (.row false .set4 r17)), (.x 2, some (.row false .set4 r18))] R
def j179_position : Fn TT := ⟨50, [.cell 4 9 true], (.seq (.reg [qo 3 (.box 3 1),qo 4 (.alloc 4 [.bool false, .int .u64 0, .int .u64 0, .int .u64 0, .int .u64 0, .int .u64 0, .int .u64 0, .int .u64 0, .int .u64 0])]) (.seq (.reg [qo 7 (.mv 0),qo 8 (.nilck 7),qo 9 (.fa 8 2),qo 10 (.fa 9 0),qo 11 (.load 10 1 false),qo 12 (.len false 11),qo 5 (.mv 12)]) (.seq (.seq (.reg [qo 13 (.mv 5),
 qo 14 (.bin .gtr .num 13 (iC 255))]) (.cond 14 (.seq (.reg [qo 15 (.mv 0),qo 16 (.nilck 15),qo 17 (.fa 16 13),qp (.store 17 bT 1)]) (.seq (.reg [qo 18 (.build [.bool false, .int .u64 0, .int .u64 0, .int .u64 0, .int .u64 0, .int .u64 0, .int .u64 0, .int .u64 0, .int .u64 0] []),qp (.store 4 18 9)])
 (.pre [.ownc (.x 0) 2 .set4 (.sub (.sub (.x 0) 801) 2), .ownc (.x 0) 3 .set4 (.sub (.sub (.x 0) 801) 3)] .ret))) .skip)) (.seq (.drw [(.x 1)] (oR 13) [12] [0, 1, 2, 3, 4, 5, 6, 9, 10, 11] [qo 19 (.mv 0),qo 20 (.mv 0),qo 21 (.nilck 20),qo 22 (.fa 21 2),qo 23 (.fa 22 0),qo 24 (.load 23 1 false),qo 25 (.load 3 4 true),qo 26 (.bsl .set4 [25]),qo 27 (.app 27 .set4 68719476736 24 26),
 qo 28 (.nilck 19),qo 29 (.fa 28 2),qo 30 (.fa 29 0),qp (.store 30 27 1)]) (.seq (.reg [qo 31 (.mv 0),qo 32 (.mv 0),qo 33 (.nilck 32),qo 34 (.fa 33 2),qo 35 (.fa 34 1),qo 36 (.load 35 1 false),qo 37 (.build [.int .u64 0, .int .u64 0, .int .u64 0, .int .u64 0] []),qo 38 (.bsl .set4 [37]),qo 39 (.app 39 .set4 68719476736 36 38),qo 40 (.nilck 31),qo 41 (.fa 40 2),qo 42 (.fa 41 1),
 qp (.store 42 39 1)]) (.seq (.reg [qo 6 (.alloc 6 [.bool false, .int .u64 0, .int .u64 0, .int .u64 0, .int .u64 0, .int .u64 0, .int .u64 0, .int .u64 0, .int .u64 0])]) (.seq (.reg [qo 43 (.fa 6 1),qo 44 (.mv 5),qo 45 (.call 45 110 [43, 44])]) (.seq (.reg [qo 46 (.fa 6 5),qo 47 (.mv 5),qo 48 (.call 48 110 [46, 47])]) (.seq (.reg [qo 49 (.load 6 9 true),qp (.store 4 49 9)]) .ret)))))))))⟩
theorem w179_position {O : Oracle TT} (h110_add : C110_add O f110_add) (h110a_add : C110a_add O f110a_add) : C179_position (fun _ => vcF (S := SS) O j179_position) f179_position := by
 intro w1 w2 w3 w4 s5 v6 q7 v8 v9 v10 v11 v12 v13 v14 v15 q16 r17 r18 n0 en0 n1 en1 Q R hQ h
 subst en0
 subst en1
 unfold f179_position at h
 refine ⟨nle rfl, rfl, ?_⟩
 intro hl19
 refine kc h (fun h => ?_) fun h => ?_
 conv => whnf
 refine ⟨LN, rfl, ?_⟩
 conv => whnf
 refine ⟨rfl, ?_⟩
 refine kp h fun hb30 h => ?_
 conv => whnf
 refine ⟨LN, rfl, ?_⟩
 conv => whnf
 refine ⟨rfl, ?_⟩
 refine kp h fun hb29 h => ?_
 refine kL [(.s 6)] (h110_add _ _ _ _ _ _ _ _ _ _ _ _ ?_ (sat_bind h))
 rintro v21 v22 v23 v24 h
 refine kL [(.s 6)] (h110a_add _ _ _ _ _ _ _ _ _ _ _ _ ?_ (sat_bind h))
 rintro v25 v26 v27 v28 h
 exact kR [(.s 27), (.s 39)] (ND 3) (hQ _ _ _ _ _ _ _ _ _ _ _ _ _ LN _ LN (sat_some h))
 exact kR [(.sub (.sub (.x 0) 801) 2), (.sub (.sub (.x 0) 801) 3)] (ND 3) (hQ _ _ _ _ _ _ _ _ _ _ _ _ _ LN _ LN (sat_some h))
theorem c179_position {P : Program} {fid : Nat → FuncId} (mx : MX P) (k179_position : KF P fid 179 j179_position) (h110_add : C110_add (SP P fid) f110_add) (h110a_add : C110a_add (SP P fid) f110a_add) : C179_position (SP P fid) f179_position :=
 fun a0 a1 a2 a3 a4 a5 a6 a7 a8 a9 a10 a11 a12 a13 a14 a15 a16 a17 n0 e0 n1 e1 Q R hQ h => spec_of_vc mx k179_position (w179_position h110_add h110a_add a0 a1 a2 a3 a4 a5 a6 a7 a8 a9 a10 a11 a12 a13 a14 a15 a16 a17 n0 e0 n1 e1 Q R hQ h)
def f180_single : BA → Int → Bool → Int → Int → Int → Int → Int → Int → Int → Int → Bool → L4 → L4 → Option (Int × Int × L4 × L4 × Bool)
 | s1, v2, q3, v4, v5, v6, v7, v8, v9, v10, v11, q12, r13, r14 => cond (decide (v2 ≥ (s1.size : Int))) (some (0, v2, r13, r14, true)) (getB s1 v2 fun c16 => sbind (ο := Bool) (cond ((c16.toNat : Int) == 93) (some (.inr true)) (cond ((c16.toNat : Int) == 94) (some (.inr true)) (cond ((c16.toNat : Int) == 45) (some (.inr true)) (some (.inr q12))))) (fun q20 => cond ((c16.toNat : Int) == 92) (cond (decide ((wrap .i64 (v2 + 1)) ≥ (s1.size : Int))) (some (0, (wrap .i64 (v2 + 1)), r13, r14, true)) (getB s1 (wrap .i64 (v2 + 1)) fun c27 => some ((c27.toNat : Int), (wrap .i64 ((wrap .i64 (v2 + 1)) + 1)), r13, r14, q20))) (some ((c16.toNat : Int), (wrap .i64 (v2 + 1)), r13, r14, q20))))
def C180_single (O : Oracle TT) (m : BA → Int → Bool → Int → Int → Int → Int → Int → Int → Int → Int → Bool → L4 → L4 → Option (Int × Int × L4 × L4 × Bool)) : Prop :=
 ∀ (s1 : BA) (v2 : Int) (q3 : Bool) (v4 : Int) (v5 : Int) (v6 : Int) (v7 : Int) (v8 : Int) (v9 : Int) (v10 : Int) (v11 : Int) (q12 : Bool) (r13 : L4) (r14 : L4) (n0 : Nat) (en0 : n0 = r13.length) (n1 : Nat) (en1 : n1 = r14.length) (Q : (Int × Int × L4 × L4 × Bool) → Prop) (R : RR) (_ : ∀ (v28 : Int) (v29 : Int) (l30 : L4) (l31 : L4) (q32 : Bool) (n0r : Nat) (_ : n0r = l30.length) (n1r : Nat) (_ : n1r = l31.length) (_ : l30.length = r13.length) (_ : l31.length = r14.length), Q (v28, v29, l30, l31, q32) → R (.c (.int .u8 v28)) [(.x 0, some (.var [.str s1, ci v29, .osl (.x 1) 0 n0r, .osl (.x 2) 0 n1r, .bool q3, .int .u64 v4, .int .u64 v5, .int .u64 v6, .int .u64 v7, .int .u64 v8, .int .u64 v9, .int .u64 v10, .int .u64 v11, .bool q32])), (.x 1, some (.row false .set4 l30)), (.x 2, some (.row false .set4 l31))]) (_ : sat (m s1 v2 q3 v4 v5 v6 v7 v8 v9 v10 v11 q12 r13 r14) Q), O 180 [pX 0] [(.x 0, some (.var [.str s1, ci v2, .osl (.x 1) 0 n0, .osl (.x 2) 0 n1, .bool q3, .int .u64 v4, .int .u64 v5, .int .u64 v6, .int .u64 v7, .int .u64 v8, .int .u64 v9, .int .u64 v10, .int .u64 v11, .bool q12])), (.x 1, some (.row false .set4 r13)), (.x 2, some (.row false .set4 r14))] R
def j180_single : Fn TT := ⟨78, [.t 2], (.seq (.reg [qo 2 (.mv (.c (.int .u8 0)))]) (.seq (.seq (.drw [] (oR 10) [] (List.range 10) [qo 4 (.mv 0),qo 5 (.nilck 4),qo 6 (.fa 5 1),qo 7 (.load 6 1 false),qo 8 (.mv 0),qo 9 (.nilck 8),qo 10 (.fa 9 0),qo 11 (.load 10 1 false),qo 12 (.len true 11),qo 13 (.bin .geq .num 7 12)]) (.cond 13 (.seq (.reg [qo 14 (.mv 0),qo 15 (.nilck 14),
 qo 16 (.fa 15 13),qp (.store 16 bT 1)]) (.seq (.reg [qo 2 (.mv (.c (.int .u8 0)))]) .ret)) .skip)) (.seq (.drw [] (oR 10) [] (List.range 10) [qo 17 (.mv 0),qo 18 (.nilck 17),qo 19 (.fa 18 0),qo 20 (.load 19 1 false),qo 21 (.mv 0),qo 22 (.nilck 21),qo 23 (.fa 22 1),qo 24 (.load 23 1 false),qo 25 (.idxS 20 24),qo 3 (.mv 25)]) (.seq (.reg [qo 26 (.mv 0),qo 27 (.nilck 26),qo 28 (.fa 27 1),
 qo 29 (.load 28 1 false),qo 30 (.bin .add .num 29 (iC 1)),qo 31 (.nilck 26),qo 32 (.fa 31 1),qp (.store 32 30 1)]) (.cut [0, 3] [(.x 0), (.x 1), (.x 2)] (.seq (.reg [qo 33 (.mv 3),qo 34 (.bin .eql .num 33 (.c (.int .u8 93))),qo 35 (.mv 34),qf 35 36 (.mv 3),qf 35 37 (.bin .eql .num 36 (.c (.int .u8 94))),qo 38 (.pick 35 bT 37),qo 39 (.mv 38),qf 39 40 (.mv 3),
 qf 39 41 (.bin .eql .num 40 (.c (.int .u8 45))),qo 42 (.pick 39 bT 41)]) (.cond 42 (.reg [qo 43 (.mv 0),qo 44 (.nilck 43),qo 45 (.fa 44 13),qp (.store 45 bT 1)]) .skip)) (.seq (.seq (.reg [qo 46 (.mv 3),qo 47 (.bin .eql .num 46 (.c (.int .u8 92)))]) (.cond 47 (.seq (.seq (.drw [] (oR 10) [] (List.range 10) [qo 48 (.mv 0),qo 49 (.nilck 48),qo 50 (.fa 49 1),qo 51 (.load 50 1 false),
 qo 52 (.mv 0),qo 53 (.nilck 52),qo 54 (.fa 53 0),qo 55 (.load 54 1 false),qo 56 (.len true 55),qo 57 (.bin .geq .num 51 56)]) (.cond 57 (.seq (.reg [qo 58 (.mv 0),qo 59 (.nilck 58),qo 60 (.fa 59 13),qp (.store 60 bT 1)]) (.seq (.reg [qo 2 (.mv (.c (.int .u8 0)))]) .ret)) .skip)) (.seq (.drw [] (oR 10) [] (List.range 10) [qo 61 (.mv 0),qo 62 (.nilck 61),qo 63 (.fa 62 0),
 qo 64 (.load 63 1 false),qo 65 (.mv 0),qo 66 (.nilck 65),qo 67 (.fa 66 1),qo 68 (.load 67 1 false),qo 69 (.idxS 64 68),qo 3 (.mv 69)]) (.reg [qo 70 (.mv 0),qo 71 (.nilck 70),qo 72 (.fa 71 1),qo 73 (.load 72 1 false),qo 74 (.bin .add .num 73 (iC 1)),qo 75 (.nilck 70),qo 76 (.fa 75 1),qp (.store 76 74 1)]))) .skip)) (.seq (.reg [qo 77 (.mv 3),qo 2 (.mv 77)]) .ret)))))))⟩
theorem w180_single {O : Oracle TT} : C180_single (fun _ => vcF (S := SS) O j180_single) f180_single := by
 intro s1 v2 q3 v4 v5 v6 v7 v8 v9 v10 v11 q12 r13 r14 n0 en0 n1 en1 Q R hQ h
 subst en0
 subst en1
 unfold f180_single at h
 refine ⟨nle rfl, rfl, ?_⟩
 refine kc h (fun h => ?_) fun h => ?_
 refine kg (sat_getB h) fun c16 hc16 h => ?_
 obtain ⟨R21, h, hlR21, hrR21⟩ := sat_sbind h
 refine kX (fun σ => ∃ (q20 : Bool), R21 (.inr q20) ∧ σ = ⟨[(0, pX 0), (3, .c (.int .u8 (c16.toNat : Int)))], [(.x 0, some (.var [.str s1, ci (wrap .i64 (v2 + 1)), .osl (.x 1) 0 r13.length, .osl (.x 2) 0 r14.length, .bool q3, .int .u64 v4, .int .u64 v5, .int .u64 v6, .int .u64 v7, .int .u64 v8, .int .u64 v9, .int .u64 v10, .int .u64 v11, .bool q20])), (.x 1, some (.row false .set4 r13)), (.x 2, some (.row false .set4 r14))]⟩) ?_ ?_
 refine kc h (fun h => ?_) fun h => ?_
 refine kc h (fun h => ?_) fun h => ?_
 refine kc h (fun h => ?_) fun h => ?_
 conv => whnf
 exact ⟨q12, sat_some h, rfl⟩
 conv => whnf
 exact ⟨true, sat_some h, rfl⟩
 conv => whnf
 exact ⟨true, sat_some h, rfl⟩
 conv => whnf
 exact ⟨true, sat_some h, rfl⟩
 rintro _ ⟨q20, h, rfl⟩
 replace h := hrR21 _ h
 refine kc h (fun h => ?_) fun h => ?_
 exact kR [] (ND 3) (hQ _ _ _ _ _ _ LN _ LN LN LN (sat_some h))
 refine kc h (fun h => ?_) fun h => ?_
 refine kg (sat_getB h) fun c27 hc27 h => ?_
 exact kR [] (ND 3) (hQ _ _ _ _ _ _ LN _ LN LN LN (sat_some h))
 exact kR [] (ND 3) (hQ _ _ _ _ _ _ LN _ LN LN LN (sat_some h))
 exact kR [] (ND 3) (hQ _ _ _ _ _ _ LN _ LN LN LN (sat_some h))
theorem c180_single {P : Program} {fid : Nat → FuncId} (mx : MX P) (k180_single : KF P fid 180 j180_single) : C180_single (SP P fid) f180_single :=
 fun a0 a1 a2 a3 a4 a5 a6 a7 a8 a9 a10 a11 a12 a13 n0 e0 n1 e1 Q R hQ h => spec_of_vc mx k180_single (w180_single a0 a1 a2 a3 a4 a5 a6 a7 a8 a9 a10 a11 a12 a13 n0 e0 n1 e1 Q R hQ h)
def f176_turn_L1 : Nat → Int → Int → Int → Int → Int → Option N4
 | 0, v18, v22, v23, v24, v25 => some (v22, v23, v24, v25)
 | g20 + 1, v18, v22, v23, v24, v25 => caseI v18 [f176_turn_L1 g20 (v18 + 1) (bNot .u64 v22) v23 v24 v25, f176_turn_L1 g20 (v18 + 1) v22 (bNot .u64 v23) v24 v25, f176_turn_L1 g20 (v18 + 1) v22 v23 (bNot .u64 v24) v25, f176_turn_L1 g20 (v18 + 1) v22 v23 v24 (bNot .u64 v25)]
def f176_turn : Int → Int → Int → Int → Option N4
 | v1, v2, v3, v4 => grdP ((4 : Int) ≤ 9223372036854775807) (f176_turn_L1 ((4 : Int) - 0).toNat 0 v1 v2 v3 v4)
def C176_turn (O : Oracle TT) (m : Int → Int → Int → Int → Option N4) : Prop :=
 ∀ (v1 : Int) (v2 : Int) (v3 : Int) (v4 : Int) (Q : N4 → Prop) (R : RR) (_ : ∀ (v32 : Int) (v33 : Int) (v34 : Int) (v35 : Int), Q (v32, v33, v34, v35) → R (.tup []) [(.x 0, some (.var [.int .u64 v32, .int .u64 v33, .int .u64 v34, .int .u64 v35]))]) (_ : sat (m v1 v2 v3 v4) Q), O 176 [pX 0] [(.x 0, some (.var [.int .u64 v1, .int .u64 v2, .int .u64 v3, .int .u64 v4]))] R
def j176_turn : Fn TT := ⟨17, [], (.seq (.reg [qo 3 (.mv (iC 0))]) (.block 0 (.loop (.keep [0, 3] [(.x 0)] (.aft (.seq (.reg [qo 4 (.bin .lss .num 3 (iC 4))]) (.seq (.cond 4 .skip (.exit 0)) (.seq (.block 1 (.seq (.reg [qo 5 (.mv 3),qo 2 (.mv 5)]) (.drw [] (oR 11) [10] (List.range 10) [qo 6 (.mv 0),qo 7 (.mv 2),qo 8 (.mv 0),qo 9 (.mv 2),qo 10 (.nilck 8),qo 11 (.idxC 10 9 1 4),
 qo 12 (.load 11 1 false),qo 13 (.un .xor 12),qo 14 (.nilck 6),qo 15 (.idxC 14 7 1 4),qp (.store 15 13 1)]))) (.reg [qo 16 (.bin .add .num 3 (iC 1)),qo 3 (.mv 16)])))) [.keep [0, 3] [(.x 0)]])))))⟩
theorem w176_turn {O : Oracle TT} : C176_turn (fun _ => vcF (S := SS) O j176_turn) f176_turn := by
 intro v1 v2 v3 v4 Q R hQ h
 unfold f176_turn at h
 refine ⟨nle rfl, rfl, ?_⟩
 obtain ⟨hN21, h⟩ := sat_grdP h
 refine kX (fun σ n => ∃ (f19 : Nat) (v18 : Int) (z : Int) (v22 : Int) (v23 : Int) (v24 : Int) (v25 : Int), f19 = n ∧ f19 = (4 - v18).toNat ∧ 0 ≤ v18 ∧ v18 = z ∧ sat (f176_turn_L1 f19 v18 v22 v23 v24 v25) Q ∧ σ.keep [0, 3] [(.x 0)] = ⟨[(0, pX 0), (3, iD z)], [(.x 0, some (.var [.int .u64 v22, .int .u64 v23, .int .u64 v24, .int .u64 v25]))]⟩) ⟨_, _, 0, _, v1, v2, v3, v4, rfl, rfl, (by decide), rfl, h, rfl⟩ ?_
 rintro σ n ⟨f19, v18, _, v22, v23, v24, v25, rfl, hf19, hpf19, rfl, h, hσ⟩
 refine kk hσ ?_
 intro t26 (ht26 : t26 = decide (v18 < 4))
 cases t26
 obtain rfl := il_nil hf19 ht26
 rw [f176_turn_L1] at h
 exact kR [] (ND 1) (hQ _ _ _ _ (sat_some h))
 obtain ⟨g20, rfl, hwg20, hpg20, hfg20⟩ := il_cons hf19 hpf19 ht26 hN21
 rw [f176_turn_L1] at h
 conv => whnf
 obtain ⟨hbj27, h⟩ := sat_caseI h
 refine ⟨hbj27, fun j27 hj27 => ?_⟩
 replace h := h j27 hj27
 replace hbj27 : (0 : Int) ≤ v18 ∧ v18 < 4 := hbj27
 have hcj27 : j27 = 0 ∨ j27 = 1 ∨ j27 = 2 ∨ j27 = 3 := by omega
 rcases hcj27 with rfl | rfl | rfl | rfl
 replace h := sat_j0 h
 conv => whnf
 refine ⟨⟨by omega, by omega⟩, fun j28 hj28 => ?_⟩
 obtain rfl : j28 = 0 := by omega
 conv => whnf
 exact ⟨g20, nls, g20, v18 + 1, _, (bNot .u64 v22), v23, v24, v25, rfl, hfg20, hpg20, hwg20.symm, h, rfl⟩
 replace h := sat_j1 h
 conv => whnf
 refine ⟨⟨by omega, by omega⟩, fun j29 hj29 => ?_⟩
 obtain rfl : j29 = 1 := by omega
 conv => whnf
 exact ⟨g20, nls, g20, v18 + 1, _, v22, (bNot .u64 v23), v24, v25, rfl, hfg20, hpg20, hwg20.symm, h, rfl⟩
 replace h := sat_j2 h
 conv => whnf
 refine ⟨⟨by omega, by omega⟩, fun j30 hj30 => ?_⟩
 obtain rfl : j30 = 2 := by omega
 conv => whnf
 exact ⟨g20, nls, g20, v18 + 1, _, v22, v23, (bNot .u64 v24), v25, rfl, hfg20, hpg20, hwg20.symm, h, rfl⟩
 replace h := sat_j3 h
 conv => whnf
 refine ⟨⟨by omega, by omega⟩, fun j31 hj31 => ?_⟩
 obtain rfl : j31 = 3 := by omega
 conv => whnf
 exact ⟨g20, nls, g20, v18 + 1, _, v22, v23, v24, (bNot .u64 v25), rfl, hfg20, hpg20, hwg20.symm, h, rfl⟩
theorem c176_turn {P : Program} {fid : Nat → FuncId} (mx : MX P) (k176_turn : KF P fid 176 j176_turn) : C176_turn (SP P fid) f176_turn :=
 fun a0 a1 a2 a3 Q R hQ h => spec_of_vc mx k176_turn (w176_turn a0 a1 a2 a3 Q R hQ h)
def f177_bytes_L24 (v815 : Int) (v816 : Int) (l818 : L4) (l819 : L4) : Nat → Int → Int → Int → Int → Int → Option (Sum (Sum (N4 × Int × L4 × L4 × Bool) (Int × Bool × Int × Int × Int × Int × L4 × L4)) (Int × Bool × Int × Int × Int × Int × L4 × L4))
 | 0, _, _, _, _, _ => none
 | g847 + 1, v849, v850, v851, v852, v853 => cond (decide (v849 ≤ (wrap .i64 v815))) ((f178_add (wrap .u8 v849) v850 v851 v852 v853).bind fun (v855, v856, v857, v858) => f177_bytes_L24 v815 v816 l818 l819 g847 (wrap .i64 (v849 + 1)) v855 v856 v857 v858) (some (.inr (v816, false, v850, v851, v852, v853, l818, l819)))
def f177_bytes_L25 (v815 : Int) (v816 : Int) (l818 : L4) (l819 : L4) : Nat → Int → Int → Int → Int → Int → Option (Sum (Sum (N4 × Int × L4 × L4 × Bool) (Int × Bool × Int × Int × Int × Int × L4 × L4)) (Int × Bool × Int × Int × Int × Int × L4 × L4))
 | 0, _, _, _, _, _ => none
 | g865 + 1, v867, v868, v869, v870, v871 => cond (decide (v867 ≤ (wrap .i64 v815))) (some (.inr (v816, true, v868, v869, v870, v871, l818, l819))) (some (.inr (v816, true, v868, v869, v870, v871, l818, l819)))
def f177_bytes_L26 (v815 : Int) (v816 : Int) (l818 : L4) (l819 : L4) : Nat → Int → Int → Int → Int → Int → Option (Sum (Sum (N4 × Int × L4 × L4 × Bool) (Int × Bool × Int × Int × Int × Int × L4 × L4)) (Int × Bool × Int × Int × Int × Int × L4 × L4))
 | 0, _, _, _, _, _ => none
 | g879 + 1, v881, v882, v883, v884, v885 => cond (decide (v881 ≤ (wrap .i64 v815))) (some (.inr (v816, true, v882, v883, v884, v885, l818, l819))) (some (.inr (v816, true, v882, v883, v884, v885, l818, l819)))
def f177_bytes_L20 (fuel : Nat) (s1 : BA) (q3 : Bool) (v4 : Int) (v5 : Int) (v6 : Int) (v7 : Int) (v8 : Int) (v9 : Int) (v10 : Int) (v11 : Int) : Nat → L4 → L4 → Int → Bool → Int → Int → Int → Int → Option (Sum (N4 × Int × L4 × L4 × Bool) (Int × Bool × Int × Int × Int × Int × L4 × L4))
 | 0, _, _, _, _, _, _, _, _ => none
 | g676 + 1, l678, l679, v680, q681, v682, v683, v684, v685 => (f156b_more s1 v680 q3 v4 v5 v6 v7 v8 v9 v10 v11 q681 l678 l679).bind fun (q688, l689, l690, q691) => cond q688 ((f157b_peek s1 v680 q3 v4 v5 v6 v7 v8 v9 v10 v11 q691 l689 l690).bind fun (v692, l693, l694) => cond (v692 != 93) (sbind (ο := Int × Bool × Int × Int × Int × Int × L4 × L4) ((f180_single s1 v680 q3 v4 v5 v6 v7 v8 v9 v10 v11 q691 l693 l694).bind fun (v797, v798, l799, l800, q801) => sbind (ο := Int × Int × Bool × L4 × L4) ((f156b_more s1 v798 q3 v4 v5 v6 v7 v8 v9 v10 v11 q801 l799 l800).bind fun (q823, l824, l825, q826) => cond q823 ((f157b_peek s1 v798 q3 v4 v5 v6 v7 v8 v9 v10 v11 q826 l824 l825).bind fun (v827, l828, l829) => cond (v827 == 45) ((f180_single s1 (wrap .i64 (v798 + 1)) q3 v4 v5 v6 v7 v8 v9 v10 v11 q826 l828 l829).bind fun (v831, v832, l833, l834, q835) => some (.inr (v831, v832, q835, l833, l834))) (some (.inr (v797, v798, q826, l828, l829)))) (some (.inr (v797, v798, q826, l824, l825)))) (fun (v815, v816, q817, l818, l819) => cond q817 (f177_bytes_L26 v815 v816 l818 l819 fuel (wrap .i64 v797) v682 v683 v684 v685) (cond (decide (v815 < v797)) (f177_bytes_L25 v815 v816 l818 l819 fuel (wrap .i64 v797) v682 v683 v684 v685) (f177_bytes_L24 v815 v816 l818 l819 fuel (wrap .i64 v797) v682 v683 v684 v685)))) (fun (v786, q787, v788, v789, v790, v791, l792, l793) => f177_bytes_L20 fuel s1 q3 v4 v5 v6 v7 v8 v9 v10 v11 g676 l792 l793 v786 q787 v788 v789 v790 v791)) (some (.inr (v680, q691, v682, v683, v684, v685, l693, l694)))) (some (.inr (v680, q691, v682, v683, v684, v685, l689, l690)))
def f177_bytes (fuel : Nat) : BA → Int → Bool → Int → Int → Int → Int → Int → Int → Int → Int → Bool → L4 → L4 → Option (N4 × Int × L4 × L4 × Bool)
 | s1, v2, q3, v4, v5, v6, v7, v8, v9, v10, v11, q12, r13, r14 => sbind (ο := Bool × L4 × L4) ((f157b_peek s1 v2 q3 v4 v5 v6 v7 v8 v9 v10 v11 q12 r13 r14).bind fun (v27, l28, l29) => cond (v27 == 94) (cond (decide (v2 < (s1.size : Int))) (some (.inr (true, l28, l29))) (some (.inr (false, l28, l29)))) (some (.inr (false, l28, l29)))) (fun (q21, l22, l23) => sbind (ο := Bool × Int) (cond q21 (some (.inr (true, (wrap .i64 (v2 + 1))))) (some (.inr (false, v2)))) (fun (q33, v34) => sbind (ο := Int × Bool × Int × Int × Int × Int × L4 × L4) (f177_bytes_L20 fuel s1 q3 v4 v5 v6 v7 v8 v9 v10 v11 fuel l22 l23 v34 q12 (0 : Int) (0 : Int) (0 : Int) (0 : Int)) (fun (v456, q457, v458, v459, v460, v461, l462, l463) => cond q457 (some ((v458, v459, v460, v461), v456, l462, l463, true)) (cond (decide (v456 ≥ (s1.size : Int))) (some ((v458, v459, v460, v461), v456, l462, l463, true)) (cond q33 ((f176_turn v458 v459 v460 v461).bind fun (v889, v890, v891, v892) => cond ((v889 == 0) && ((v890 == 0) && ((v891 == 0) && ((v892 == 0) && (true))))) (some ((v889, v890, v891, v892), (wrap .i64 (v456 + 1)), l462, l463, true)) (some ((v889, v890, v891, v892), (wrap .i64 (v456 + 1)), l462, l463, false))) (cond ((v458 == 0) && ((v459 == 0) && ((v460 == 0) && ((v461 == 0) && (true))))) (some ((v458, v459, v460, v461), (wrap .i64 (v456 + 1)), l462, l463, true)) (some ((v458, v459, v460, v461), (wrap .i64 (v456 + 1)), l462, l463, false))))))))
def C177_bytes (O : Oracle TT) (m : BA → Int → Bool → Int → Int → Int → Int → Int → Int → Int → Int → Bool → L4 → L4 → Option (N4 × Int × L4 × L4 × Bool)) : Prop :=
 ∀ (s1 : BA) (v2 : Int) (q3 : Bool) (v4 : Int) (v5 : Int) (v6 : Int) (v7 : Int) (v8 : Int) (v9 : Int) (v10 : Int) (v11 : Int) (q12 : Bool) (r13 : L4) (r14 : L4) (n0 : Nat) (en0 : n0 = r13.length) (n1 : Nat) (en1 : n1 = r14.length) (Q : (N4 × Int × L4 × L4 × Bool) → Prop) (R : RR) (_ : ∀ (w894 : Int) (w895 : Int) (w896 : Int) (w897 : Int) (v898 : Int) (l899 : L4) (l900 : L4) (q901 : Bool) (n0r : Nat) (_ : n0r = l899.length) (n1r : Nat) (_ : n1r = l900.length) (_ : l899.length = r13.length) (_ : l900.length = r14.length), Q ((w894, w895, w896, w897), v898, l899, l900, q901) → R (.agg [.int .u64 w894, .int .u64 w895, .int .u64 w896, .int .u64 w897]) [(.x 0, some (.var [.str s1, ci v898, .osl (.x 1) 0 n0r, .osl (.x 2) 0 n1r, .bool q3, .int .u64 v4, .int .u64 v5, .int .u64 v6, .int .u64 v7, .int .u64 v8, .int .u64 v9, .int .u64 v10, .int .u64 v11, .bool q901])), (.x 1, some (.row false .set4 l899)), (.x 2, some (.row false .set4 l900))]) (_ : sat (m s1 v2 q3 v4 v5 v6 v7 v8 v9 v10 v11 q12 r13 r14) Q), O 177 [pX 0] [(.x 0, some (.var [.str s1, ci v2, .osl (.x 1) 0 n0, .osl (.x 2) 0 n1, .bool q3, .int .u64 v4, .int .u64 v5, .int .u64 v6, .int .u64 v7, .int .u64 v8, .int .u64 v9, .int .u64 v10, .int .u64 v11, .bool q12])), (.x 1, some (.row false .set4 r13)), (.x 2, some (.row false .set4 r14))] R
def j177_bytes : Fn TT := ⟨127, [.cell 2 4 true], (.seq (.reg [qo 2 (.alloc 2 [.int .u64 0, .int .u64 0, .int .u64 0, .int .u64 0])]) (.seq (.reg [qo 3 (.alloc 3 [.int .u64 0, .int .u64 0, .int .u64 0, .int .u64 0])]) (.cut [0, 2, 3, 4] [(.x 0), (.s 2), (.s 3), (.x 1), (.x 2)]
 (.drw [(.x 0), (.x 1), (.x 2)] (.go 0 (.go 1 (.go 2 (.go 3 (.go 4 (.go 5 (.go 6 (.go 8 (.go 9 (.go 10 (.alt 7 (.go 11 (.go 12 (.go 13 (.go 14 (.go 15 .nil))))) 11 (.go 12 (.go 7 (.go 13 (.go 14 (.go 15 .nil)))))))))))))))) [] [0, 2, 3, 4, 5, 6, 8, 9, 10, 12, 13, 14, 15] [qo 8 (.mv 0),qo 9 (.call 9 157 [8]),qo 10 (.bin .eql .num 9 (.c (.int .u8 94))),qo 11 (.mv 10),qg 11 12 (.mv 0),
 qg 11 13 (.nilck 12),qg 11 14 (.fa 13 1),qg 11 15 (.load 14 1 false),qg 11 16 (.mv 0),qg 11 17 (.nilck 16),qg 11 18 (.fa 17 0),qg 11 19 (.load 18 1 false),qg 11 20 (.len true 19),qg 11 21 (.bin .lss .num 15 20),qo 22 (.pick 11 21 bF),qo 4 (.mv 22)]) (.cut [0, 2, 3, 4] [(.x 0), (.s 2), (.s 3), (.x 1), (.x 2)] (.seq (.reg [qo 23 (.mv 4)]) (.cond 23 (.reg [qo 24 (.mv 0),qo 25 (.nilck 24),
 qo 26 (.fa 25 1),qo 27 (.load 26 1 false),qo 28 (.bin .add .num 27 (iC 1)),qo 29 (.nilck 24),qo 30 (.fa 29 1),qp (.store 30 28 1)]) .skip)) (.cut [0, 2, 3, 4] [(.x 0), (.s 2), (.s 3), (.x 1), (.x 2)] (.block 0 (.loop (.keep [0, 2, 3, 4] [(.x 0), (.s 2), (.s 3), (.x 1), (.x 2)] (.aft (.seq (.seq (.reg [qo 31 (.mv 0),qo 32 (.call 32 156 [31]),qo 33 (.mv 32),qg 33 34 (.mv 0),
 qg 33 35 (.call 35 157 [34]),qg 33 36 (.bin .neq .num 35 (.c (.int .u8 93))),qo 37 (.pick 33 36 bF)]) (.cond 37 .skip (.exit 0))) (.cut1 [0, 2, 3, 4] [(.x 0), (.s 2), (.s 3), (.x 1), (.x 2)] (.block 1 (.seq (.reg [qo 38 (.mv 0),qo 39 (.call 39 180 [38]),qo 5 (.mv 39)]) (.seq (.reg [qo 40 (.mv 5),qo 6 (.mv 40)]) (.cut [0, 2, 3, 4, 5, 6] [(.x 0), (.s 2), (.s 3), (.x 1), (.x 2)] (.seq
 (.reg [qo 41 (.mv 0),qo 42 (.call 42 156 [41]),qo 43 (.mv 42),qg 43 44 (.mv 0),qg 43 45 (.call 45 157 [44]),qg 43 46 (.bin .eql .num 45 (.c (.int .u8 45))),qo 47 (.pick 43 46 bF)]) (.cond 47 (.seq (.reg [qo 48 (.mv 0),qo 49 (.nilck 48),qo 50 (.fa 49 1),qo 51 (.load 50 1 false),qo 52 (.bin .add .num 51 (iC 1)),qo 53 (.nilck 48),qo 54 (.fa 53 1),qp (.store 54 52 1)])
 (.reg [qo 55 (.mv 0),qo 56 (.call 56 180 [55]),qo 6 (.mv 56)])) .skip)) (.seq (.reg [qo 57 (.mv 0),qo 58 (.mv 0),qo 59 (.nilck 58),qo 60 (.fa 59 13),qo 61 (.load 60 1 false),qo 62 (.mv 61),qf 62 63 (.mv 6),qf 62 64 (.mv 5),qf 62 65 (.bin .lss .num 63 64),qo 66 (.pick 62 bT 65),qo 67 (.nilck 57),qo 68 (.fa 67 13),qp (.store 68 66 1)]) (.seq (.reg [qo 69 (.mv 5),qo 70 (.conv .i64 69),
 qo 7 (.mv 70)]) (.block 2 (.loop (.keep [0, 2, 3, 4, 6, 7] [(.x 0), (.s 2), (.s 3), (.x 1), (.x 2)] (.aft (.seq (.seq (.reg [qo 71 (.mv 7),qo 72 (.mv 6),qo 73 (.conv .i64 72),qo 74 (.bin .leq .num 71 73),qo 75 (.mv 74),qg 75 76 (.mv 0),qg 75 77 (.nilck 76),qg 75 78 (.fa 77 13),qg 75 79 (.load 78 1 false),qg 75 80 (.un .not 79),qo 81 (.pick 75 80 bF)]) (.cond 81 .skip (.exit 2))) (.seq
 (.block 3 (.reg [qo 84 (.mv 7),qo 85 (.conv .u8 84),qo 86 (.call 86 178 [3, 85])])) (.reg [qo 82 (.mv 7),qo 83 (.bin .add .num 82 (iC 1)),qo 7 (.mv 83)]))) [.keep [0, 2, 3, 4, 6, 7] [(.x 0), (.s 2), (.s 3), (.x 1), (.x 2)]])))))))))))) [.keep [0, 2, 3, 4] [(.x 0), (.s 2), (.s 3), (.x 1), (.x 2)]])))) (.seq (.seq (.drw [] (oR 20) [19] (List.range 19) [qo 87 (.mv 0),qo 88 (.mv 0),
 qo 89 (.nilck 88),qo 90 (.fa 89 13),qo 91 (.load 90 1 false),qo 92 (.mv 91),qf 92 93 (.mv 0),qf 92 94 (.nilck 93),qf 92 95 (.fa 94 1),qf 92 96 (.load 95 1 false),qf 92 97 (.mv 0),qf 92 98 (.nilck 97),qf 92 99 (.fa 98 0),qf 92 100 (.load 99 1 false),qf 92 101 (.len true 100),qf 92 102 (.bin .geq .num 96 101),qo 103 (.pick 92 bT 102),qo 104 (.nilck 87),qo 105 (.fa 104 13),
 qp (.store 105 103 1)]) (.seq (.reg [qo 106 (.mv 0),qo 107 (.nilck 106),qo 108 (.fa 107 13),qo 109 (.load 108 1 false)]) (.cond 109 (.seq (.reg [qo 110 (.load 3 4 true),qp (.store 2 110 4)]) .ret) .skip))) (.seq (.reg [qo 111 (.mv 0),qo 112 (.nilck 111),qo 113 (.fa 112 1),qo 114 (.load 113 1 false),qo 115 (.bin .add .num 114 (iC 1)),qo 116 (.nilck 111),qo 117 (.fa 116 1),
 qp (.store 117 115 1)]) (.seq (.seq (.reg [qo 118 (.mv 4)]) (.cond 118 (.reg [qo 119 (.call 119 176 [3])]) .skip)) (.seq (.reg [qo 120 (.mv 0),qo 121 (.load 3 4 true),qo 122 (.build [.int .u64 0, .int .u64 0, .int .u64 0, .int .u64 0] []),qo 123 (.bin .eql (.two 4) 121 122),qo 124 (.nilck 120),qo 125 (.fa 124 13),qp (.store 125 123 1)]) (.seq (.reg [qo 126 (.load 3 4 true),
 qp (.store 2 126 4)]) .ret))))))))))⟩
theorem w177_bytes {O : Oracle TT} (fuel : Nat) (h178_add : C178_add O f178_add) (h156b_more : C156b_more O f156b_more) (h157b_peek : C157b_peek O f157b_peek) (h180_single : C180_single O f180_single) (h176_turn : C176_turn O f176_turn) : C177_bytes (fun _ => vcF (S := SS) O j177_bytes) (f177_bytes fuel) := by
 intro s1 v2 q3 v4 v5 v6 v7 v8 v9 v10 v11 q12 r13 r14 n0 en0 n1 en1 Q R hQ h
 subst en0
 subst en1
 unfold f177_bytes at h
 refine ⟨nle rfl, rfl, ?_⟩
 obtain ⟨R26, h, hlR26, hrR26⟩ := sat_sbind h
 refine kX (fun σ => ∃ (q21 : Bool) (l22 : L4) (l23 : L4) (n24 : Nat) (n25 : Nat), n24 = l22.length ∧ n25 = l23.length ∧ l22.length = r13.length ∧ l23.length = r14.length ∧ R26 (.inr (q21, l22, l23)) ∧ σ = ⟨[(0, pX 0), (2, pS 2), (3, pS 3), (4, bD q21)], [(.x 0, some (.var [.str s1, ci v2, .osl (.x 1) 0 n24, .osl (.x 2) 0 n25, .bool q3, .int .u64 v4, .int .u64 v5, .int .u64 v6, .int .u64 v7, .int .u64 v8, .int .u64 v9, .int .u64 v10, .int .u64 v11, .bool q12])), (.s 2, some (.var [.int .u64 0, .int .u64 0, .int .u64 0, .int .u64 0])), (.s 3, some (.var [.int .u64 0, .int .u64 0, .int .u64 0, .int .u64 0])), (.x 1, some (.row false .set4 l22)), (.x 2, some (.row false .set4 l23))]⟩) ?_ ?_
 refine kL [(.x 0), (.x 1), (.x 2)] (h157b_peek _ _ _ _ _ _ _ _ _ _ _ _ _ _ _ LN _ LN _ _ ?_ (sat_bind h))
 rintro v27 l28 l29 _ rfl _ rfl hkrl28 hkrl29 h
 refine kc h (fun h => ?_) fun h => ?_
 conv => whnf
 refine ⟨?_, ?_⟩
 conv => whnf
 exact ⟨false, l28, l29, _, _, LN, LN, LN, LN, sat_some h, rfl⟩
 conv => whnf
 exact ⟨false, l28, l29, _, _, LN, LN, LN, LN, sat_some h, rfl⟩
 conv => whnf
 refine ⟨?_, ?_⟩
 refine kc h (fun h => ?_) fun h => ?_
 conv => whnf
 exact ⟨false, l28, l29, _, _, LN, LN, LN, LN, sat_some h, rfl⟩
 conv => whnf
 exact ⟨true, l28, l29, _, _, LN, LN, LN, LN, sat_some h, rfl⟩
 refine kc h (fun h => ?_) fun h => ?_
 conv => whnf
 exact ⟨false, l28, l29, _, _, LN, LN, LN, LN, sat_some h, rfl⟩
 conv => whnf
 exact ⟨true, l28, l29, _, _, LN, LN, LN, LN, sat_some h, rfl⟩
 rintro _ ⟨q21, l22, l23, _, _, rfl, rfl, hkll22, hkll23, h, rfl⟩
 replace h := hrR26 _ h
 obtain ⟨R35, h, hlR35, hrR35⟩ := sat_sbind h
 refine kX (fun σ => ∃ (q33 : Bool) (v34 : Int), R35 (.inr (q33, v34)) ∧ σ = ⟨[(0, pX 0), (2, pS 2), (3, pS 3), (4, bD q33)], [(.x 0, some (.var [.str s1, ci v34, .osl (.x 1) 0 l22.length, .osl (.x 2) 0 l23.length, .bool q3, .int .u64 v4, .int .u64 v5, .int .u64 v6, .int .u64 v7, .int .u64 v8, .int .u64 v9, .int .u64 v10, .int .u64 v11, .bool q12])), (.s 2, some (.var [.int .u64 0, .int .u64 0, .int .u64 0, .int .u64 0])), (.s 3, some (.var [.int .u64 0, .int .u64 0, .int .u64 0, .int .u64 0])), (.x 1, some (.row false .set4 l22)), (.x 2, some (.row false .set4 l23))]⟩) ?_ ?_
 cases q21
 replace h := sat_cf h
 conv => whnf
 exact ⟨false, v2, sat_some h, rfl⟩
 replace h := sat_ct h
 conv => whnf
 exact ⟨true, (wrap .i64 (v2 + 1)), sat_some h, rfl⟩
 rintro _ ⟨q33, v34, h, rfl⟩
 replace h := hrR35 _ h
 obtain ⟨R466, h, hlR466, hrR466⟩ := sat_sbind h
 refine kX (fun σ => ∃ (v456 : Int) (q457 : Bool) (v458 : Int) (v459 : Int) (v460 : Int) (v461 : Int) (l462 : L4) (l463 : L4) (n464 : Nat) (n465 : Nat), n464 = l462.length ∧ n465 = l463.length ∧ l462.length = r13.length ∧ l463.length = r14.length ∧ R466 (.inr (v456, q457, v458, v459, v460, v461, l462, l463)) ∧ σ = ⟨[(0, pX 0), (2, pS 2), (3, pS 3), (4, bD q33)], [(.x 0, some (.var [.str s1, ci v456, .osl (.x 1) 0 n464, .osl (.x 2) 0 n465, .bool q3, .int .u64 v4, .int .u64 v5, .int .u64 v6, .int .u64 v7, .int .u64 v8, .int .u64 v9, .int .u64 v10, .int .u64 v11, .bool q457])), (.s 2, some (.var [.int .u64 0, .int .u64 0, .int .u64 0, .int .u64 0])), (.s 3, some (.var [.int .u64 v458, .int .u64 v459, .int .u64 v460, .int .u64 v461])), (.x 1, some (.row false .set4 l462)), (.x 2, some (.row false .set4 l463))]⟩) ?_ ?_
 refine kX (fun σ n => ∃ (f677 : Nat) (l678 : L4) (l679 : L4) (v680 : Int) (q681 : Bool) (v682 : Int) (v683 : Int) (v684 : Int) (v685 : Int) (n686 : Nat) (n687 : Nat), f677 = n ∧ n686 = l678.length ∧ n687 = l679.length ∧ l678.length = r13.length ∧ l679.length = r14.length ∧ sat (f177_bytes_L20 fuel s1 q3 v4 v5 v6 v7 v8 v9 v10 v11 f677 l678 l679 v680 q681 v682 v683 v684 v685) R466 ∧ σ.keep [0, 2, 3, 4] [(.x 0), (.s 2), (.s 3), (.x 1), (.x 2)] = ⟨[(0, pX 0), (2, pS 2), (3, pS 3), (4, bD q33)], [(.x 0, some (.var [.str s1, ci v680, .osl (.x 1) 0 n686, .osl (.x 2) 0 n687, .bool q3, .int .u64 v4, .int .u64 v5, .int .u64 v6, .int .u64 v7, .int .u64 v8, .int .u64 v9, .int .u64 v10, .int .u64 v11, .bool q681])), (.s 2, some (.var [.int .u64 0, .int .u64 0, .int .u64 0, .int .u64 0])), (.s 3, some (.var [.int .u64 v682, .int .u64 v683, .int .u64 v684, .int .u64 v685])), (.x 1, some (.row false .set4 l678)), (.x 2, some (.row false .set4 l679))]⟩) ⟨_, _, l22, l23, v34, q12, (0 : Int), (0 : Int), (0 : Int), (0 : Int), _, _, rfl, LN, LN, LN, LN, h, rfl⟩ ?_
 rintro σ n ⟨f677, l678, l679, v680, q681, v682, v683, v684, v685, _, _, rfl, rfl, rfl, hkll678, hkll679, h, hσ⟩
 refine kk hσ ?_
 rcases f677 with _ | g676
 rw [f177_bytes_L20] at h; exact nn h
 rw [f177_bytes_L20] at h
 refine kL [(.x 0), (.x 1), (.x 2)] (h156b_more _ _ _ _ _ _ _ _ _ _ _ _ _ _ _ LN _ LN _ _ ?_ (sat_bind h))
 rintro q688 l689 l690 q691 _ rfl _ rfl hkrl689 hkrl690 h
 cases q688
 replace h := sat_cf h
 conv => whnf
 exact ⟨v680, q691, v682, v683, v684, v685, l689, l690, _, _, LN, LN, LN, LN, sat_some h, rfl⟩
 replace h := sat_ct h
 refine kL [(.x 0), (.x 1), (.x 2)] (h157b_peek _ _ _ _ _ _ _ _ _ _ _ _ _ _ _ LN _ LN _ _ ?_ (sat_bind h))
 rintro v692 l693 l694 _ rfl _ rfl hkrl693 hkrl694 h
 refine kc h (fun h => ?_) fun h => ?_
 conv => whnf
 exact ⟨v680, q691, v682, v683, v684, v685, l693, l694, _, _, LN, LN, LN, LN, sat_some h, rfl⟩
 obtain ⟨R796, h, hlR796, hrR796⟩ := sat_sbind h
 refine kX (fun σ => ∃ (v786 : Int) (q787 : Bool) (v788 : Int) (v789 : Int) (v790 : Int) (v791 : Int) (l792 : L4) (l793 : L4) (n794 : Nat) (n795 : Nat), n794 = l792.length ∧ n795 = l793.length ∧ l792.length = r13.length ∧ l793.length = r14.length ∧ R796 (.inr (v786, q787, v788, v789, v790, v791, l792, l793)) ∧ σ = ⟨[(0, pX 0), (2, pS 2), (3, pS 3), (4, bD q33)], [(.x 0, some (.var [.str s1, ci v786, .osl (.x 1) 0 n794, .osl (.x 2) 0 n795, .bool q3, .int .u64 v4, .int .u64 v5, .int .u64 v6, .int .u64 v7, .int .u64 v8, .int .u64 v9, .int .u64 v10, .int .u64 v11, .bool q787])), (.s 2, some (.var [.int .u64 0, .int .u64 0, .int .u64 0, .int .u64 0])), (.s 3, some (.var [.int .u64 v788, .int .u64 v789, .int .u64 v790, .int .u64 v791])), (.x 1, some (.row false .set4 l792)), (.x 2, some (.row false .set4 l793))]⟩) ?_ ?_
 refine kL [(.x 0), (.x 1), (.x 2)] (h180_single _ _ _ _ _ _ _ _ _ _ _ _ _ _ _ LN _ LN _ _ ?_ (sat_bind h))
 rintro v797 v798 l799 l800 q801 _ rfl _ rfl hkrl799 hkrl800 h
 obtain ⟨R822, h, hlR822, hrR822⟩ := sat_sbind h
 refine kX (fun σ => ∃ (v815 : Int) (v816 : Int) (q817 : Bool) (l818 : L4) (l819 : L4) (n820 : Nat) (n821 : Nat), n820 = l818.length ∧ n821 = l819.length ∧ l818.length = r13.length ∧ l819.length = r14.length ∧ R822 (.inr (v815, v816, q817, l818, l819)) ∧ σ = ⟨[(0, pX 0), (2, pS 2), (3, pS 3), (4, bD q33), (5, .c (.int .u8 v797)), (6, .c (.int .u8 v815))], [(.x 0, some (.var [.str s1, ci v816, .osl (.x 1) 0 n820, .osl (.x 2) 0 n821, .bool q3, .int .u64 v4, .int .u64 v5, .int .u64 v6, .int .u64 v7, .int .u64 v8, .int .u64 v9, .int .u64 v10, .int .u64 v11, .bool q817])), (.s 2, some (.var [.int .u64 0, .int .u64 0, .int .u64 0, .int .u64 0])), (.s 3, some (.var [.int .u64 v682, .int .u64 v683, .int .u64 v684, .int .u64 v685])), (.x 1, some (.row false .set4 l818)), (.x 2, some (.row false .set4 l819))]⟩) ?_ ?_
 refine kL [(.x 0), (.x 1), (.x 2)] (h156b_more _ _ _ _ _ _ _ _ _ _ _ _ _ _ _ LN _ LN _ _ ?_ (sat_bind h))
 rintro q823 l824 l825 q826 _ rfl _ rfl hkrl824 hkrl825 h
 cases q823
 replace h := sat_cf h
 conv => whnf
 exact ⟨v797, v798, q826, l824, l825, _, _, LN, LN, LN, LN, sat_some h, rfl⟩
 replace h := sat_ct h
 refine kL [(.x 0), (.x 1), (.x 2)] (h157b_peek _ _ _ _ _ _ _ _ _ _ _ _ _ _ _ LN _ LN _ _ ?_ (sat_bind h))
 rintro v827 l828 l829 _ rfl _ rfl hkrl828 hkrl829 h
 refine kc h (fun h => ?_) fun h => ?_
 conv => whnf
 exact ⟨v797, v798, q826, l828, l829, _, _, LN, LN, LN, LN, sat_some h, rfl⟩
 refine kL [(.x 0), (.x 1), (.x 2)] (h180_single _ _ _ _ _ _ _ _ _ _ _ _ _ _ _ LN _ LN _ _ ?_ (sat_bind h))
 rintro v831 v832 l833 l834 q835 _ rfl _ rfl hkrl833 hkrl834 h
 conv => whnf
 exact ⟨v831, v832, q835, l833, l834, _, _, LN, LN, LN, LN, sat_some h, rfl⟩
 rintro _ ⟨v815, v816, q817, l818, l819, _, _, rfl, rfl, hkll818, hkll819, h, rfl⟩
 replace h := hrR822 _ h
 cases q817
 replace h := sat_cf h
 refine kc h (fun h => ?_) fun h => ?_
 refine kX (fun σ n => ∃ (f848 : Nat) (v849 : Int) (v850 : Int) (v851 : Int) (v852 : Int) (v853 : Int), f848 = n ∧ sat (f177_bytes_L24 v815 v816 l818 l819 f848 v849 v850 v851 v852 v853) R796 ∧ σ.keep [0, 2, 3, 4, 6, 7] [(.x 0), (.s 2), (.s 3), (.x 1), (.x 2)] = ⟨[(0, pX 0), (2, pS 2), (3, pS 3), (4, bD q33), (6, .c (.int .u8 v815)), (7, iD v849)], [(.x 0, some (.var [.str s1, ci v816, .osl (.x 1) 0 l818.length, .osl (.x 2) 0 l819.length, .bool q3, .int .u64 v4, .int .u64 v5, .int .u64 v6, .int .u64 v7, .int .u64 v8, .int .u64 v9, .int .u64 v10, .int .u64 v11, .bool false])), (.s 2, some (.var [.int .u64 0, .int .u64 0, .int .u64 0, .int .u64 0])), (.s 3, some (.var [.int .u64 v850, .int .u64 v851, .int .u64 v852, .int .u64 v853])), (.x 1, some (.row false .set4 l818)), (.x 2, some (.row false .set4 l819))]⟩) ⟨_, _, (wrap .i64 v797), v682, v683, v684, v685, rfl, h, rfl⟩ ?_
 rintro σ n ⟨f848, v849, v850, v851, v852, v853, rfl, h, hσ⟩
 refine kk hσ ?_
 rcases f848 with _ | g847
 rw [f177_bytes_L24] at h; exact nn h
 rw [f177_bytes_L24] at h
 refine kc h (fun h => ?_) fun h => ?_
 conv => whnf
 exact ⟨v816, false, v850, v851, v852, v853, l818, l819, _, _, LN, LN, LN, LN, sat_some h, rfl⟩
 refine kL [(.s 3)] (h178_add _ _ _ _ _ _ _ ?_ (sat_bind h))
 rintro v855 v856 v857 v858 h
 conv => whnf
 exact ⟨g847, nls, g847, (wrap .i64 (v849 + 1)), v855, v856, v857, v858, rfl, h, rfl⟩
 refine kX (fun σ n => ∃ (f866 : Nat) (v867 : Int) (v868 : Int) (v869 : Int) (v870 : Int) (v871 : Int), f866 = n ∧ sat (f177_bytes_L25 v815 v816 l818 l819 f866 v867 v868 v869 v870 v871) R796 ∧ σ.keep [0, 2, 3, 4, 6, 7] [(.x 0), (.s 2), (.s 3), (.x 1), (.x 2)] = ⟨[(0, pX 0), (2, pS 2), (3, pS 3), (4, bD q33), (6, .c (.int .u8 v815)), (7, iD v867)], [(.x 0, some (.var [.str s1, ci v816, .osl (.x 1) 0 l818.length, .osl (.x 2) 0 l819.length, .bool q3, .int .u64 v4, .int .u64 v5, .int .u64 v6, .int .u64 v7, .int .u64 v8, .int .u64 v9, .int .u64 v10, .int .u64 v11, .bool true])), (.s 2, some (.var [.int .u64 0, .int .u64 0, .int .u64 0, .int .u64 0])), (.s 3, some (.var [.int .u64 v868, .int .u64 v869, .int .u64 v870, .int .u64 v871])), (.x 1, some (.row false .set4 l818)), (.x 2, some (.row false .set4 l819))]⟩) ⟨_, _, (wrap .i64 v797), v682, v683, v684, v685, rfl, h, rfl⟩ ?_
 rintro σ n ⟨f866, v867, v868, v869, v870, v871, rfl, h, hσ⟩
 refine kk hσ ?_
 rcases f866 with _ | g865
 rw [f177_bytes_L25] at h; exact nn h
 rw [f177_bytes_L25] at h
 refine kc h (fun h => ?_) fun h => ?_
 conv => whnf
 exact ⟨v816, true, v868, v869, v870, v871, l818, l819, _, _, LN, LN, LN, LN, sat_some h, rfl⟩
 conv => whnf
 exact ⟨v816, true, v868, v869, v870, v871, l818, l819, _, _, LN, LN, LN, LN, sat_some h, rfl⟩
 replace h := sat_ct h
 refine kX (fun σ n => ∃ (f880 : Nat) (v881 : Int) (v882 : Int) (v883 : Int) (v884 : Int) (v885 : Int), f880 = n ∧ sat (f177_bytes_L26 v815 v816 l818 l819 f880 v881 v882 v883 v884 v885) R796 ∧ σ.keep [0, 2, 3, 4, 6, 7] [(.x 0), (.s 2), (.s 3), (.x 1), (.x 2)] = ⟨[(0, pX 0), (2, pS 2), (3, pS 3), (4, bD q33), (6, .c (.int .u8 v815)), (7, iD v881)], [(.x 0, some (.var [.str s1, ci v816, .osl (.x 1) 0 l818.length, .osl (.x 2) 0 l819.length, .bool q3, .int .u64 v4, .int .u64 v5, .int .u64 v6, .int .u64 v7, .int .u64 v8, .int .u64 v9, .int .u64 v10, .int .u64 v11, .bool true])), (.s 2, some (.var [.int .u64 0, .int .u64 0, .int .u64 0, .int .u64 0])), (.s 3, some (.var [.int .u64 v882, .int .u64 v883, .int .u64 v884, .int .u64 v885])), (.x 1, some (.row false .set4 l818)), (.x 2, some (.row false .set4 l819))]⟩) ⟨_, _, (wrap .i64 v797), v682, v683, v684, v685, rfl, h, rfl⟩ ?_
 rintro σ n ⟨f880, v881, v882, v883, v884, v885, rfl, h, hσ⟩
 refine kk hσ ?_
 rcases f880 with _ | g879
 rw [f177_bytes_L26] at h; exact nn h
 rw [f177_bytes_L26] at h
 refine kc h (fun h => ?_) fun h => ?_
 conv => whnf
 exact ⟨v816, true, v882, v883, v884, v885, l818, l819, _, _, LN, LN, LN, LN, sat_some h, rfl⟩
 conv => whnf
 exact ⟨v816, true, v882, v883, v884, v885, l818, l819, _, _, LN, LN, LN, LN, sat_some h, rfl⟩
 rintro _ ⟨v786, q787, v788, v789, v790, v791, l792, l793, _, _, rfl, rfl, hkll792, hkll793, h, rfl⟩
 replace h := hrR796 _ h
 conv => whnf
 exact ⟨g676, nls, g676, l792, l793, v786, q787, v788, v789, v790, v791, _, _, rfl, LN, LN, LN, LN, h, rfl⟩
 rintro _ ⟨v456, q457, v458, v459, v460, v461, l462, l463, _, _, rfl, rfl, hkll462, hkll463, h, rfl⟩
 replace h := hrR466 _ h
 cases q457
 replace h := sat_cf h
 refine kc h (fun h => ?_) fun h => ?_
 cases q33
 replace h := sat_cf h
 refine kc h (fun h => ?_) fun h => ?_
 exact kR [] (ND 3) (hQ _ _ _ _ _ _ _ _ _ LN _ LN LN LN (sat_some h))
 exact kR [] (ND 3) (hQ _ _ _ _ _ _ _ _ _ LN _ LN LN LN (sat_some h))
 replace h := sat_ct h
 refine kL [(.s 3)] (h176_turn _ _ _ _ _ _ ?_ (sat_bind h))
 rintro v889 v890 v891 v892 h
 refine kc h (fun h => ?_) fun h => ?_
 exact kR [] (ND 3) (hQ _ _ _ _ _ _ _ _ _ LN _ LN LN LN (sat_some h))
 exact kR [] (ND 3) (hQ _ _ _ _ _ _ _ _ _ LN _ LN LN LN (sat_some h))
 exact kR [] (ND 3) (hQ _ _ _ _ _ _ _ _ _ LN _ LN LN LN (sat_some h))
 replace h := sat_ct h
 exact kR [] (ND 3) (hQ _ _ _ _ _ _ _ _ _ LN _ LN LN LN (sat_some h))
theorem c177_bytes {P : Program} {fid : Nat → FuncId} (mx : MX P) (k177_bytes : KF P fid 177 j177_bytes) (h178_add : C178_add (SP P fid) f178_add) (h156b_more : C156b_more (SP P fid) f156b_more) (h157b_peek : C157b_peek (SP P fid) f157b_peek) (h180_single : C180_single (SP P fid) f180_single) (h176_turn : C176_turn (SP P fid) f176_turn) : ∀ n, C177_bytes (SP P fid) (f177_bytes n) :=
 fun n => fun a0 a1 a2 a3 a4 a5 a6 a7 a8 a9 a10 a11 a12 a13 n0 e0 n1 e1 Q R hQ h => spec_of_vc mx k177_bytes (w177_bytes n h178_add h156b_more h157b_peek h180_single h176_turn a0 a1 a2 a3 a4 a5 a6 a7 a8 a9 a10 a11 a12 a13 n0 e0 n1 e1 Q R hQ h)
def f140_has : Int → Int → Int → Int → Int → Option (Bool)
 | v1, v2, v3, v4, v5 => caseI (wrap .i64 (Int.tdiv v1 64)) [grdP (0 ≤ (Int.tmod v1 64)) (cond ((bAnd .u64 (bShr .u64 v2 (Int.tmod v1 64)) 1) == 1) (some true) (some false)), grdP (0 ≤ (Int.tmod v1 64)) (cond ((bAnd .u64 (bShr .u64 v3 (Int.tmod v1 64)) 1) == 1) (some true) (some false)), grdP (0 ≤ (Int.tmod v1 64)) (cond ((bAnd .u64 (bShr .u64 v4 (Int.tmod v1 64)) 1) == 1) (some true) (some false)), grdP (0 ≤ (Int.tmod v1 64)) (cond ((bAnd .u64 (bShr .u64 v5 (Int.tmod v1 64)) 1) == 1) (some true) (some false))]
def C140_has (O : Oracle TT) (m : Int → Int → Int → Int → Int → Option (Bool)) : Prop :=
 ∀ (v1 : Int) (v2 : Int) (v3 : Int) (v4 : Int) (v5 : Int) (Q : Bool → Prop) (R : RR) (_ : ∀ (q15 : Bool), Q q15 → R (bD q15) [(.x 0, some (.var [.int .u64 v2, .int .u64 v3, .int .u64 v4, .int .u64 v5]))]) (_ : sat (m v1 v2 v3 v4 v5) Q), O 140 [pX 0, iD v1] [(.x 0, some (.var [.int .u64 v2, .int .u64 v3, .int .u64 v4, .int .u64 v5]))] R
def j140_has : Fn TT := ⟨16, [.t 4], (.seq (.reg [qo 4 (.mv bF)]) (.seq (.reg [qo 5 (.mv 0),qo 6 (.mv 1),qo 7 (.bin .quo .num 6 (iC 64)),qo 8 (.nilck 5),qo 9 (.idxC 8 7 1 4),qo 10 (.load 9 1 false),qo 11 (.mv 1),qo 12 (.bin .rem .num 11 (iC 64)),qo 13 (.bin .shr .num 10 12),qo 14 (.bin .and .num 13 (.c (.int .u64 1))),qo 15 (.bin .eql .num 14 (.c (.int .u64 1))),qo 4 (.mv 15)]) .ret))⟩
theorem w140_has {O : Oracle TT} : C140_has (fun _ => vcF (S := SS) O j140_has) f140_has := by
 intro v1 v2 v3 v4 v5 Q R hQ h
 unfold f140_has at h
 refine ⟨nle rfl, rfl, ?_⟩
 conv => whnf
 refine ⟨by decide, ?_⟩
 conv => whnf
 obtain ⟨hbj6, h⟩ := sat_caseI h
 refine ⟨hbj6, fun j6 hj6 => ?_⟩
 replace h := h j6 hj6
 replace hbj6 : (0 : Int) ≤ (wrap .i64 (Int.tdiv v1 64)) ∧ (wrap .i64 (Int.tdiv v1 64)) < 4 := hbj6
 have hcj6 : j6 = 0 ∨ j6 = 1 ∨ j6 = 2 ∨ j6 = 3 := by omega
 rcases hcj6 with rfl | rfl | rfl | rfl
 replace h := sat_j0 h
 conv => whnf
 refine ⟨by decide, ?_⟩
 refine kp h fun hb8 h => ?_
 refine kc h (fun h => ?_) fun h => ?_
 exact kR [] (ND 1) (hQ _ (sat_some h))
 exact kR [] (ND 1) (hQ _ (sat_some h))
 replace h := sat_j1 h
 conv => whnf
 refine ⟨by decide, ?_⟩
 refine kp h fun hb10 h => ?_
 refine kc h (fun h => ?_) fun h => ?_
 exact kR [] (ND 1) (hQ _ (sat_some h))
 exact kR [] (ND 1) (hQ _ (sat_some h))
 replace h := sat_j2 h
 conv => whnf
 refine ⟨by decide, ?_⟩
 refine kp h fun hb12 h => ?_
 refine kc h (fun h => ?_) fun h => ?_
 exact kR [] (ND 1) (hQ _ (sat_some h))
 exact kR [] (ND 1) (hQ _ (sat_some h))
 replace h := sat_j3 h
 conv => whnf
 refine ⟨by decide, ?_⟩
 refine kp h fun hb14 h => ?_
 refine kc h (fun h => ?_) fun h => ?_
 exact kR [] (ND 1) (hQ _ (sat_some h))
 exact kR [] (ND 1) (hQ _ (sat_some h))
theorem c140_has {P : Program} {fid : Nat → FuncId} (mx : MX P) (k140_has : KF P fid 140 j140_has) : C140_has (SP P fid) f140_has :=
 fun a0 a1 a2 a3 a4 Q R hQ h => spec_of_vc mx k140_has (w140_has a0 a1 a2 a3 a4 Q R hQ h)
def f141_join_L1 (e1 : Nat) (w2 : Int) (w3 : Int) (w4 : Int) (w5 : Int) : Nat → Int → L4 → Option (L4)
 | 0, v61, l65 => some l65
 | g63 + 1, v61, l65 => caseI v61 [getN l65 e1 fun uu72 => match uu72 with | (w68, w69, w70, w71) => getN l65 e1 fun uu79 => match uu79 with | (w75, w76, w77, w78) => f141_join_L1 e1 w2 w3 w4 w5 g63 (v61 + 1) (l65.set e1 ((bOr .u64 w68 w2), w76, w77, w78)), getN l65 e1 fun uu84 => match uu84 with | (w80, w81, w82, w83) => getN l65 e1 fun uu91 => match uu91 with | (w87, w88, w89, w90) => f141_join_L1 e1 w2 w3 w4 w5 g63 (v61 + 1) (l65.set e1 (w87, (bOr .u64 w81 w3), w89, w90)), getN l65 e1 fun uu96 => match uu96 with | (w92, w93, w94, w95) => getN l65 e1 fun uu103 => match uu103 with | (w99, w100, w101, w102) => f141_join_L1 e1 w2 w3 w4 w5 g63 (v61 + 1) (l65.set e1 (w99, w100, (bOr .u64 w94 w4), w102)), getN l65 e1 fun uu108 => match uu108 with | (w104, w105, w106, w107) => getN l65 e1 fun uu115 => match uu115 with | (w111, w112, w113, w114) => f141_join_L1 e1 w2 w3 w4 w5 g63 (v61 + 1) (l65.set e1 (w111, w112, w113, (bOr .u64 w107 w5)))]
def f141_join : Nat → N4 → L4 → Option (L4)
 | e1, (w2, w3, w4, w5), r6 => grdP ((4 : Int) ≤ 9223372036854775807) (f141_join_L1 e1 w2 w3 w4 w5 ((4 : Int) - 0).toNat 0 r6)
def C141_join (O : Oracle TT) (m : Nat → N4 → L4 → Option (L4)) : Prop :=
 ∀ (e1 : Nat) (w2 : Int) (w3 : Int) (w4 : Int) (w5 : Int) (r6 : L4) (Q : L4 → Prop) (R : RR) (_ : ∀ (l116 : L4) (_ : l116.length = r6.length), Q l116 → R (.tup []) [(.x 0, some (.row false .set4 l116))]) (_ : sat (m e1 (w2, w3, w4, w5) r6) Q), O 141 [.c (.ptr (.x 0) e1 0), .agg [.int .u64 w2, .int .u64 w3, .int .u64 w4, .int .u64 w5]] [(.x 0, some (.row false .set4 r6))] R
def j141_join : Fn TT := ⟨20, [], (.seq (.reg [qo 3 (.box 3 1)]) (.seq (.reg [qo 5 (.mv (iC 0))]) (.block 0 (.loop (.keep [0, 3, 5] [(.x 0), (.s 3)] (.aft (.seq (.reg [qo 6 (.bin .lss .num 5 (iC 4))]) (.seq (.cond 6 .skip (.exit 0)) (.seq (.block 1 (.seq (.reg [qo 7 (.mv 5),qo 4 (.mv 7)]) (.drw [] (oR 12) [11] (List.range 11) [qo 8 (.mv 0),qo 9 (.mv 4),qo 10 (.nilck 8),qo 11 (.idxC 10 9 1 4),
 qo 12 (.load 11 1 false),qo 13 (.mv 4),qo 14 (.idxC 3 13 1 4),qo 15 (.load 14 1 false),qo 16 (.bin .or .num 12 15),qo 17 (.nilck 8),qo 18 (.idxC 17 9 1 4),qp (.store 18 16 1)]))) (.reg [qo 19 (.bin .add .num 5 (iC 1)),qo 5 (.mv 19)])))) [.keep [0, 3, 5] [(.x 0), (.s 3)]]))))))⟩
theorem w141_join {O : Oracle TT} : C141_join (fun _ => vcF (S := SS) O j141_join) f141_join := by
 intro e1 w2 w3 w4 w5 r6 Q R hQ h
 unfold f141_join at h
 refine ⟨nle rfl, rfl, ?_⟩
 obtain ⟨hN64, h⟩ := sat_grdP h
 refine kX (fun σ n => ∃ (f62 : Nat) (v61 : Int) (z : Int) (l65 : L4), f62 = n ∧ f62 = (4 - v61).toNat ∧ 0 ≤ v61 ∧ v61 = z ∧ l65.length = r6.length ∧ sat (f141_join_L1 e1 w2 w3 w4 w5 f62 v61 l65) Q ∧ σ.keep [0, 3, 5] [(.x 0), (.s 3)] = ⟨[(0, .c (.ptr (.x 0) e1 0)), (3, pS 3), (5, iD z)], [(.x 0, some (.row false .set4 l65)), (.s 3, some (.var [.int .u64 w2, .int .u64 w3, .int .u64 w4, .int .u64 w5]))]⟩) ⟨_, _, 0, _, r6, rfl, rfl, (by decide), rfl, LN, h, rfl⟩ ?_
 rintro σ n ⟨f62, v61, _, l65, rfl, hf62, hpf62, rfl, hkll65, h, hσ⟩
 refine kk hσ ?_
 intro t66 (ht66 : t66 = decide (v61 < 4))
 cases t66
 obtain rfl := il_nil hf62 ht66
 rw [f141_join_L1] at h
 exact kR [] (ND 1) (hQ _ LN (sat_some h))
 obtain ⟨g63, rfl, hwg63, hpg63, hfg63⟩ := il_cons hf62 hpf62 ht66 hN64
 rw [f141_join_L1] at h
 conv => whnf
 obtain ⟨hbj67, h⟩ := sat_caseI h
 refine ⟨hbj67, fun j67 hj67 => ?_⟩
 replace h := h j67 hj67
 replace hbj67 : (0 : Int) ≤ v61 ∧ v61 < 4 := hbj67
 have hcj67 : j67 = 0 ∨ j67 = 1 ∨ j67 = 2 ∨ j67 = 3 := by omega
 rcases hcj67 with rfl | rfl | rfl | rfl
 replace h := sat_j0 h
 refine kg (sat_getN h) fun uu72 huu72 h => ?_
 obtain ⟨w68, w69, w70, w71⟩ := uu72
 conv => whnf
 refine ⟨⟨by omega, by omega⟩, fun j73 hj73 => ?_⟩
 obtain rfl : j73 = 0 := by omega
 conv => whnf
 refine ⟨⟨by omega, by omega⟩, fun j74 hj74 => ?_⟩
 obtain rfl : j74 = 0 := by omega
 refine kg (sat_getN h) fun uu79 huu79 h => ?_
 obtain ⟨w75, w76, w77, w78⟩ := uu79
 refine ⟨((bOr .u64 w68 w2), w76, w77, w78), rfl, ?_⟩
 conv => whnf
 exact ⟨g63, nls, g63, v61 + 1, _, (l65.set e1 ((bOr .u64 w68 w2), w76, w77, w78)), rfl, hfg63, hpg63, hwg63.symm, LN, h, rfl⟩
 replace h := sat_j1 h
 refine kg (sat_getN h) fun uu84 huu84 h => ?_
 obtain ⟨w80, w81, w82, w83⟩ := uu84
 conv => whnf
 refine ⟨⟨by omega, by omega⟩, fun j85 hj85 => ?_⟩
 obtain rfl : j85 = 1 := by omega
 conv => whnf
 refine ⟨⟨by omega, by omega⟩, fun j86 hj86 => ?_⟩
 obtain rfl : j86 = 1 := by omega
 refine kg (sat_getN h) fun uu91 huu91 h => ?_
 obtain ⟨w87, w88, w89, w90⟩ := uu91
 refine ⟨(w87, (bOr .u64 w81 w3), w89, w90), rfl, ?_⟩
 conv => whnf
 exact ⟨g63, nls, g63, v61 + 1, _, (l65.set e1 (w87, (bOr .u64 w81 w3), w89, w90)), rfl, hfg63, hpg63, hwg63.symm, LN, h, rfl⟩
 replace h := sat_j2 h
 refine kg (sat_getN h) fun uu96 huu96 h => ?_
 obtain ⟨w92, w93, w94, w95⟩ := uu96
 conv => whnf
 refine ⟨⟨by omega, by omega⟩, fun j97 hj97 => ?_⟩
 obtain rfl : j97 = 2 := by omega
 conv => whnf
 refine ⟨⟨by omega, by omega⟩, fun j98 hj98 => ?_⟩
 obtain rfl : j98 = 2 := by omega
 refine kg (sat_getN h) fun uu103 huu103 h => ?_
 obtain ⟨w99, w100, w101, w102⟩ := uu103
 refine ⟨(w99, w100, (bOr .u64 w94 w4), w102), rfl, ?_⟩
 conv => whnf
 exact ⟨g63, nls, g63, v61 + 1, _, (l65.set e1 (w99, w100, (bOr .u64 w94 w4), w102)), rfl, hfg63, hpg63, hwg63.symm, LN, h, rfl⟩
 replace h := sat_j3 h
 refine kg (sat_getN h) fun uu108 huu108 h => ?_
 obtain ⟨w104, w105, w106, w107⟩ := uu108
 conv => whnf
 refine ⟨⟨by omega, by omega⟩, fun j109 hj109 => ?_⟩
 obtain rfl : j109 = 3 := by omega
 conv => whnf
 refine ⟨⟨by omega, by omega⟩, fun j110 hj110 => ?_⟩
 obtain rfl : j110 = 3 := by omega
 refine kg (sat_getN h) fun uu115 huu115 h => ?_
 obtain ⟨w111, w112, w113, w114⟩ := uu115
 refine ⟨(w111, w112, w113, (bOr .u64 w107 w5)), rfl, ?_⟩
 conv => whnf
 exact ⟨g63, nls, g63, v61 + 1, _, (l65.set e1 (w111, w112, w113, (bOr .u64 w107 w5))), rfl, hfg63, hpg63, hwg63.symm, LN, h, rfl⟩
theorem c141_join {P : Program} {fid : Nat → FuncId} (mx : MX P) (k141_join : KF P fid 141 j141_join) : C141_join (SP P fid) f141_join :=
 fun a0 a1 a2 a3 a4 a5 Q R hQ h => spec_of_vc mx k141_join (w141_join a0 a1 a2 a3 a4 a5 Q R hQ h)
def f169_link_L1 (w1 : Int) (w2 : Int) (w3 : Int) (w4 : Int) (w5 : Int) (w6 : Int) (w7 : Int) (w8 : Int) (r21 : L4) : Nat → Int → L4 → Option (L4 × L4)
 | 0, v33, l37 => some (r21, l37)
 | g35 + 1, v33, l37 => (f140_has v33 w1 w2 w3 w4).bind fun q40 => cond q40 (grdP ((0 : Int) ≤ v33 ∧ v33 < ((l37.length : Nat) : Int)) ((f141_join (0 + v33.toNat) (w5, w6, w7, w8) l37).bind fun l42 => f169_link_L1 w1 w2 w3 w4 w5 w6 w7 w8 r21 g35 (v33 + 1) l42)) (f169_link_L1 w1 w2 w3 w4 w5 w6 w7 w8 r21 g35 (v33 + 1) l37)
def f169_link : N4 → N4 → BA → Int → Bool → Int → Int → Int → Int → Int → Int → Int → Int → Bool → L4 → L4 → Option (L4 × L4)
 | (w1, w2, w3, w4), (w5, w6, w7, w8), s9, v10, q11, v12, v13, v14, v15, v16, v17, v18, v19, q20, r21, r22 => grdP (((r22.length : Nat) : Int) ≤ 9223372036854775807) (f169_link_L1 w1 w2 w3 w4 w5 w6 w7 w8 r21 (((r22.length : Nat) : Int) - 0).toNat 0 r22)
def C169_link (O : Oracle TT) (m : N4 → N4 → BA → Int → Bool → Int → Int → Int → Int → Int → Int → Int → Int → Bool → L4 → L4 → Option (L4 × L4)) : Prop :=
 ∀ (w1 : Int) (w2 : Int) (w3 : Int) (w4 : Int) (w5 : Int) (w6 : Int) (w7 : Int) (w8 : Int) (s9 : BA) (v10 : Int) (q11 : Bool) (v12 : Int) (v13 : Int) (v14 : Int) (v15 : Int) (v16 : Int) (v17 : Int) (v18 : Int) (v19 : Int) (q20 : Bool) (r21 : L4) (r22 : L4) (n0 : Nat) (en0 : n0 = r21.length) (n1 : Nat) (en1 : n1 = r22.length) (Q : (L4 × L4) → Prop) (R : RR) (_ : ∀ (l43 : L4) (l44 : L4) (n0r : Nat) (_ : n0r = l43.length) (n1r : Nat) (_ : n1r = l44.length) (_ : l43.length = r21.length) (_ : l44.length = r22.length), Q (l43, l44) → R (.tup []) [(.x 0, some (.var [.str s9, ci v10, .osl (.x 1) 0 n0r, .osl (.x 2) 0 n1r, .bool q11, .int .u64 v12, .int .u64 v13, .int .u64 v14, .int .u64 v15, .int .u64 v16, .int .u64 v17, .int .u64 v18, .int .u64 v19, .bool q20])), (.x 1, some (.row false .set4 l43)), (.x 2, some (.row false .set4 l44))]) (_ : sat (m (w1, w2, w3, w4) (w5, w6, w7, w8) s9 v10 q11 v12 v13 v14 v15 v16 v17 v18 v19 q20 r21 r22) Q), O 169 [pX 0, .agg [.int .u64 w1, .int .u64 w2, .int .u64 w3, .int .u64 w4], .agg [.int .u64 w5, .int .u64 w6, .int .u64 w7, .int .u64 w8]] [(.x 0, some (.var [.str s9, ci v10, .osl (.x 1) 0 n0, .osl (.x 2) 0 n1, .bool q11, .int .u64 v12, .int .u64 v13, .int .u64 v14, .int .u64 v15, .int .u64 v16, .int .u64 v17, .int .u64 v18, .int .u64 v19, .bool q20])), (.x 1, some (.row false .set4 r21)), (.x 2, some (.row false .set4 r22))] R
def j169_link : Fn TT := ⟨28, [], (.seq (.reg [qo 4 (.box 4 1),qo 5 (.box 5 2)]) (.seq (.reg [qo 7 (.mv 0),qo 8 (.nilck 7),qo 9 (.fa 8 2),qo 10 (.fa 9 1),qo 11 (.load 10 1 false),qo 12 (.len false 11),qo 13 (.mv (iC 0))]) (.block 0 (.loop (.keep [0, 4, 5, 12, 13] [(.x 0), (.s 4), (.s 5), (.x 1), (.x 2)] (.aft (.seq (.reg [qo 14 (.bin .lss .num 13 12)]) (.seq (.cond 14 .skip (.exit 0)) (.seq
 (.block 1 (.seq (.reg [qo 15 (.mv 13),qo 6 (.mv 15)]) (.seq (.reg [qo 16 (.mv 6),qo 17 (.call 17 140 [4, 16])]) (.cond 17 (.drw [(.x 2)] (oR 9) [] (List.range 8) [qo 18 (.mv 0),qo 19 (.nilck 18),qo 20 (.fa 19 2),qo 21 (.fa 20 1),qo 22 (.load 21 1 false),qo 23 (.mv 6),qo 24 (.idxA 22 23 4),qo 25 (.load 5 4 true),qo 26 (.call 26 141 [24, 25])]) .skip))))
 (.reg [qo 27 (.bin .add .num 13 (iC 1)),qo 13 (.mv 27)])))) [.keep [0, 4, 5, 12, 13] [(.x 0), (.s 4), (.s 5), (.x 1), (.x 2)]]))))))⟩
theorem w169_link {O : Oracle TT} (h140_has : C140_has O f140_has) (h141_join : C141_join O f141_join) : C169_link (fun _ => vcF (S := SS) O j169_link) f169_link := by
 intro w1 w2 w3 w4 w5 w6 w7 w8 s9 v10 q11 v12 v13 v14 v15 v16 v17 v18 v19 q20 r21 r22 n0 en0 n1 en1 Q R hQ h
 subst en0
 subst en1
 unfold f169_link at h
 refine ⟨nle rfl, rfl, ?_⟩
 intro hl23
 obtain ⟨hN36, h⟩ := sat_grdP h
 refine kX (fun σ n => ∃ (f34 : Nat) (v33 : Int) (z : Int) (l37 : L4) (n38 : Nat), f34 = n ∧ f34 = (((r22.length : Nat) : Int) - v33).toNat ∧ 0 ≤ v33 ∧ v33 = z ∧ n38 = l37.length ∧ l37.length = r22.length ∧ sat (f169_link_L1 w1 w2 w3 w4 w5 w6 w7 w8 r21 f34 v33 l37) Q ∧ σ.keep [0, 4, 5, 12, 13] [(.x 0), (.s 4), (.s 5), (.x 1), (.x 2)] = ⟨[(0, pX 0), (4, pS 4), (5, pS 5), (12, iD ((r22.length : Nat) : Int)), (13, iD z)], [(.x 0, some (.var [.str s9, ci v10, .osl (.x 1) 0 r21.length, .osl (.x 2) 0 n38, .bool q11, .int .u64 v12, .int .u64 v13, .int .u64 v14, .int .u64 v15, .int .u64 v16, .int .u64 v17, .int .u64 v18, .int .u64 v19, .bool q20])), (.s 4, some (.var [.int .u64 w1, .int .u64 w2, .int .u64 w3, .int .u64 w4])), (.s 5, some (.var [.int .u64 w5, .int .u64 w6, .int .u64 w7, .int .u64 w8])), (.x 1, some (.row false .set4 r21)), (.x 2, some (.row false .set4 l37))]⟩) ⟨_, _, 0, _, r22, _, rfl, rfl, (by decide), rfl, LN, LN, h, rfl⟩ ?_
 rintro σ n ⟨f34, v33, _, l37, _, rfl, hf34, hpf34, rfl, rfl, hkll37, h, hσ⟩
 refine kk hσ ?_
 intro t39 (ht39 : t39 = decide (v33 < ((r22.length : Nat) : Int)))
 cases t39
 obtain rfl := il_nil hf34 ht39
 rw [f169_link_L1] at h
 exact kR [] (ND 3) (hQ _ _ _ LN _ LN LN LN (sat_some h))
 obtain ⟨g35, rfl, hwg35, hpg35, hfg35⟩ := il_cons hf34 hpf34 ht39 hN36
 rw [f169_link_L1] at h
 refine kL [(.s 4)] (h140_has _ _ _ _ _ _ _ ?_ (sat_bind h))
 rintro q40 h
 cases q40
 replace h := sat_cf h
 conv => whnf
 exact ⟨g35, nls, g35, v33 + 1, _, l37, _, rfl, hfg35, hpg35, hwg35.symm, LN, LN, h, rfl⟩
 replace h := sat_ct h
 refine kp h fun hb41 h => ?_
 refine kL [(.x 2)] (h141_join _ _ _ _ _ _ _ _ ?_ (sat_bind h))
 rintro l42 hkrl42 h
 conv => whnf
 exact ⟨g35, nls, g35, v33 + 1, _, l42, _, rfl, hfg35, hpg35, hwg35.symm, LN, LN, h, rfl⟩
theorem c169_link {P : Program} {fid : Nat → FuncId} (mx : MX P) (k169_link : KF P fid 169 j169_link) (h140_has : C140_has (SP P fid) f140_has) (h141_join : C141_join (SP P fid) f141_join) : C169_link (SP P fid) f169_link :=
 fun a0 a1 a2 a3 a4 a5 a6 a7 a8 a9 a10 a11 a12 a13 a14 a15 a16 a17 a18 a19 a20 a21 n0 e0 n1 e1 Q R hQ h => spec_of_vc mx k169_link (w169_link h140_has h141_join a0 a1 a2 a3 a4 a5 a6 a7 a8 a9 a10 a11 a12 a13 a14 a15 a16 a17 a18 a19 a20 a21 n0 e0 n1 e1 Q R hQ h)
def f141a_join_L1 (w1 : Int) (w2 : Int) (w3 : Int) (w4 : Int) : Nat → Int → Int → Int → Int → Int → Option N4
 | 0, v31, v35, v36, v37, v38 => some (v35, v36, v37, v38)
 | g33 + 1, v31, v35, v36, v37, v38 => caseI v31 [f141a_join_L1 w1 w2 w3 w4 g33 (v31 + 1) (bOr .u64 v35 w1) v36 v37 v38, f141a_join_L1 w1 w2 w3 w4 g33 (v31 + 1) v35 (bOr .u64 v36 w2) v37 v38, f141a_join_L1 w1 w2 w3 w4 g33 (v31 + 1) v35 v36 (bOr .u64 v37 w3) v38, f141a_join_L1 w1 w2 w3 w4 g33 (v31 + 1) v35 v36 v37 (bOr .u64 v38 w4)]
def f141a_join : N4 → Bool → Int → Int → Int → Int → Int → Int → Int → Int → Option N4
 | (w1, w2, w3, w4), q5, v6, v7, v8, v9, v10, v11, v12, v13 => grdP ((4 : Int) ≤ 9223372036854775807) (f141a_join_L1 w1 w2 w3 w4 ((4 : Int) - 0).toNat 0 v6 v7 v8 v9)
def C141a_join (O : Oracle TT) (m : N4 → Bool → Int → Int → Int → Int → Int → Int → Int → Int → Option N4) : Prop :=
 ∀ (w1 : Int) (w2 : Int) (w3 : Int) (w4 : Int) (q5 : Bool) (v6 : Int) (v7 : Int) (v8 : Int) (v9 : Int) (v10 : Int) (v11 : Int) (v12 : Int) (v13 : Int) (Q : N4 → Prop) (R : RR) (_ : ∀ (v49 : Int) (v50 : Int) (v51 : Int) (v52 : Int), Q (v49, v50, v51, v52) → R (.tup []) [(.x 0, some (.var [.bool q5, .int .u64 v49, .int .u64 v50, .int .u64 v51, .int .u64 v52, .int .u64 v10, .int .u64 v11, .int .u64 v12, .int .u64 v13]))]) (_ : sat (m (w1, w2, w3, w4) q5 v6 v7 v8 v9 v10 v11 v12 v13) Q), O 141 [.c (.ptr (.x 0) 0 1), .agg [.int .u64 w1, .int .u64 w2, .int .u64 w3, .int .u64 w4]] [(.x 0, some (.var [.bool q5, .int .u64 v6, .int .u64 v7, .int .u64 v8, .int .u64 v9, .int .u64 v10, .int .u64 v11, .int .u64 v12, .int .u64 v13]))] R
def j141a_join : Fn TT := ⟨20, [], (.seq (.reg [qo 3 (.box 3 1)]) (.seq (.reg [qo 5 (.mv (iC 0))]) (.block 0 (.loop (.keep [0, 3, 5] [(.x 0), (.s 3)] (.aft (.seq (.reg [qo 6 (.bin .lss .num 5 (iC 4))]) (.seq (.cond 6 .skip (.exit 0)) (.seq (.block 1 (.seq (.reg [qo 7 (.mv 5),qo 4 (.mv 7)]) (.drw [] (oR 12) [11] (List.range 11) [qo 8 (.mv 0),qo 9 (.mv 4),qo 10 (.nilck 8),qo 11 (.idxC 10 9 1 4),
 qo 12 (.load 11 1 false),qo 13 (.mv 4),qo 14 (.idxC 3 13 1 4),qo 15 (.load 14 1 false),qo 16 (.bin .or .num 12 15),qo 17 (.nilck 8),qo 18 (.idxC 17 9 1 4),qp (.store 18 16 1)]))) (.reg [qo 19 (.bin .add .num 5 (iC 1)),qo 5 (.mv 19)])))) [.keep [0, 3, 5] [(.x 0), (.s 3)]]))))))⟩
theorem w141a_join {O : Oracle TT} : C141a_join (fun _ => vcF (S := SS) O j141a_join) f141a_join := by
 intro w1 w2 w3 w4 q5 v6 v7 v8 v9 v10 v11 v12 v13 Q R hQ h
 unfold f141a_join at h
 refine ⟨nle rfl, rfl, ?_⟩
 obtain ⟨hN34, h⟩ := sat_grdP h
 refine kX (fun σ n => ∃ (f32 : Nat) (v31 : Int) (z : Int) (v35 : Int) (v36 : Int) (v37 : Int) (v38 : Int), f32 = n ∧ f32 = (4 - v31).toNat ∧ 0 ≤ v31 ∧ v31 = z ∧ sat (f141a_join_L1 w1 w2 w3 w4 f32 v31 v35 v36 v37 v38) Q ∧ σ.keep [0, 3, 5] [(.x 0), (.s 3)] = ⟨[(0, .c (.ptr (.x 0) 0 1)), (3, pS 3), (5, iD z)], [(.x 0, some (.var [.bool q5, .int .u64 v35, .int .u64 v36, .int .u64 v37, .int .u64 v38, .int .u64 v10, .int .u64 v11, .int .u64 v12, .int .u64 v13])), (.s 3, some (.var [.int .u64 w1, .int .u64 w2, .int .u64 w3, .int .u64 w4]))]⟩) ⟨_, _, 0, _, v6, v7, v8, v9, rfl, rfl, (by decide), rfl, h, rfl⟩ ?_
 rintro σ n ⟨f32, v31, _, v35, v36, v37, v38, rfl, hf32, hpf32, rfl, h, hσ⟩
 refine kk hσ ?_
 intro t39 (ht39 : t39 = decide (v31 < 4))
 cases t39
 obtain rfl := il_nil hf32 ht39
 rw [f141a_join_L1] at h
 exact kR [] (ND 1) (hQ _ _ _ _ (sat_some h))
 obtain ⟨g33, rfl, hwg33, hpg33, hfg33⟩ := il_cons hf32 hpf32 ht39 hN34
 rw [f141a_join_L1] at h
 conv => whnf
 obtain ⟨hbj40, h⟩ := sat_caseI h
 refine ⟨hbj40, fun j40 hj40 => ?_⟩
 replace h := h j40 hj40
 replace hbj40 : (0 : Int) ≤ v31 ∧ v31 < 4 := hbj40
 have hcj40 : j40 = 0 ∨ j40 = 1 ∨ j40 = 2 ∨ j40 = 3 := by omega
 rcases hcj40 with rfl | rfl | rfl | rfl
 replace h := sat_j0 h
 conv => whnf
 refine ⟨⟨by omega, by omega⟩, fun j41 hj41 => ?_⟩
 obtain rfl : j41 = 0 := by omega
 conv => whnf
 refine ⟨⟨by omega, by omega⟩, fun j42 hj42 => ?_⟩
 obtain rfl : j42 = 0 := by omega
 conv => whnf
 exact ⟨g33, nls, g33, v31 + 1, _, (bOr .u64 v35 w1), v36, v37, v38, rfl, hfg33, hpg33, hwg33.symm, h, rfl⟩
 replace h := sat_j1 h
 conv => whnf
 refine ⟨⟨by omega, by omega⟩, fun j43 hj43 => ?_⟩
 obtain rfl : j43 = 1 := by omega
 conv => whnf
 refine ⟨⟨by omega, by omega⟩, fun j44 hj44 => ?_⟩
 obtain rfl : j44 = 1 := by omega
 conv => whnf
 exact ⟨g33, nls, g33, v31 + 1, _, v35, (bOr .u64 v36 w2), v37, v38, rfl, hfg33, hpg33, hwg33.symm, h, rfl⟩
 replace h := sat_j2 h
 conv => whnf
 refine ⟨⟨by omega, by omega⟩, fun j45 hj45 => ?_⟩
 obtain rfl : j45 = 2 := by omega
 conv => whnf
 refine ⟨⟨by omega, by omega⟩, fun j46 hj46 => ?_⟩
 obtain rfl : j46 = 2 := by omega
 conv => whnf
 exact ⟨g33, nls, g33, v31 + 1, _, v35, v36, (bOr .u64 v37 w3), v38, rfl, hfg33, hpg33, hwg33.symm, h, rfl⟩
 replace h := sat_j3 h
 conv => whnf
 refine ⟨⟨by omega, by omega⟩, fun j47 hj47 => ?_⟩
 obtain rfl : j47 = 3 := by omega
 conv => whnf
 refine ⟨⟨by omega, by omega⟩, fun j48 hj48 => ?_⟩
 obtain rfl : j48 = 3 := by omega
 conv => whnf
 exact ⟨g33, nls, g33, v31 + 1, _, v35, v36, v37, (bOr .u64 v38 w4), rfl, hfg33, hpg33, hwg33.symm, h, rfl⟩
theorem c141a_join {P : Program} {fid : Nat → FuncId} (mx : MX P) (k141a_join : KF P fid 141 j141a_join) : C141a_join (SP P fid) f141a_join :=
 fun a0 a1 a2 a3 a4 a5 a6 a7 a8 a9 a10 a11 a12 Q R hQ h => spec_of_vc mx k141a_join (w141a_join a0 a1 a2 a3 a4 a5 a6 a7 a8 a9 a10 a11 a12 Q R hQ h)
def f141b_join_L1 (w1 : Int) (w2 : Int) (w3 : Int) (w4 : Int) : Nat → Int → Int → Int → Int → Int → Option N4
 | 0, v31, v35, v36, v37, v38 => some (v35, v36, v37, v38)
 | g33 + 1, v31, v35, v36, v37, v38 => caseI v31 [f141b_join_L1 w1 w2 w3 w4 g33 (v31 + 1) (bOr .u64 v35 w1) v36 v37 v38, f141b_join_L1 w1 w2 w3 w4 g33 (v31 + 1) v35 (bOr .u64 v36 w2) v37 v38, f141b_join_L1 w1 w2 w3 w4 g33 (v31 + 1) v35 v36 (bOr .u64 v37 w3) v38, f141b_join_L1 w1 w2 w3 w4 g33 (v31 + 1) v35 v36 v37 (bOr .u64 v38 w4)]
def f141b_join : N4 → Bool → Int → Int → Int → Int → Int → Int → Int → Int → Option N4
 | (w1, w2, w3, w4), q5, v6, v7, v8, v9, v10, v11, v12, v13 => grdP ((4 : Int) ≤ 9223372036854775807) (f141b_join_L1 w1 w2 w3 w4 ((4 : Int) - 0).toNat 0 v10 v11 v12 v13)
def C141b_join (O : Oracle TT) (m : N4 → Bool → Int → Int → Int → Int → Int → Int → Int → Int → Option N4) : Prop :=
 ∀ (w1 : Int) (w2 : Int) (w3 : Int) (w4 : Int) (q5 : Bool) (v6 : Int) (v7 : Int) (v8 : Int) (v9 : Int) (v10 : Int) (v11 : Int) (v12 : Int) (v13 : Int) (Q : N4 → Prop) (R : RR) (_ : ∀ (v49 : Int) (v50 : Int) (v51 : Int) (v52 : Int), Q (v49, v50, v51, v52) → R (.tup []) [(.x 0, some (.var [.bool q5, .int .u64 v6, .int .u64 v7, .int .u64 v8, .int .u64 v9, .int .u64 v49, .int .u64 v50, .int .u64 v51, .int .u64 v52]))]) (_ : sat (m (w1, w2, w3, w4) q5 v6 v7 v8 v9 v10 v11 v12 v13) Q), O 141 [.c (.ptr (.x 0) 0 5), .agg [.int .u64 w1, .int .u64 w2, .int .u64 w3, .int .u64 w4]] [(.x 0, some (.var [.bool q5, .int .u64 v6, .int .u64 v7, .int .u64 v8, .int .u64 v9, .int .u64 v10, .int .u64 v11, .int .u64 v12, .int .u64 v13]))] R
def j141b_join : Fn TT := ⟨20, [], (.seq (.reg [qo 3 (.box 3 1)]) (.seq (.reg [qo 5 (.mv (iC 0))]) (.block 0 (.loop (.keep [0, 3, 5] [(.x 0), (.s 3)] (.aft (.seq (.reg [qo 6 (.bin .lss .num 5 (iC 4))]) (.seq (.cond 6 .skip (.exit 0)) (.seq (.block 1 (.seq (.reg [qo 7 (.mv 5),qo 4 (.mv 7)]) (.drw [] (oR 12) [11] (List.range 11) [qo 8 (.mv 0),qo 9 (.mv 4),qo 10 (.nilck 8),qo 11 (.idxC 10 9 1 4),
 qo 12 (.load 11 1 false),qo 13 (.mv 4),qo 14 (.idxC 3 13 1 4),qo 15 (.load 14 1 false),qo 16 (.bin .or .num 12 15),qo 17 (.nilck 8),qo 18 (.idxC 17 9 1 4),qp (.store 18 16 1)]))) (.reg [qo 19 (.bin .add .num 5 (iC 1)),qo 5 (.mv 19)])))) [.keep [0, 3, 5] [(.x 0), (.s 3)]]))))))⟩
theorem w141b_join {O : Oracle TT} : C141b_join (fun _ => vcF (S := SS) O j141b_join) f141b_join := by
 intro w1 w2 w3 w4 q5 v6 v7 v8 v9 v10 v11 v12 v13 Q R hQ h
 unfold f141b_join at h
 refine ⟨nle rfl, rfl, ?_⟩
 obtain ⟨hN34, h⟩ := sat_grdP h
 refine kX (fun σ n => ∃ (f32 : Nat) (v31 : Int) (z : Int) (v35 : Int) (v36 : Int) (v37 : Int) (v38 : Int), f32 = n ∧ f32 = (4 - v31).toNat ∧ 0 ≤ v31 ∧ v31 = z ∧ sat (f141b_join_L1 w1 w2 w3 w4 f32 v31 v35 v36 v37 v38) Q ∧ σ.keep [0, 3, 5] [(.x 0), (.s 3)] = ⟨[(0, .c (.ptr (.x 0) 0 5)), (3, pS 3), (5, iD z)], [(.x 0, some (.var [.bool q5, .int .u64 v6, .int .u64 v7, .int .u64 v8, .int .u64 v9, .int .u64 v35, .int .u64 v36, .int .u64 v37, .int .u64 v38])), (.s 3, some (.var [.int .u64 w1, .int .u64 w2, .int .u64 w3, .int .u64 w4]))]⟩) ⟨_, _, 0, _, v10, v11, v12, v13, rfl, rfl, (by decide), rfl, h, rfl⟩ ?_
 rintro σ n ⟨f32, v31, _, v35, v36, v37, v38, rfl, hf32, hpf32, rfl, h, hσ⟩
 refine kk hσ ?_
 intro t39 (ht39 : t39 = decide (v31 < 4))
 cases t39
 obtain rfl := il_nil hf32 ht39
 rw [f141b_join_L1] at h
 exact kR [] (ND 1) (hQ _ _ _ _ (sat_some h))
 obtain ⟨g33, rfl, hwg33, hpg33, hfg33⟩ := il_cons hf32 hpf32 ht39 hN34
 rw [f141b_join_L1] at h
 conv => whnf
 obtain ⟨hbj40, h⟩ := sat_caseI h
 refine ⟨hbj40, fun j40 hj40 => ?_⟩
 replace h := h j40 hj40
 replace hbj40 : (0 : Int) ≤ v31 ∧ v31 < 4 := hbj40
 have hcj40 : j40 = 0 ∨ j40 = 1 ∨ j40 = 2 ∨ j40 = 3 := by omega
 rcases hcj40 with rfl | rfl | rfl | rfl
 replace h := sat_j0 h
 conv => whnf
 refine ⟨⟨by omega, by omega⟩, fun j41 hj41 => ?_⟩
 obtain rfl : j41 = 0 := by omega
 conv => whnf
 refine ⟨⟨by omega, by omega⟩, fun j42 hj42 => ?_⟩
 obtain rfl : j42 = 0 := by omega
 conv => whnf
 exact ⟨g33, nls, g33, v31 + 1, _, (bOr .u64 v35 w1), v36, v37, v38, rfl, hfg33, hpg33, hwg33.symm, h, rfl⟩
 replace h := sat_j1 h
 conv => whnf
 refine ⟨⟨by omega, by omega⟩, fun j43 hj43 => ?_⟩
 obtain rfl : j43 = 1 := by omega
 conv => whnf
 refine ⟨⟨by omega, by omega⟩, fun j44 hj44 => ?_⟩
 obtain rfl : j44 = 1 := by omega
 conv => whnf
 exact ⟨g33, nls, g33, v31 + 1, _, v35, (bOr .u64 v36 w2), v37, v38, rfl, hfg33, hpg33, hwg33.symm, h, rfl⟩
 replace h := sat_j2 h
 conv => whnf
 refine ⟨⟨by omega, by omega⟩, fun j45 hj45 => ?_⟩
 obtain rfl : j45 = 2 := by omega
 conv => whnf
 refine ⟨⟨by omega, by omega⟩, fun j46 hj46 => ?_⟩
 obtain rfl : j46 = 2 := by omega
 conv => whnf
 exact ⟨g33, nls, g33, v31 + 1, _, v35, v36, (bOr .u64 v37 w3), v38, rfl, hfg33, hpg33, hwg33.symm, h, rfl⟩
 replace h := sat_j3 h
 conv => whnf
 refine ⟨⟨by omega, by omega⟩, fun j47 hj47 => ?_⟩
 obtain rfl : j47 = 3 := by omega
 conv => whnf
 refine ⟨⟨by omega, by omega⟩, fun j48 hj48 => ?_⟩
 obtain rfl : j48 = 3 := by omega
 conv => whnf
 exact ⟨g33, nls, g33, v31 + 1, _, v35, v36, v37, (bOr .u64 v38 w4), rfl, hfg33, hpg33, hwg33.symm, h, rfl⟩
theorem c141b_join {P : Program} {fid : Nat → FuncId} (mx : MX P) (k141b_join : KF P fid 141 j141b_join) : C141b_join (SP P fid) f141b_join :=
 fun a0 a1 a2 a3 a4 a5 a6 a7 a8 a9 a10 a11 a12 Q R hQ h => spec_of_vc mx k141b_join (w141b_join a0 a1 a2 a3 a4 a5 a6 a7 a8 a9 a10 a11 a12 Q R hQ h)
def f138_alternatives_L2 (self155_sequence : BA → Int → Bool → Int → Int → Int → Int → Int → Int → Int → Int → Bool → L4 → L4 → Option (Bool × Int × Int × Int × Int × Int × Int × Int × Int × Int × L4 × L4 × Bool)) (s1 : BA) (q3 : Bool) (v4 : Int) (v5 : Int) (v6 : Int) (v7 : Int) (v8 : Int) (v9 : Int) (v10 : Int) (v11 : Int) : Nat → L4 → L4 → Int → Bool → Bool → Int → Int → Int → Int → Int → Int → Int → Int → Option (Sum (Bool × Int × Int × Int × Int × Int × Int × Int × Int × Int × L4 × L4 × Bool) (Bool × Int × Int × Int × Int × Int × Int × Int × Int × Int × Bool × L4 × L4))
 | 0, _, _, _, _, _, _, _, _, _, _, _, _, _ => none
 | g202 + 1, l204, l205, v206, q207, q208, v209, v210, v211, v212, v213, v214, v215, v216 => (f156b_more s1 v206 q3 v4 v5 v6 v7 v8 v9 v10 v11 q207 l204 l205).bind fun (q219, l220, l221, q222) => cond q219 ((f157b_peek s1 v206 q3 v4 v5 v6 v7 v8 v9 v10 v11 q222 l220 l221).bind fun (v223, l224, l225) => cond (v223 == 124) ((self155_sequence s1 (wrap .i64 (v206 + 1)) q3 v4 v5 v6 v7 v8 v9 v10 v11 q222 l224 l225).bind fun (q227, v228, v229, v230, v231, v232, v233, v234, v235, v236, l237, l238, q239) => cond q208 ((f141a_join (v228, v229, v230, v231) true v209 v210 v211 v212 v213 v214 v215 v216).bind fun (v248, v249, v250, v251) => (f141b_join (v232, v233, v234, v235) true v248 v249 v250 v251 v213 v214 v215 v216).bind fun (v252, v253, v254, v255) => f138_alternatives_L2 self155_sequence s1 q3 v4 v5 v6 v7 v8 v9 v10 v11 g202 l237 l238 v236 q239 true v248 v249 v250 v251 v252 v253 v254 v255) ((f141a_join (v228, v229, v230, v231) q227 v209 v210 v211 v212 v213 v214 v215 v216).bind fun (v240, v241, v242, v243) => (f141b_join (v232, v233, v234, v235) q227 v240 v241 v242 v243 v213 v214 v215 v216).bind fun (v244, v245, v246, v247) => f138_alternatives_L2 self155_sequence s1 q3 v4 v5 v6 v7 v8 v9 v10 v11 g202 l237 l238 v236 q239 q227 v240 v241 v242 v243 v244 v245 v246 v247)) (some (.inr (q208, v209, v210, v211, v212, v213, v214, v215, v216, v206, q222, l224, l225)))) (some (.inr (q208, v209, v210, v211, v212, v213, v214, v215, v216, v206, q222, l220, l221)))
def b138_alternatives (fuel : Nat) (self155_sequence : BA → Int → Bool → Int → Int → Int → Int → Int → Int → Int → Int → Bool → L4 → L4 → Option (Bool × Int × Int × Int × Int × Int × Int × Int × Int × Int × L4 × L4 × Bool)) : BA → Int → Bool → Int → Int → Int → Int → Int → Int → Int → Int → Bool → L4 → L4 → Option (Bool × Int × Int × Int × Int × Int × Int × Int × Int × Int × L4 × L4 × Bool)
 | s1, v2, q3, v4, v5, v6, v7, v8, v9, v10, v11, q12, r13, r14 => (self155_sequence s1 v2 q3 v4 v5 v6 v7 v8 v9 v10 v11 q12 r13 r14).bind fun (q15, v16, v17, v18, v19, v20, v21, v22, v23, v24, l25, l26, q27) => sbind (ο := Bool × Int × Int × Int × Int × Int × Int × Int × Int × Int × Bool × L4 × L4) (f138_alternatives_L2 self155_sequence s1 q3 v4 v5 v6 v7 v8 v9 v10 v11 fuel l25 l26 v24 q27 q15 v16 v17 v18 v19 v20 v21 v22 v23) (fun (q134, v135, v136, v137, v138, v139, v140, v141, v142, v143, q144, l145, l146) => some (q134, v135, v136, v137, v138, v139, v140, v141, v142, v143, l145, l146, q144))
def f155_sequence_L2 (self168_item : BA → Int → Bool → Int → Int → Int → Int → Int → Int → Int → Int → Bool → L4 → L4 → Option (Bool × Int × Int × Int × Int × Int × Int × Int × Int × Int × L4 × L4 × Bool)) (s1 : BA) (q3 : Bool) (v4 : Int) (v5 : Int) (v6 : Int) (v7 : Int) (v8 : Int) (v9 : Int) (v10 : Int) (v11 : Int) : Nat → L4 → L4 → Int → Bool → Bool → Int → Int → Int → Int → Int → Int → Int → Int → Option (Sum (Bool × Int × Int × Int × Int × Int × Int × Int × Int × Int × L4 × L4 × Bool) (Bool × Int × Int × Int × Int × Int × Int × Int × Int × Int × Bool × L4 × L4))
 | 0, _, _, _, _, _, _, _, _, _, _, _, _, _ => none
 | g231 + 1, l233, l234, v235, q236, q237, v238, v239, v240, v241, v242, v243, v244, v245 => (f156b_more s1 v235 q3 v4 v5 v6 v7 v8 v9 v10 v11 q236 l233 l234).bind fun (q248, l249, l250, q251) => cond q248 ((f157b_peek s1 v235 q3 v4 v5 v6 v7 v8 v9 v10 v11 q251 l249 l250).bind fun (v252, l253, l254) => cond (v252 != 124) ((f157b_peek s1 v235 q3 v4 v5 v6 v7 v8 v9 v10 v11 q251 l253 l254).bind fun (v256, l257, l258) => cond (v256 != 41) ((self168_item s1 v235 q3 v4 v5 v6 v7 v8 v9 v10 v11 q251 l257 l258).bind fun (q260, v261, v262, v263, v264, v265, v266, v267, v268, v269, l270, l271, q272) => (f169_link (v242, v243, v244, v245) (v261, v262, v263, v264) s1 v269 q3 v4 v5 v6 v7 v8 v9 v10 v11 q272 l270 l271).bind fun (l273, l274) => sbind (ο := Bool × Int × Int × Int × Int) (cond q237 ((f141a_join (v261, v262, v263, v264) true v238 v239 v240 v241 v242 v243 v244 v245).bind fun (v285, v286, v287, v288) => some (.inr (true, v285, v286, v287, v288))) (some (.inr (false, v238, v239, v240, v241)))) (fun (q279, v280, v281, v282, v283) => sbind (ο := Int × Int × Int × Int × Bool) (cond q260 (some (.inr (v242, v243, v244, v245, true))) (some (.inr (0, 0, 0, 0, false)))) (fun (v289, v290, v291, v292, q293) => (f141b_join (v265, v266, v267, v268) q279 v280 v281 v282 v283 v289 v290 v291 v292).bind fun (v295, v296, v297, v298) => cond q279 (f155_sequence_L2 self168_item s1 q3 v4 v5 v6 v7 v8 v9 v10 v11 g231 l273 l274 v269 q272 q293 v280 v281 v282 v283 v295 v296 v297 v298) (f155_sequence_L2 self168_item s1 q3 v4 v5 v6 v7 v8 v9 v10 v11 g231 l273 l274 v269 q272 false v280 v281 v282 v283 v295 v296 v297 v298)))) (some (.inr (q237, v238, v239, v240, v241, v242, v243, v244, v245, v235, q251, l257, l258)))) (some (.inr (q237, v238, v239, v240, v241, v242, v243, v244, v245, v235, q251, l253, l254)))) (some (.inr (q237, v238, v239, v240, v241, v242, v243, v244, v245, v235, q251, l249, l250)))
def b155_sequence (fuel : Nat) (self168_item : BA → Int → Bool → Int → Int → Int → Int → Int → Int → Int → Int → Bool → L4 → L4 → Option (Bool × Int × Int × Int × Int × Int × Int × Int × Int × Int × L4 × L4 × Bool)) : BA → Int → Bool → Int → Int → Int → Int → Int → Int → Int → Int → Bool → L4 → L4 → Option (Bool × Int × Int × Int × Int × Int × Int × Int × Int × Int × L4 × L4 × Bool)
 | s1, v2, q3, v4, v5, v6, v7, v8, v9, v10, v11, q12, r13, r14 => sbind (ο := Bool × Int × Int × Int × Int × Int × Int × Int × Int × Int × Bool × L4 × L4) (f155_sequence_L2 self168_item s1 q3 v4 v5 v6 v7 v8 v9 v10 v11 fuel r13 r14 v2 q12 true (0 : Int) (0 : Int) (0 : Int) (0 : Int) (0 : Int) (0 : Int) (0 : Int) (0 : Int)) (fun (q149, v150, v151, v152, v153, v154, v155, v156, v157, v158, q159, l160, l161) => some (q149, v150, v151, v152, v153, v154, v155, v156, v157, v158, l160, l161, q159))
def b168_item (self173_atom : BA → Int → Bool → Int → Int → Int → Int → Int → Int → Int → Int → Bool → L4 → L4 → Option (Bool × Int × Int × Int × Int × Int × Int × Int × Int × Int × L4 × L4 × Bool)) : BA → Int → Bool → Int → Int → Int → Int → Int → Int → Int → Int → Bool → L4 → L4 → Option (Bool × Int × Int × Int × Int × Int × Int × Int × Int × Int × L4 × L4 × Bool)
 | s1, v2, q3, v4, v5, v6, v7, v8, v9, v10, v11, q12, r13, r14 => (self173_atom s1 v2 q3 v4 v5 v6 v7 v8 v9 v10 v11 q12 r13 r14).bind fun (q15, v16, v17, v18, v19, v20, v21, v22, v23, v24, l25, l26, q27) => (f156b_more s1 v24 q3 v4 v5 v6 v7 v8 v9 v10 v11 q27 l25 l26).bind fun (q28, l29, l30, q31) => cond q28 ((f157b_peek s1 v24 q3 v4 v5 v6 v7 v8 v9 v10 v11 q31 l29 l30).bind fun (v32, l33, l34) => cond (v32 != 42) (cond (v32 != 43) (cond (v32 != 63) (some (q15, v16, v17, v18, v19, v20, v21, v22, v23, v24, l33, l34, q31)) (cond (v32 != 63) ((f169_link (v20, v21, v22, v23) (v16, v17, v18, v19) s1 (wrap .i64 (v24 + 1)) q3 v4 v5 v6 v7 v8 v9 v10 v11 q31 l33 l34).bind fun (l50, l51) => cond q15 (some (true, v16, v17, v18, v19, v20, v21, v22, v23, (wrap .i64 (v24 + 1)), l50, l51, q31)) (cond (v32 != 43) (some (true, v16, v17, v18, v19, v20, v21, v22, v23, (wrap .i64 (v24 + 1)), l50, l51, q31)) (some (false, v16, v17, v18, v19, v20, v21, v22, v23, (wrap .i64 (v24 + 1)), l50, l51, q31)))) (cond q15 (some (true, v16, v17, v18, v19, v20, v21, v22, v23, (wrap .i64 (v24 + 1)), l33, l34, q31)) (cond (v32 != 43) (some (true, v16, v17, v18, v19, v20, v21, v22, v23, (wrap .i64 (v24 + 1)), l33, l34, q31)) (some (false, v16, v17, v18, v19, v20, v21, v22, v23, (wrap .i64 (v24 + 1)), l33, l34, q31)))))) (cond (v32 != 63) ((f169_link (v20, v21, v22, v23) (v16, v17, v18, v19) s1 (wrap .i64 (v24 + 1)) q3 v4 v5 v6 v7 v8 v9 v10 v11 q31 l33 l34).bind fun (l44, l45) => cond q15 (some (true, v16, v17, v18, v19, v20, v21, v22, v23, (wrap .i64 (v24 + 1)), l44, l45, q31)) (cond (v32 != 43) (some (true, v16, v17, v18, v19, v20, v21, v22, v23, (wrap .i64 (v24 + 1)), l44, l45, q31)) (some (false, v16, v17, v18, v19, v20, v21, v22, v23, (wrap .i64 (v24 + 1)), l44, l45, q31)))) (cond q15 (some (true, v16, v17, v18, v19, v20, v21, v22, v23, (wrap .i64 (v24 + 1)), l33, l34, q31)) (cond (v32 != 43) (some (true, v16, v17, v18, v19, v20, v21, v22, v23, (wrap .i64 (v24 + 1)), l33, l34, q31)) (some (false, v16, v17, v18, v19, v20, v21, v22, v23, (wrap .i64 (v24 + 1)), l33, l34, q31)))))) (cond (v32 != 63) ((f169_link (v20, v21, v22, v23) (v16, v17, v18, v19) s1 (wrap .i64 (v24 + 1)) q3 v4 v5 v6 v7 v8 v9 v10 v11 q31 l33 l34).bind fun (l38, l39) => cond q15 (some (true, v16, v17, v18, v19, v20, v21, v22, v23, (wrap .i64 (v24 + 1)), l38, l39, q31)) (cond (v32 != 43) (some (true, v16, v17, v18, v19, v20, v21, v22, v23, (wrap .i64 (v24 + 1)), l38, l39, q31)) (some (false, v16, v17, v18, v19, v20, v21, v22, v23, (wrap .i64 (v24 + 1)), l38, l39, q31)))) (cond q15 (some (true, v16, v17, v18, v19, v20, v21, v22, v23, (wrap .i64 (v24 + 1)), l33, l34, q31)) (cond (v32 != 43) (some (true, v16, v17, v18, v19, v20, v21, v22, v23, (wrap .i64 (v24 + 1)), l33, l34, q31)) (some (false, v16, v17, v18, v19, v20, v21, v22, v23, (wrap .i64 (v24 + 1)), l33, l34, q31)))))) (some (q15, v16, v17, v18, v19, v20, v21, v22, v23, v24, l29, l30, q31))
def b173_atom (fuel : Nat) (self138_alternatives : BA → Int → Bool → Int → Int → Int → Int → Int → Int → Int → Int → Bool → L4 → L4 → Option (Bool × Int × Int × Int × Int × Int × Int × Int × Int × Int × L4 × L4 × Bool)) : BA → Int → Bool → Int → Int → Int → Int → Int → Int → Int → Int → Bool → L4 → L4 → Option (Bool × Int × Int × Int × Int × Int × Int × Int × Int × Int × L4 × L4 × Bool)
 | s1, v2, q3, v4, v5, v6, v7, v8, v9, v10, v11, q12, r13, r14 => (f157b_peek s1 v2 q3 v4 v5 v6 v7 v8 v9 v10 v11 q12 r13 r14).bind fun (v15, l16, l17) => cond (v15 == 40) ((self138_alternatives s1 (wrap .i64 (v2 + 1)) q3 v4 v5 v6 v7 v8 v9 v10 v11 q12 l16 l17).bind fun (q94, v95, v96, v97, v98, v99, v100, v101, v102, v103, l104, l105, q106) => sbind (ο := Bool × L4 × L4) (cond q106 (some (.inr (true, l104, l105))) ((f157b_peek s1 v103 q3 v4 v5 v6 v7 v8 v9 v10 v11 false l104 l105).bind fun (v119, l120, l121) => cond (v119 != 41) (some (.inr (true, l120, l121))) (cond (decide (v103 ≥ (s1.size : Int))) (some (.inr (true, l120, l121))) (some (.inr (false, l120, l121)))))) (fun (q113, l114, l115) => cond q113 (some (q94, v95, v96, v97, v98, v99, v100, v101, v102, v103, l114, l115, true)) (some (q94, v95, v96, v97, v98, v99, v100, v101, v102, (wrap .i64 (v103 + 1)), l114, l115, false)))) (cond (v15 == 46) ((f176_turn (0 : Int) (0 : Int) (0 : Int) (0 : Int)).bind fun (v78, v79, v80, v81) => (f179_position (v78, v79, v80, v81) s1 (wrap .i64 (v2 + 1)) q3 v4 v5 v6 v7 v8 v9 v10 v11 q12 l16 l17).bind fun (q82, v83, v84, v85, v86, v87, v88, v89, v90, l91, l92, q93) => some (q82, v83, v84, v85, v86, v87, v88, v89, v90, (wrap .i64 (v2 + 1)), l91, l92, q93)) (cond (v15 == 91) ((f177_bytes fuel s1 (wrap .i64 (v2 + 1)) q3 v4 v5 v6 v7 v8 v9 v10 v11 q12 l16 l17).bind fun (((w58, w59, w60, w61)), v62, l63, l64, q65) => (f179_position (w58, w59, w60, w61) s1 v62 q3 v4 v5 v6 v7 v8 v9 v10 v11 q65 l63 l64).bind fun (q66, v67, v68, v69, v70, v71, v72, v73, v74, l75, l76, q77) => some (q66, v67, v68, v69, v70, v71, v72, v73, v74, v62, l75, l76, q77)) (cond (v15 == 92) (cond (decide ((wrap .i64 (v2 + 1)) ≥ (s1.size : Int))) (some (false, 0, 0, 0, 0, 0, 0, 0, 0, (wrap .i64 (v2 + 1)), l16, l17, true)) (getB s1 (wrap .i64 (v2 + 1)) fun c41 => (f178_add (c41.toNat : Int) (0 : Int) (0 : Int) (0 : Int) (0 : Int)).bind fun (v42, v43, v44, v45) => (f179_position (v42, v43, v44, v45) s1 (wrap .i64 ((wrap .i64 (v2 + 1)) + 1)) q3 v4 v5 v6 v7 v8 v9 v10 v11 q12 l16 l17).bind fun (q46, v47, v48, v49, v50, v51, v52, v53, v54, l55, l56, q57) => some (q46, v47, v48, v49, v50, v51, v52, v53, v54, (wrap .i64 ((wrap .i64 (v2 + 1)) + 1)), l55, l56, q57))) ((f91_IndexByte (⟨#[124, 42, 43, 63, 40, 41, 91, 93]⟩ : BA) v15).bind fun v22 => cond (decide (v22 ≥ 0)) (some (false, 0, 0, 0, 0, 0, 0, 0, 0, (wrap .i64 (v2 + 1)), l16, l17, true)) ((f178_add v15 (0 : Int) (0 : Int) (0 : Int) (0 : Int)).bind fun (v24, v25, v26, v27) => (f179_position (v24, v25, v26, v27) s1 (wrap .i64 (v2 + 1)) q3 v4 v5 v6 v7 v8 v9 v10 v11 q12 l16 l17).bind fun (q28, v29, v30, v31, v32, v33, v34, v35, v36, l37, l38, q39) => some (q28, v29, v30, v31, v32, v33, v34, v35, v36, (wrap .i64 (v2 + 1)), l37, l38, q39))))))
def S138_alternatives : Nat → (BA → Int → Bool → Int → Int → Int → Int → Int → Int → Int → Int → Bool → L4 → L4 → Option (Bool × Int × Int × Int × Int × Int × Int × Int × Int × Int × L4 × L4 × Bool)) × (BA → Int → Bool → Int → Int → Int → Int → Int → Int → Int → Int → Bool → L4 → L4 → Option (Bool × Int × Int × Int × Int × Int × Int × Int × Int × Int × L4 × L4 × Bool)) × (BA → Int → Bool → Int → Int → Int → Int → Int → Int → Int → Int → Bool → L4 → L4 → Option (Bool × Int × Int × Int × Int × Int × Int × Int × Int × Int × L4 × L4 × Bool)) × (BA → Int → Bool → Int → Int → Int → Int → Int → Int → Int → Int → Bool → L4 → L4 → Option (Bool × Int × Int × Int × Int × Int × Int × Int × Int × Int × L4 × L4 × Bool))
 | 0 => (fun _ _ _ _ _ _ _ _ _ _ _ _ _ _ => none, fun _ _ _ _ _ _ _ _ _ _ _ _ _ _ => none, fun _ _ _ _ _ _ _ _ _ _ _ _ _ _ => none, fun _ _ _ _ _ _ _ _ _ _ _ _ _ _ => none)
 | n + 1 => (b138_alternatives n (S138_alternatives n).2.1, b155_sequence n (S138_alternatives n).2.2.1, b168_item (S138_alternatives n).2.2.2, b173_atom n (S138_alternatives n).1)
def f138_alternatives (n : Nat) : BA → Int → Bool → Int → Int → Int → Int → Int → Int → Int → Int → Bool → L4 → L4 → Option (Bool × Int × Int × Int × Int × Int × Int × Int × Int × Int × L4 × L4 × Bool) := (S138_alternatives n).1
def f155_sequence (n : Nat) : BA → Int → Bool → Int → Int → Int → Int → Int → Int → Int → Int → Bool → L4 → L4 → Option (Bool × Int × Int × Int × Int × Int × Int × Int × Int × Int × L4 × L4 × Bool) := (S138_alternatives n).2.1
def f168_item (n : Nat) : BA → Int → Bool → Int → Int → Int → Int → Int → Int → Int → Int → Bool → L4 → L4 → Option (Bool × Int × Int × Int × Int × Int × Int × Int × Int × Int × L4 × L4 × Bool) := (S138_alternatives n).2.2.1
def f173_atom (n : Nat) : BA → Int → Bool → Int → Int → Int → Int → Int → Int → Int → Int → Bool → L4 → L4 → Option (Bool × Int × Int × Int × Int × Int × Int × Int × Int × Int × L4 × L4 × Bool) := (S138_alternatives n).2.2.2
def C138_alternatives (O : Oracle TT) (m : BA → Int → Bool → Int → Int → Int → Int → Int → Int → Int → Int → Bool → L4 → L4 → Option (Bool × Int × Int × Int × Int × Int × Int × Int × Int × Int × L4 × L4 × Bool)) : Prop :=
 ∀ (s1 : BA) (v2 : Int) (q3 : Bool) (v4 : Int) (v5 : Int) (v6 : Int) (v7 : Int) (v8 : Int) (v9 : Int) (v10 : Int) (v11 : Int) (q12 : Bool) (r13 : L4) (r14 : L4) (n0 : Nat) (en0 : n0 = r13.length) (n1 : Nat) (en1 : n1 = r14.length) (Q : (Bool × Int × Int × Int × Int × Int × Int × Int × Int × Int × L4 × L4 × Bool) → Prop) (R : RR) (_ : ∀ (q256 : Bool) (v257 : Int) (v258 : Int) (v259 : Int) (v260 : Int) (v261 : Int) (v262 : Int) (v263 : Int) (v264 : Int) (v265 : Int) (l266 : L4) (l267 : L4) (q268 : Bool) (n0r : Nat) (_ : n0r = l266.length) (n1r : Nat) (_ : n1r = l267.length), Q (q256, v257, v258, v259, v260, v261, v262, v263, v264, v265, l266, l267, q268) → R (.agg [.bool q256, .int .u64 v257, .int .u64 v258, .int .u64 v259, .int .u64 v260, .int .u64 v261, .int .u64 v262, .int .u64 v263, .int .u64 v264]) [(.x 0, some (.var [.str s1, ci v265, .osl (.x 3) 0 n0r, .osl (.x 4) 0 n1r, .bool q3, .int .u64 v4, .int .u64 v5, .int .u64 v6, .int .u64 v7, .int .u64 v8, .int .u64 v9, .int .u64 v10, .int .u64 v11, .bool q268])), (.x 1, none), (.x 2, none), (.x 3, some (.row false .set4 l266)), (.x 4, some (.row false .set4 l267))]) (_ : sat (m s1 v2 q3 v4 v5 v6 v7 v8 v9 v10 v11 q12 r13 r14) Q), O 138 [pX 0] [(.x 0, some (.var [.str s1, ci v2, .osl (.x 1) 0 n0, .osl (.x 2) 0 n1, .bool q3, .int .u64 v4, .int .u64 v5, .int .u64 v6, .int .u64 v7, .int .u64 v8, .int .u64 v9, .int .u64 v10, .int .u64 v11, .bool q12])), (.x 1, some (.row false .set4 r13)), (.x 2, some (.row false .set4 r14))] R
def j138_alternatives : Fn TT := ⟨39, [.cell 2 9 true], (.seq (.reg [qo 2 (.alloc 2 [.bool false, .int .u64 0, .int .u64 0, .int .u64 0, .int .u64 0, .int .u64 0, .int .u64 0, .int .u64 0, .int .u64 0])]) (.seq (.reg [qo 5 (.mv 0),qo 6 (.call 6 155 [5]),qo 3 (.alloc 3 [.bool false, .int .u64 0, .int .u64 0, .int .u64 0, .int .u64 0, .int .u64 0, .int .u64 0, .int .u64 0, .int .u64 0]),
 qp (.store 3 6 9)]) (.cut [2, 3] [(.s 2), (.s 3), (.x 0), (.sub (.sub (.x 0) 600) 2), (.sub (.sub (.x 0) 600) 3)] (.block 0 (.pre [.ownc (.x 0) 2 .set4 (.sub (.sub (.x 0) 600) 2), .ownc (.x 0) 3 .set4 (.sub (.sub (.x 0) 600) 3)] (.loop (.keep [0, 2, 3] [(.x 0), (.s 2), (.s 3), (.sub (.sub (.x 0) 600) 2), (.sub (.sub (.x 0) 600) 3)] (.aft (.seq (.seq (.reg [qo 7 (.mv 0),qo 8 (.call 8 156 [7]),
 qo 9 (.mv 8),qg 9 10 (.mv 0),qg 9 11 (.call 11 157 [10]),qg 9 12 (.bin .eql .num 11 (.c (.int .u8 124))),qo 13 (.pick 9 12 bF)]) (.cond 13 .skip (.exit 0))) (.block 1 (.seq (.reg [qo 14 (.mv 0),qo 15 (.nilck 14),qo 16 (.fa 15 1),qo 17 (.load 16 1 false),qo 18 (.bin .add .num 17 (iC 1)),qo 19 (.nilck 14),qo 20 (.fa 19 1),qp (.store 20 18 1)]) (.seq (.reg [qo 21 (.mv 0),
 qo 22 (.call 22 155 [21]),qo 4 (.alloc 4 [.bool false, .int .u64 0, .int .u64 0, .int .u64 0, .int .u64 0, .int .u64 0, .int .u64 0, .int .u64 0, .int .u64 0]),qp (.store 4 22 9)]) (.seq (.reg [qo 23 (.fa 3 0),qo 24 (.load 23 1 false),qo 25 (.mv 24),qf 25 26 (.fa 4 0),qf 25 27 (.load 26 1 false),qo 28 (.pick 25 bT 27),qo 29 (.fa 3 0),qp (.store 29 28 1)]) (.seq (.reg [qo 30 (.fa 3 1),
 qo 31 (.fa 4 1),qo 32 (.load 31 4 true),qo 33 (.call 33 141 [30, 32])]) (.reg [qo 34 (.fa 3 5),qo 35 (.fa 4 5),qo 36 (.load 35 4 true),qo 37 (.call 37 141 [34, 36])]))))))) [.keep [0, 2, 3] [(.x 0), (.s 2), (.s 3), (.sub (.s 22) 0), (.sub (.s 22) 1)], .ownc (.x 0) 2 .set4 (.sub (.sub (.x 0) 600) 2), .ownc (.x 0) 3 .set4 (.sub (.sub (.x 0) 600) 3)]))))) (.seq (.reg [qo 38 (.load 3 9 true),
 qp (.store 2 38 9)]) .ret))))⟩
def C155_sequence (O : Oracle TT) (m : BA → Int → Bool → Int → Int → Int → Int → Int → Int → Int → Int → Bool → L4 → L4 → Option (Bool × Int × Int × Int × Int × Int × Int × Int × Int × Int × L4 × L4 × Bool)) : Prop :=
 ∀ (s1 : BA) (v2 : Int) (q3 : Bool) (v4 : Int) (v5 : Int) (v6 : Int) (v7 : Int) (v8 : Int) (v9 : Int) (v10 : Int) (v11 : Int) (q12 : Bool) (r13 : L4) (r14 : L4) (n0 : Nat) (en0 : n0 = r13.length) (n1 : Nat) (en1 : n1 = r14.length) (Q : (Bool × Int × Int × Int × Int × Int × Int × Int × Int × Int × L4 × L4 × Bool) → Prop) (R : RR) (_ : ∀ (q299 : Bool) (v300 : Int) (v301 : Int) (v302 : Int) (v303 : Int) (v304 : Int) (v305 : Int) (v306 : Int) (v307 : Int) (v308 : Int) (l309 : L4) (l310 : L4) (q311 : Bool) (n0r : Nat) (_ : n0r = l309.length) (n1r : Nat) (_ : n1r = l310.length), Q (q299, v300, v301, v302, v303, v304, v305, v306, v307, v308, l309, l310, q311) → R (.agg [.bool q299, .int .u64 v300, .int .u64 v301, .int .u64 v302, .int .u64 v303, .int .u64 v304, .int .u64 v305, .int .u64 v306, .int .u64 v307]) [(.x 0, some (.var [.str s1, ci v308, .osl (.x 3) 0 n0r, .osl (.x 4) 0 n1r, .bool q3, .int .u64 v4, .int .u64 v5, .int .u64 v6, .int .u64 v7, .int .u64 v8, .int .u64 v9, .int .u64 v10, .int .u64 v11, .bool q311])), (.x 1, none), (.x 2, none), (.x 3, some (.row false .set4 l309)), (.x 4, some (.row false .set4 l310))]) (_ : sat (m s1 v2 q3 v4 v5 v6 v7 v8 v9 v10 v11 q12 r13 r14) Q), O 155 [pX 0] [(.x 0, some (.var [.str s1, ci v2, .osl (.x 1) 0 n0, .osl (.x 2) 0 n1, .bool q3, .int .u64 v4, .int .u64 v5, .int .u64 v6, .int .u64 v7, .int .u64 v8, .int .u64 v9, .int .u64 v10, .int .u64 v11, .bool q12])), (.x 1, some (.row false .set4 r13)), (.x 2, some (.row false .set4 r14))] R
def j155_sequence : Fn TT := ⟨49, [.cell 2 9 true], (.seq (.reg [qo 2 (.alloc 2 [.bool false, .int .u64 0, .int .u64 0, .int .u64 0, .int .u64 0, .int .u64 0, .int .u64 0, .int .u64 0, .int .u64 0])]) (.seq (.reg [qo 5 (.build [.bool false, .int .u64 0, .int .u64 0, .int .u64 0, .int .u64 0, .int .u64 0, .int .u64 0, .int .u64 0, .int .u64 0] [((0, 1), bT)]),
 qo 3 (.alloc 3 [.bool false, .int .u64 0, .int .u64 0, .int .u64 0, .int .u64 0, .int .u64 0, .int .u64 0, .int .u64 0, .int .u64 0]),qp (.store 3 5 9)]) (.cut [2, 3] [(.s 2), (.s 3), (.x 0), (.sub (.sub (.x 0) 600) 2), (.sub (.sub (.x 0) 600) 3)] (.block 0 (.pre [.ownc (.x 0) 2 .set4 (.sub (.sub (.x 0) 600) 2), .ownc (.x 0) 3 .set4 (.sub (.sub (.x 0) 600) 3)]
 (.loop (.keep [0, 2, 3] [(.x 0), (.s 2), (.s 3), (.sub (.sub (.x 0) 600) 2), (.sub (.sub (.x 0) 600) 3)] (.aft (.seq (.seq (.reg [qo 6 (.mv 0),qo 7 (.call 7 156 [6]),qo 8 (.mv 7),qg 8 9 (.mv 0),qg 8 10 (.call 10 157 [9]),qg 8 11 (.bin .neq .num 10 (.c (.int .u8 124))),qo 12 (.pick 8 11 bF),qo 13 (.mv 12),qg 13 14 (.mv 0),qg 13 15 (.call 15 157 [14]),
 qg 13 16 (.bin .neq .num 15 (.c (.int .u8 41))),qo 17 (.pick 13 16 bF)]) (.cond 17 .skip (.exit 0))) (.block 1 (.seq (.reg [qo 18 (.mv 0),qo 19 (.call 19 168 [18]),qo 4 (.alloc 4 [.bool false, .int .u64 0, .int .u64 0, .int .u64 0, .int .u64 0, .int .u64 0, .int .u64 0, .int .u64 0, .int .u64 0]),qp (.store 4 19 9)]) (.seq (.reg [qo 20 (.mv 0),qo 21 (.fa 3 5),qo 22 (.load 21 4 true),
 qo 23 (.fa 4 1),qo 24 (.load 23 4 true),qo 25 (.call 25 169 [20, 22, 24])]) (.cut [0, 2, 3, 4] [(.x 0), (.s 2), (.s 3), (.s 4), (.sub (.s 19) 0), (.sub (.s 19) 1)] (.seq (.reg [qo 26 (.fa 3 0),qo 27 (.load 26 1 false)]) (.cond 27 (.reg [qo 28 (.fa 3 1),qo 29 (.fa 4 1),qo 30 (.load 29 4 true),qo 31 (.call 31 141 [28, 30])]) .skip))
 (.cut [0, 2, 3, 4] [(.x 0), (.s 2), (.s 3), (.s 4), (.sub (.s 19) 0), (.sub (.s 19) 1)] (.seq (.reg [qo 32 (.fa 4 0),qo 33 (.load 32 1 false),qo 34 (.un .not 33)]) (.cond 34 (.reg [qo 35 (.build [.int .u64 0, .int .u64 0, .int .u64 0, .int .u64 0] []),qo 36 (.fa 3 5),qp (.store 36 35 4)]) .skip)) (.seq (.reg [qo 37 (.fa 3 5),qo 38 (.fa 4 5),qo 39 (.load 38 4 true),
 qo 40 (.call 40 141 [37, 39])]) (.reg [qo 41 (.fa 3 0),qo 42 (.load 41 1 false),qo 43 (.mv 42),qg 43 44 (.fa 4 0),qg 43 45 (.load 44 1 false),qo 46 (.pick 43 45 bF),qo 47 (.fa 3 0),qp (.store 47 46 1)])))))))) [.keep [0, 2, 3] [(.x 0), (.s 2), (.s 3), (.sub (.s 19) 0), (.sub (.s 19) 1)], .ownc (.x 0) 2 .set4 (.sub (.sub (.x 0) 600) 2), .ownc (.x 0) 3 .set4 (.sub (.sub (.x 0) 600) 3)])))))
 (.seq (.reg [qo 48 (.load 3 9 true),qp (.store 2 48 9)]) .ret))))⟩
def C168_item (O : Oracle TT) (m : BA → Int → Bool → Int → Int → Int → Int → Int → Int → Int → Int → Bool → L4 → L4 → Option (Bool × Int × Int × Int × Int × Int × Int × Int × Int × Int × L4 × L4 × Bool)) : Prop :=
 ∀ (s1 : BA) (v2 : Int) (q3 : Bool) (v4 : Int) (v5 : Int) (v6 : Int) (v7 : Int) (v8 : Int) (v9 : Int) (v10 : Int) (v11 : Int) (q12 : Bool) (r13 : L4) (r14 : L4) (n0 : Nat) (en0 : n0 = r13.length) (n1 : Nat) (en1 : n1 = r14.length) (Q : (Bool × Int × Int × Int × Int × Int × Int × Int × Int × Int × L4 × L4 × Bool) → Prop) (R : RR) (_ : ∀ (q53 : Bool) (v54 : Int) (v55 : Int) (v56 : Int) (v57 : Int) (v58 : Int) (v59 : Int) (v60 : Int) (v61 : Int) (v62 : Int) (l63 : L4) (l64 : L4) (q65 : Bool) (n0r : Nat) (_ : n0r = l63.length) (n1r : Nat) (_ : n1r = l64.length), Q (q53, v54, v55, v56, v57, v58, v59, v60, v61, v62, l63, l64, q65) → R (.agg [.bool q53, .int .u64 v54, .int .u64 v55, .int .u64 v56, .int .u64 v57, .int .u64 v58, .int .u64 v59, .int .u64 v60, .int .u64 v61]) [(.x 0, some (.var [.str s1, ci v62, .osl (.x 3) 0 n0r, .osl (.x 4) 0 n1r, .bool q3, .int .u64 v4, .int .u64 v5, .int .u64 v6, .int .u64 v7, .int .u64 v8, .int .u64 v9, .int .u64 v10, .int .u64 v11, .bool q65])), (.x 1, none), (.x 2, none), (.x 3, some (.row false .set4 l63)), (.x 4, some (.row false .set4 l64))]) (_ : sat (m s1 v2 q3 v4 v5 v6 v7 v8 v9 v10 v11 q12 r13 r14) Q), O 168 [pX 0] [(.x 0, some (.var [.str s1, ci v2, .osl (.x 1) 0 n0, .osl (.x 2) 0 n1, .bool q3, .int .u64 v4, .int .u64 v5, .int .u64 v6, .int .u64 v7, .int .u64 v8, .int .u64 v9, .int .u64 v10, .int .u64 v11, .bool q12])), (.x 1, some (.row false .set4 r13)), (.x 2, some (.row false .set4 r14))] R
def j168_item : Fn TT := ⟨47, [.cell 2 9 true], (.seq (.reg [qo 2 (.alloc 2 [.bool false, .int .u64 0, .int .u64 0, .int .u64 0, .int .u64 0, .int .u64 0, .int .u64 0, .int .u64 0, .int .u64 0])]) (.seq (.reg [qo 5 (.mv 0),qo 6 (.call 6 173 [5]),qo 3 (.alloc 3 [.bool false, .int .u64 0, .int .u64 0, .int .u64 0, .int .u64 0, .int .u64 0, .int .u64 0, .int .u64 0, .int .u64 0]),
 qp (.store 3 6 9)]) (.seq (.seq (.reg [qo 7 (.mv 0),qo 8 (.call 8 156 [7]),qo 9 (.un .not 8)]) (.cond 9 (.seq (.reg [qo 10 (.load 3 9 true),qp (.store 2 10 9)]) .ret) .skip)) (.seq (.reg [qo 11 (.mv 0),qo 12 (.call 12 157 [11]),qo 4 (.mv 12)]) (.seq (.seq (.reg [qo 13 (.mv 4),qo 14 (.bin .neq .num 13 (.c (.int .u8 42))),qo 15 (.mv 14),qg 15 16 (.mv 4),
 qg 15 17 (.bin .neq .num 16 (.c (.int .u8 43))),qo 18 (.pick 15 17 bF),qo 19 (.mv 18),qg 19 20 (.mv 4),qg 19 21 (.bin .neq .num 20 (.c (.int .u8 63))),qo 22 (.pick 19 21 bF)]) (.cond 22 (.seq (.reg [qo 23 (.load 3 9 true),qp (.store 2 23 9)]) .ret) .skip)) (.seq (.reg [qo 24 (.mv 0),qo 25 (.nilck 24),qo 26 (.fa 25 1),qo 27 (.load 26 1 false),qo 28 (.bin .add .num 27 (iC 1)),
 qo 29 (.nilck 24),qo 30 (.fa 29 1),qp (.store 30 28 1)]) (.seq (.seq (.reg [qo 31 (.mv 4),qo 32 (.bin .neq .num 31 (.c (.int .u8 63)))]) (.cond 32 (.reg [qo 33 (.mv 0),qo 34 (.fa 3 5),qo 35 (.load 34 4 true),qo 36 (.fa 3 1),qo 37 (.load 36 4 true),qo 38 (.call 38 169 [33, 35, 37])]) .skip)) (.seq (.reg [qo 39 (.fa 3 0),qo 40 (.load 39 1 false),qo 41 (.mv 40),qf 41 42 (.mv 4),
 qf 41 43 (.bin .neq .num 42 (.c (.int .u8 43))),qo 44 (.pick 41 bT 43),qo 45 (.fa 3 0),qp (.store 45 44 1)]) (.seq (.reg [qo 46 (.load 3 9 true),qp (.store 2 46 9)]) .ret)))))))))⟩
def C173_atom (O : Oracle TT) (m : BA → Int → Bool → Int → Int → Int → Int → Int → Int → Int → Int → Bool → L4 → L4 → Option (Bool × Int × Int × Int × Int × Int × Int × Int × Int × Int × L4 × L4 × Bool)) : Prop :=
 ∀ (s1 : BA) (v2 : Int) (q3 : Bool) (v4 : Int) (v5 : Int) (v6 : Int) (v7 : Int) (v8 : Int) (v9 : Int) (v10 : Int) (v11 : Int) (q12 : Bool) (r13 : L4) (r14 : L4) (n0 : Nat) (en0 : n0 = r13.length) (n1 : Nat) (en1 : n1 = r14.length) (Q : (Bool × Int × Int × Int × Int × Int × Int × Int × Int × Int × L4 × L4 × Bool) → Prop) (R : RR) (_ : ∀ (q125 : Bool) (v126 : Int) (v127 : Int) (v128 : Int) (v129 : Int) (v130 : Int) (v131 : Int) (v132 : Int) (v133 : Int) (v134 : Int) (l135 : L4) (l136 : L4) (q137 : Bool) (n0r : Nat) (_ : n0r = l135.length) (n1r : Nat) (_ : n1r = l136.length), Q (q125, v126, v127, v128, v129, v130, v131, v132, v133, v134, l135, l136, q137) → R (.agg [.bool q125, .int .u64 v126, .int .u64 v127, .int .u64 v128, .int .u64 v129, .int .u64 v130, .int .u64 v131, .int .u64 v132, .int .u64 v133]) [(.x 0, some (.var [.str s1, ci v134, .osl (.x 3) 0 n0r, .osl (.x 4) 0 n1r, .bool q3, .int .u64 v4, .int .u64 v5, .int .u64 v6, .int .u64 v7, .int .u64 v8, .int .u64 v9, .int .u64 v10, .int .u64 v11, .bool q137])), (.x 1, none), (.x 2, none), (.x 3, some (.row false .set4 l135)), (.x 4, some (.row false .set4 l136))]) (_ : sat (m s1 v2 q3 v4 v5 v6 v7 v8 v9 v10 v11 q12 r13 r14) Q), O 173 [pX 0] [(.x 0, some (.var [.str s1, ci v2, .osl (.x 1) 0 n0, .osl (.x 2) 0 n1, .bool q3, .int .u64 v4, .int .u64 v5, .int .u64 v6, .int .u64 v7, .int .u64 v8, .int .u64 v9, .int .u64 v10, .int .u64 v11, .bool q12])), (.x 1, some (.row false .set4 r13)), (.x 2, some (.row false .set4 r14))] R
def j173_atom : Fn TT := ⟨113, [.cell 2 9 true], (.seq (.reg [qo 2 (.alloc 2 [.bool false, .int .u64 0, .int .u64 0, .int .u64 0, .int .u64 0, .int .u64 0, .int .u64 0, .int .u64 0, .int .u64 0])]) (.seq (.reg [qo 6 (.mv 0),qo 7 (.call 7 157 [6]),qo 3 (.mv 7)]) (.seq (.reg [qo 8 (.mv 0),qo 9 (.nilck 8),qo 10 (.fa 9 1),qo 11 (.load 10 1 false),qo 12 (.bin .add .num 11 (iC 1)),
 qo 13 (.nilck 8),qo 14 (.fa 13 1),qp (.store 14 12 1)]) (.seq (.reg [qo 4 (.alloc 4 [.int .u64 0, .int .u64 0, .int .u64 0, .int .u64 0])]) (.seq (.block 0 (.seq (.reg [qo 18 (.mv 3),qo 19 (.bin .eql .num 18 (.c (.int .u8 40))),qo 17 (.mv 19)]) (.cond 17 (.seq (.reg [qo 20 (.mv 0),qo 21 (.call 21 138 [20]),
 qo 5 (.alloc 5 [.bool false, .int .u64 0, .int .u64 0, .int .u64 0, .int .u64 0, .int .u64 0, .int .u64 0, .int .u64 0, .int .u64 0]),qp (.store 5 21 9)]) (.seq (.cut [0, 2, 5] [(.x 0), (.s 2), (.s 5), (.x 1), (.x 2), (.sub (.s 21) 0), (.sub (.s 21) 1)]
 (.drw [(.x 0), (.x 1), (.x 2), (.sub (.s 21) 0), (.sub (.s 21) 1)] (.go 0 (.go 1 (.go 2 (.go 3 (.go 4 (.go 5 (.go 6 (.go 7 (.go 8 (.go 9 (.go 10 (.go 11 (.go 12 (.go 13 (.go 15 (.go 16 (.go 17 (.alt 14 (.go 18 (.go 19 (.go 20 (.go 21 (.go 22 (.go 23 (.go 24 .nil))))))) 18 (.go 19 (.go 14 (.go 20 (.go 21 (.go 22 (.go 23 (.go 24 .nil))))))))))))))))))))))))) [24] [0, 1, 2, 3, 5, 6, 8, 9, 10, 11, 12, 13, 15, 16, 17, 19, 20, 21, 22, 23] [qo 22 (.mv 0),
 qo 23 (.mv 0),qo 24 (.nilck 23),qo 25 (.fa 24 13),qo 26 (.load 25 1 false),qo 27 (.mv 26),qf 27 28 (.mv 0),qf 27 29 (.call 29 157 [28]),qf 27 30 (.bin .neq .num 29 (.c (.int .u8 41))),qo 31 (.pick 27 bT 30),qo 32 (.mv 31),qf 32 33 (.mv 0),qf 32 34 (.nilck 33),qf 32 35 (.fa 34 1),qf 32 36 (.load 35 1 false),qf 32 37 (.mv 0),qf 32 38 (.nilck 37),qf 32 39 (.fa 38 0),
 qf 32 40 (.load 39 1 false),qf 32 41 (.len true 40),qf 32 42 (.bin .geq .num 36 41),qo 43 (.pick 32 bT 42),qo 44 (.nilck 22),qo 45 (.fa 44 13),qp (.store 45 43 1)]) (.seq (.reg [qo 46 (.mv 0),qo 47 (.nilck 46),qo 48 (.fa 47 13),qo 49 (.load 48 1 false),qo 50 (.un .not 49)]) (.cond 50 (.reg [qo 51 (.mv 0),qo 52 (.nilck 51),qo 53 (.fa 52 1),qo 54 (.load 53 1 false),
 qo 55 (.bin .add .num 54 (iC 1)),qo 56 (.nilck 51),qo 57 (.fa 56 1),qp (.store 57 55 1)]) .skip))) (.seq (.reg [qo 58 (.load 5 9 true),qp (.store 2 58 9)]) (.pre [.ownc (.x 0) 2 .set4 (.sub (.sub (.x 0) 801) 2), .ownc (.x 0) 3 .set4 (.sub (.sub (.x 0) 801) 3)] .ret)))) (.seq (.reg [qo 60 (.mv 3),qo 61 (.bin .eql .num 60 (.c (.int .u8 46))),qo 59 (.mv 61)]) (.cond 59
 (.reg [qo 62 (.call 62 176 [4])]) (.seq (.reg [qo 64 (.mv 3),qo 65 (.bin .eql .num 64 (.c (.int .u8 91))),qo 63 (.mv 65)]) (.cond 63 (.reg [qo 66 (.mv 0),qo 67 (.call 67 177 [66]),qp (.store 4 67 4)]) (.seq (.reg [qo 69 (.mv 3),qo 70 (.bin .eql .num 69 (.c (.int .u8 92))),qo 68 (.mv 70)]) (.cond 68 (.seq (.seq (.drw [] (oR 10) [] (List.range 10) [qo 71 (.mv 0),qo 72 (.nilck 71),
 qo 73 (.fa 72 1),qo 74 (.load 73 1 false),qo 75 (.mv 0),qo 76 (.nilck 75),qo 77 (.fa 76 0),qo 78 (.load 77 1 false),qo 79 (.len true 78),qo 80 (.bin .geq .num 74 79)]) (.cond 80 (.seq (.reg [qo 81 (.mv 0),qo 82 (.nilck 81),qo 83 (.fa 82 13),qp (.store 83 bT 1)]) (.seq
 (.reg [qo 84 (.build [.bool false, .int .u64 0, .int .u64 0, .int .u64 0, .int .u64 0, .int .u64 0, .int .u64 0, .int .u64 0, .int .u64 0] []),qp (.store 2 84 9)]) (.pre [.ownc (.x 0) 2 .set4 (.sub (.sub (.x 0) 801) 2), .ownc (.x 0) 3 .set4 (.sub (.sub (.x 0) 801) 3)] .ret))) .skip)) (.seq (.drw [(.s 4)] (oR 10) [] (List.range 9) [qo 85 (.mv 0),qo 86 (.nilck 85),qo 87 (.fa 86 0),
 qo 88 (.load 87 1 false),qo 89 (.mv 0),qo 90 (.nilck 89),qo 91 (.fa 90 1),qo 92 (.load 91 1 false),qo 93 (.idxS 88 92),qo 94 (.call 94 178 [4, 93])]) (.reg [qo 95 (.mv 0),qo 96 (.nilck 95),qo 97 (.fa 96 1),qo 98 (.load 97 1 false),qo 99 (.bin .add .num 98 (iC 1)),qo 100 (.nilck 95),qo 101 (.fa 100 1),qp (.store 101 99 1)]))) (.seq (.reg [qo 103 (.mv 3),
 qo 104 (.call 104 91 [(.c (.str (⟨#[124, 42, 43, 63, 40, 41, 91, 93]⟩ : BA))), 103]),qo 105 (.bin .geq .num 104 (iC 0)),qo 102 (.mv 105)]) (.cond 102 (.seq (.reg [qo 106 (.mv 0),qo 107 (.nilck 106),qo 108 (.fa 107 13),qp (.store 108 bT 1)]) (.seq
 (.reg [qo 109 (.build [.bool false, .int .u64 0, .int .u64 0, .int .u64 0, .int .u64 0, .int .u64 0, .int .u64 0, .int .u64 0, .int .u64 0] []),qp (.store 2 109 9)]) (.pre [.ownc (.x 0) 2 .set4 (.sub (.sub (.x 0) 801) 2), .ownc (.x 0) 3 .set4 (.sub (.sub (.x 0) 801) 3)] .ret))) (.reg [qo 15 (.mv 3),qo 16 (.call 16 178 [4, 15])])))))))))))) (.seq (.reg [qo 110 (.mv 0),qo 111 (.load 4 4 true),
 qo 112 (.call 112 179 [110, 111]),qp (.store 2 112 9)]) .ret))))))⟩
theorem w138_alternatives {O : Oracle TT} (fuel : Nat) (self155_sequence : BA → Int → Bool → Int → Int → Int → Int → Int → Int → Int → Int → Bool → L4 → L4 → Option (Bool × Int × Int × Int × Int × Int × Int × Int × Int × Int × L4 × L4 × Bool)) (h155_sequence : C155_sequence O self155_sequence) (h156b_more : C156b_more O f156b_more) (h157b_peek : C157b_peek O f157b_peek) (h141a_join : C141a_join O f141a_join) (h141b_join : C141b_join O f141b_join) : C138_alternatives (fun _ => vcF (S := SS) O j138_alternatives) (b138_alternatives fuel self155_sequence) := by
 intro s1 v2 q3 v4 v5 v6 v7 v8 v9 v10 v11 q12 r13 r14 n0 en0 n1 en1 Q R hQ h
 subst en0
 subst en1
 unfold b138_alternatives at h
 refine ⟨nle rfl, rfl, ?_⟩
 refine kL [(.x 0), (.x 1), (.x 2)] (h155_sequence _ _ _ _ _ _ _ _ _ _ _ _ _ _ _ LN _ LN _ _ ?_ (sat_bind h))
 rintro q15 v16 v17 v18 v19 v20 v21 v22 v23 v24 l25 l26 q27 _ rfl _ rfl h
 obtain ⟨R149, h, hlR149, hrR149⟩ := sat_sbind h
 refine kX (fun σ => ∃ (q134 : Bool) (v135 : Int) (v136 : Int) (v137 : Int) (v138 : Int) (v139 : Int) (v140 : Int) (v141 : Int) (v142 : Int) (v143 : Int) (q144 : Bool) (l145 : L4) (l146 : L4) (n147 : Nat) (n148 : Nat), n147 = l145.length ∧ n148 = l146.length ∧ R149 (.inr (q134, v135, v136, v137, v138, v139, v140, v141, v142, v143, q144, l145, l146)) ∧ σ = ⟨[(2, pS 2), (3, pS 3)], [(.s 2, some (.var [.bool false, .int .u64 0, .int .u64 0, .int .u64 0, .int .u64 0, .int .u64 0, .int .u64 0, .int .u64 0, .int .u64 0])), (.s 3, some (.var [.bool q134, .int .u64 v135, .int .u64 v136, .int .u64 v137, .int .u64 v138, .int .u64 v139, .int .u64 v140, .int .u64 v141, .int .u64 v142])), (.x 0, some (.var [.str s1, ci v143, .osl (.sub (.sub (.x 0) 600) 2) 0 n147, .osl (.sub (.sub (.x 0) 600) 3) 0 n148, .bool q3, .int .u64 v4, .int .u64 v5, .int .u64 v6, .int .u64 v7, .int .u64 v8, .int .u64 v9, .int .u64 v10, .int .u64 v11, .bool q144])), (.sub (.sub (.x 0) 600) 2, some (.row false .set4 l145)), (.sub (.sub (.x 0) 600) 3, some (.row false .set4 l146))]⟩) ?_ ?_
 refine kX (fun σ n => ∃ (f203 : Nat) (l204 : L4) (l205 : L4) (v206 : Int) (q207 : Bool) (q208 : Bool) (v209 : Int) (v210 : Int) (v211 : Int) (v212 : Int) (v213 : Int) (v214 : Int) (v215 : Int) (v216 : Int) (n217 : Nat) (n218 : Nat), f203 = n ∧ n217 = l204.length ∧ n218 = l205.length ∧ sat (f138_alternatives_L2 self155_sequence s1 q3 v4 v5 v6 v7 v8 v9 v10 v11 f203 l204 l205 v206 q207 q208 v209 v210 v211 v212 v213 v214 v215 v216) R149 ∧ σ.keep [0, 2, 3] [(.x 0), (.s 2), (.s 3), (.sub (.sub (.x 0) 600) 2), (.sub (.sub (.x 0) 600) 3)] = ⟨[(0, pX 0), (2, pS 2), (3, pS 3)], [(.x 0, some (.var [.str s1, ci v206, .osl (.sub (.sub (.x 0) 600) 2) 0 n217, .osl (.sub (.sub (.x 0) 600) 3) 0 n218, .bool q3, .int .u64 v4, .int .u64 v5, .int .u64 v6, .int .u64 v7, .int .u64 v8, .int .u64 v9, .int .u64 v10, .int .u64 v11, .bool q207])), (.s 2, some (.var [.bool false, .int .u64 0, .int .u64 0, .int .u64 0, .int .u64 0, .int .u64 0, .int .u64 0, .int .u64 0, .int .u64 0])), (.s 3, some (.var [.bool q208, .int .u64 v209, .int .u64 v210, .int .u64 v211, .int .u64 v212, .int .u64 v213, .int .u64 v214, .int .u64 v215, .int .u64 v216])), (.sub (.sub (.x 0) 600) 2, some (.row false .set4 l204)), (.sub (.sub (.x 0) 600) 3, some (.row false .set4 l205))]⟩) ⟨_, _, l25, l26, v24, q27, q15, v16, v17, v18, v19, v20, v21, v22, v23, _, _, rfl, LN, LN, h, rfl⟩ ?_
 rintro σ n ⟨f203, l204, l205, v206, q207, q208, v209, v210, v211, v212, v213, v214, v215, v216, _, _, rfl, rfl, rfl, h, hσ⟩
 refine kk hσ ?_
 rcases f203 with _ | g202
 rw [f138_alternatives_L2] at h; exact nn h
 rw [f138_alternatives_L2] at h
 refine kL [(.x 0), (.sub (.sub (.x 0) 600) 2), (.sub (.sub (.x 0) 600) 3)] (h156b_more _ _ _ _ _ _ _ _ _ _ _ _ _ _ _ LN _ LN _ _ ?_ (sat_bind h))
 rintro q219 l220 l221 q222 _ rfl _ rfl hkrl220 hkrl221 h
 cases q219
 replace h := sat_cf h
 conv => whnf
 exact ⟨q208, v209, v210, v211, v212, v213, v214, v215, v216, v206, q222, l220, l221, _, _, LN, LN, sat_some h, rfl⟩
 replace h := sat_ct h
 refine kL [(.x 0), (.sub (.sub (.x 0) 600) 2), (.sub (.sub (.x 0) 600) 3)] (h157b_peek _ _ _ _ _ _ _ _ _ _ _ _ _ _ _ LN _ LN _ _ ?_ (sat_bind h))
 rintro v223 l224 l225 _ rfl _ rfl hkrl224 hkrl225 h
 refine kc h (fun h => ?_) fun h => ?_
 conv => whnf
 exact ⟨q208, v209, v210, v211, v212, v213, v214, v215, v216, v206, q222, l224, l225, _, _, LN, LN, sat_some h, rfl⟩
 refine kL [(.x 0), (.sub (.sub (.x 0) 600) 2), (.sub (.sub (.x 0) 600) 3)] (h155_sequence _ _ _ _ _ _ _ _ _ _ _ _ _ _ _ LN _ LN _ _ ?_ (sat_bind h))
 rintro q227 v228 v229 v230 v231 v232 v233 v234 v235 v236 l237 l238 q239 _ rfl _ rfl h
 cases q208
 replace h := sat_cf h
 refine kL [(.s 3)] (h141a_join _ _ _ _ _ _ _ _ _ _ _ _ _ _ _ ?_ (sat_bind h))
 rintro v240 v241 v242 v243 h
 refine kL [(.s 3)] (h141b_join _ _ _ _ _ _ _ _ _ _ _ _ _ _ _ ?_ (sat_bind h))
 rintro v244 v245 v246 v247 h
 conv => whnf
 exact ⟨g202, nls, g202, l237, l238, v236, q239, q227, v240, v241, v242, v243, v244, v245, v246, v247, _, _, rfl, LN, LN, h, rfl⟩
 replace h := sat_ct h
 refine kL [(.s 3)] (h141a_join _ _ _ _ _ _ _ _ _ _ _ _ _ _ _ ?_ (sat_bind h))
 rintro v248 v249 v250 v251 h
 refine kL [(.s 3)] (h141b_join _ _ _ _ _ _ _ _ _ _ _ _ _ _ _ ?_ (sat_bind h))
 rintro v252 v253 v254 v255 h
 conv => whnf
 exact ⟨g202, nls, g202, l237, l238, v236, q239, true, v248, v249, v250, v251, v252, v253, v254, v255, _, _, rfl, LN, LN, h, rfl⟩
 rintro _ ⟨q134, v135, v136, v137, v138, v139, v140, v141, v142, v143, q144, l145, l146, _, _, rfl, rfl, h, rfl⟩
 replace h := hrR149 _ h
 exact kR [(.sub (.sub (.x 0) 600) 2), (.sub (.sub (.x 0) 600) 3)] (ND 3) (hQ _ _ _ _ _ _ _ _ _ _ _ _ _ _ LN _ LN (sat_some h))
theorem w155_sequence {O : Oracle TT} (fuel : Nat) (self168_item : BA → Int → Bool → Int → Int → Int → Int → Int → Int → Int → Int → Bool → L4 → L4 → Option (Bool × Int × Int × Int × Int × Int × Int × Int × Int × Int × L4 × L4 × Bool)) (h156b_more : C156b_more O f156b_more) (h157b_peek : C157b_peek O f157b_peek) (h168_item : C168_item O self168_item) (h169_link : C169_link O f169_link) (h141a_join : C141a_join O f141a_join) (h141b_join : C141b_join O f141b_join) : C155_sequence (fun _ => vcF (S := SS) O j155_sequence) (b155_sequence fuel self168_item) := by
 intro s1 v2 q3 v4 v5 v6 v7 v8 v9 v10 v11 q12 r13 r14 n0 en0 n1 en1 Q R hQ h
 subst en0
 subst en1
 unfold b155_sequence at h
 refine ⟨nle rfl, rfl, ?_⟩
 obtain ⟨R164, h, hlR164, hrR164⟩ := sat_sbind h
 refine kX (fun σ => ∃ (q149 : Bool) (v150 : Int) (v151 : Int) (v152 : Int) (v153 : Int) (v154 : Int) (v155 : Int) (v156 : Int) (v157 : Int) (v158 : Int) (q159 : Bool) (l160 : L4) (l161 : L4) (n162 : Nat) (n163 : Nat), n162 = l160.length ∧ n163 = l161.length ∧ R164 (.inr (q149, v150, v151, v152, v153, v154, v155, v156, v157, v158, q159, l160, l161)) ∧ σ = ⟨[(2, pS 2), (3, pS 3)], [(.s 2, some (.var [.bool false, .int .u64 0, .int .u64 0, .int .u64 0, .int .u64 0, .int .u64 0, .int .u64 0, .int .u64 0, .int .u64 0])), (.s 3, some (.var [.bool q149, .int .u64 v150, .int .u64 v151, .int .u64 v152, .int .u64 v153, .int .u64 v154, .int .u64 v155, .int .u64 v156, .int .u64 v157])), (.x 0, some (.var [.str s1, ci v158, .osl (.sub (.sub (.x 0) 600) 2) 0 n162, .osl (.sub (.sub (.x 0) 600) 3) 0 n163, .bool q3, .int .u64 v4, .int .u64 v5, .int .u64 v6, .int .u64 v7, .int .u64 v8, .int .u64 v9, .int .u64 v10, .int .u64 v11, .bool q159])), (.sub (.sub (.x 0) 600) 2, some (.row false .set4 l160)), (.sub (.sub (.x 0) 600) 3, some (.row false .set4 l161))]⟩) ?_ ?_
 refine kX (fun σ n => ∃ (f232 : Nat) (l233 : L4) (l234 : L4) (v235 : Int) (q236 : Bool) (q237 : Bool) (v238 : Int) (v239 : Int) (v240 : Int) (v241 : Int) (v242 : Int) (v243 : Int) (v244 : Int) (v245 : Int) (n246 : Nat) (n247 : Nat), f232 = n ∧ n246 = l233.length ∧ n247 = l234.length ∧ sat (f155_sequence_L2 self168_item s1 q3 v4 v5 v6 v7 v8 v9 v10 v11 f232 l233 l234 v235 q236 q237 v238 v239 v240 v241 v242 v243 v244 v245) R164 ∧ σ.keep [0, 2, 3] [(.x 0), (.s 2), (.s 3), (.sub (.sub (.x 0) 600) 2), (.sub (.sub (.x 0) 600) 3)] = ⟨[(0, pX 0), (2, pS 2), (3, pS 3)], [(.x 0, some (.var [.str s1, ci v235, .osl (.sub (.sub (.x 0) 600) 2) 0 n246, .osl (.sub (.sub (.x 0) 600) 3) 0 n247, .bool q3, .int .u64 v4, .int .u64 v5, .int .u64 v6, .int .u64 v7, .int .u64 v8, .int .u64 v9, .int .u64 v10, .int .u64 v11, .bool q236])), (.s 2, some (.var [.bool false, .int .u64 0, .int .u64 0, .int .u64 0, .int .u64 0, .int .u64 0, .int .u64 0, .int .u64 0, .int .u64 0])), (.s 3, some (.var [.bool q237, .int .u64 v238, .int .u64 v239, .int .u64 v240, .int .u64 v241, .int .u64 v242, .int .u64 v243, .int .u64 v244, .int .u64 v245])), (.sub (.sub (.x 0) 600) 2, some (.row false .set4 l233)), (.sub (.sub (.x 0) 600) 3, some (.row false .set4 l234))]⟩) ⟨_, _, r13, r14, v2, q12, true, (0 : Int), (0 : Int), (0 : Int), (0 : Int), (0 : Int), (0 : Int), (0 : Int), (0 : Int), _, _, rfl, LN, LN, h, rfl⟩ ?_
 rintro σ n ⟨f232, l233, l234, v235, q236, q237, v238, v239, v240, v241, v242, v243, v244, v245, _, _, rfl, rfl, rfl, h, hσ⟩
 refine kk hσ ?_
 rcases f232 with _ | g231
 rw [f155_sequence_L2] at h; exact nn h
 rw [f155_sequence_L2] at h
 refine kL [(.x 0), (.sub (.sub (.x 0) 600) 2), (.sub (.sub (.x 0) 600) 3)] (h156b_more _ _ _ _ _ _ _ _ _ _ _ _ _ _ _ LN _ LN _ _ ?_ (sat_bind h))
 rintro q248 l249 l250 q251 _ rfl _ rfl hkrl249 hkrl250 h
 cases q248
 replace h := sat_cf h
 conv => whnf
 exact ⟨q237, v238, v239, v240, v241, v242, v243, v244, v245, v235, q251, l249, l250, _, _, LN, LN, sat_some h, rfl⟩
 replace h := sat_ct h
 refine kL [(.x 0), (.sub (.sub (.x 0) 600) 2), (.sub (.sub (.x 0) 600) 3)] (h157b_peek _ _ _ _ _ _ _ _ _ _ _ _ _ _ _ LN _ LN _ _ ?_ (sat_bind h))
 rintro v252 l253 l254 _ rfl _ rfl hkrl253 hkrl254 h
 refine kc h (fun h => ?_) fun h => ?_
 conv => whnf
 exact ⟨q237, v238, v239, v240, v241, v242, v243, v244, v245, v235, q251, l253, l254, _, _, LN, LN, sat_some h, rfl⟩
 refine kL [(.x 0), (.sub (.sub (.x 0) 600) 2), (.sub (.sub (.x 0) 600) 3)] (h157b_peek _ _ _ _ _ _ _ _ _ _ _ _ _ _ _ LN _ LN _ _ ?_ (sat_bind h))
 rintro v256 l257 l258 _ rfl _ rfl hkrl257 hkrl258 h
 refine kc h (fun h => ?_) fun h => ?_
 conv => whnf
 exact ⟨q237, v238, v239, v240, v241, v242, v243, v244, v245, v235, q251, l257, l258, _, _, LN, LN, sat_some h, rfl⟩
 refine kL [(.x 0), (.sub (.sub (.x 0) 600) 2), (.sub (.sub (.x 0) 600) 3)] (h168_item _ _ _ _ _ _ _ _ _ _ _ _ _ _ _ LN _ LN _ _ ?_ (sat_bind h))
 rintro q260 v261 v262 v263 v264 v265 v266 v267 v268 v269 l270 l271 q272 _ rfl _ rfl h
 refine kL [(.x 0), (.sub (.s 19) 0), (.sub (.s 19) 1)] (h169_link _ _ _ _ _ _ _ _ _ _ _ _ _ _ _ _ _ _ _ _ _ _ _ LN _ LN _ _ ?_ (sat_bind h))
 rintro l273 l274 _ rfl _ rfl hkrl273 hkrl274 h
 obtain ⟨R284, h, hlR284, hrR284⟩ := sat_sbind h
 refine kX (fun σ => ∃ (q279 : Bool) (v280 : Int) (v281 : Int) (v282 : Int) (v283 : Int), R284 (.inr (q279, v280, v281, v282, v283)) ∧ σ = ⟨[(0, pX 0), (2, pS 2), (3, pS 3), (4, pS 4)], [(.x 0, some (.var [.str s1, ci v269, .osl (.sub (.s 19) 0) 0 l273.length, .osl (.sub (.s 19) 1) 0 l274.length, .bool q3, .int .u64 v4, .int .u64 v5, .int .u64 v6, .int .u64 v7, .int .u64 v8, .int .u64 v9, .int .u64 v10, .int .u64 v11, .bool q272])), (.s 2, some (.var [.bool false, .int .u64 0, .int .u64 0, .int .u64 0, .int .u64 0, .int .u64 0, .int .u64 0, .int .u64 0, .int .u64 0])), (.s 3, some (.var [.bool q279, .int .u64 v280, .int .u64 v281, .int .u64 v282, .int .u64 v283, .int .u64 v242, .int .u64 v243, .int .u64 v244, .int .u64 v245])), (.s 4, some (.var [.bool q260, .int .u64 v261, .int .u64 v262, .int .u64 v263, .int .u64 v264, .int .u64 v265, .int .u64 v266, .int .u64 v267, .int .u64 v268])), (.sub (.s 19) 0, some (.row false .set4 l273)), (.sub (.s 19) 1, some (.row false .set4 l274))]⟩) ?_ ?_
 cases q237
 replace h := sat_cf h
 conv => whnf
 exact ⟨false, v238, v239, v240, v241, sat_some h, rfl⟩
 replace h := sat_ct h
 refine kL [(.s 3)] (h141a_join _ _ _ _ _ _ _ _ _ _ _ _ _ _ _ ?_ (sat_bind h))
 rintro v285 v286 v287 v288 h
 conv => whnf
 exact ⟨true, v285, v286, v287, v288, sat_some h, rfl⟩
 rintro _ ⟨q279, v280, v281, v282, v283, h, rfl⟩
 replace h := hrR284 _ h
 obtain ⟨R294, h, hlR294, hrR294⟩ := sat_sbind h
 refine kX (fun σ => ∃ (v289 : Int) (v290 : Int) (v291 : Int) (v292 : Int) (q293 : Bool), R294 (.inr (v289, v290, v291, v292, q293)) ∧ σ = ⟨[(0, pX 0), (2, pS 2), (3, pS 3), (4, pS 4)], [(.x 0, some (.var [.str s1, ci v269, .osl (.sub (.s 19) 0) 0 l273.length, .osl (.sub (.s 19) 1) 0 l274.length, .bool q3, .int .u64 v4, .int .u64 v5, .int .u64 v6, .int .u64 v7, .int .u64 v8, .int .u64 v9, .int .u64 v10, .int .u64 v11, .bool q272])), (.s 2, some (.var [.bool false, .int .u64 0, .int .u64 0, .int .u64 0, .int .u64 0, .int .u64 0, .int .u64 0, .int .u64 0, .int .u64 0])), (.s 3, some (.var [.bool q279, .int .u64 v280, .int .u64 v281, .int .u64 v282, .int .u64 v283, .int .u64 v289, .int .u64 v290, .int .u64 v291, .int .u64 v292])), (.s 4, some (.var [.bool q293, .int .u64 v261, .int .u64 v262, .int .u64 v263, .int .u64 v264, .int .u64 v265, .int .u64 v266, .int .u64 v267, .int .u64 v268])), (.sub (.s 19) 0, some (.row false .set4 l273)), (.sub (.s 19) 1, some (.row false .set4 l274))]⟩) ?_ ?_
 cases q260
 replace h := sat_cf h
 conv => whnf
 exact ⟨(0 : Int), (0 : Int), (0 : Int), (0 : Int), false, sat_some h, rfl⟩
 replace h := sat_ct h
 conv => whnf
 exact ⟨v242, v243, v244, v245, true, sat_some h, rfl⟩
 rintro _ ⟨v289, v290, v291, v292, q293, h, rfl⟩
 replace h := hrR294 _ h
 refine kL [(.s 3)] (h141b_join _ _ _ _ _ _ _ _ _ _ _ _ _ _ _ ?_ (sat_bind h))
 rintro v295 v296 v297 v298 h
 cases q279
 replace h := sat_cf h
 conv => whnf
 exact ⟨g231, nls, g231, l273, l274, v269, q272, false, v280, v281, v282, v283, v295, v296, v297, v298, _, _, rfl, LN, LN, h, rfl⟩
 replace h := sat_ct h
 conv => whnf
 exact ⟨g231, nls, g231, l273, l274, v269, q272, q293, v280, v281, v282, v283, v295, v296, v297, v298, _, _, rfl, LN, LN, h, rfl⟩
 rintro _ ⟨q149, v150, v151, v152, v153, v154, v155, v156, v157, v158, q159, l160, l161, _, _, rfl, rfl, h, rfl⟩
 replace h := hrR164 _ h
 exact kR [(.sub (.sub (.x 0) 600) 2), (.sub (.sub (.x 0) 600) 3)] (ND 3) (hQ _ _ _ _ _ _ _ _ _ _ _ _ _ _ LN _ LN (sat_some h))
theorem w168_item {O : Oracle TT} (self173_atom : BA → Int → Bool → Int → Int → Int → Int → Int → Int → Int → Int → Bool → L4 → L4 → Option (Bool × Int × Int × Int × Int × Int × Int × Int × Int × Int × L4 × L4 × Bool)) (h156b_more : C156b_more O f156b_more) (h157b_peek : C157b_peek O f157b_peek) (h173_atom : C173_atom O self173_atom) (h169_link : C169_link O f169_link) : C168_item (fun _ => vcF (S := SS) O j168_item) (b168_item self173_atom) := by
 intro s1 v2 q3 v4 v5 v6 v7 v8 v9 v10 v11 q12 r13 r14 n0 en0 n1 en1 Q R hQ h
 subst en0
 subst en1
 unfold b168_item at h
 refine ⟨nle rfl, rfl, ?_⟩
 refine kL [(.x 0), (.x 1), (.x 2)] (h173_atom _ _ _ _ _ _ _ _ _ _ _ _ _ _ _ LN _ LN _ _ ?_ (sat_bind h))
 rintro q15 v16 v17 v18 v19 v20 v21 v22 v23 v24 l25 l26 q27 _ rfl _ rfl h
 refine kL [(.x 0), (.sub (.s 6) 0), (.sub (.s 6) 1)] (h156b_more _ _ _ _ _ _ _ _ _ _ _ _ _ _ _ LN _ LN _ _ ?_ (sat_bind h))
 rintro q28 l29 l30 q31 _ rfl _ rfl hkrl29 hkrl30 h
 cases q28
 replace h := sat_cf h
 exact kR [(.sub (.s 6) 0), (.sub (.s 6) 1)] (ND 3) (hQ _ _ _ _ _ _ _ _ _ _ _ _ _ _ LN _ LN (sat_some h))
 replace h := sat_ct h
 refine kL [(.x 0), (.sub (.s 6) 0), (.sub (.s 6) 1)] (h157b_peek _ _ _ _ _ _ _ _ _ _ _ _ _ _ _ LN _ LN _ _ ?_ (sat_bind h))
 rintro v32 l33 l34 _ rfl _ rfl hkrl33 hkrl34 h
 refine kc h (fun h => ?_) fun h => ?_
 refine kc h (fun h => ?_) fun h => ?_
 cases q15
 replace h := sat_cf h
 refine kc h (fun h => ?_) fun h => ?_
 exact kR [(.sub (.s 6) 0), (.sub (.s 6) 1)] (ND 3) (hQ _ _ _ _ _ _ _ _ _ _ _ _ _ _ LN _ LN (sat_some h))
 exact kR [(.sub (.s 6) 0), (.sub (.s 6) 1)] (ND 3) (hQ _ _ _ _ _ _ _ _ _ _ _ _ _ _ LN _ LN (sat_some h))
 replace h := sat_ct h
 exact kR [(.sub (.s 6) 0), (.sub (.s 6) 1)] (ND 3) (hQ _ _ _ _ _ _ _ _ _ _ _ _ _ _ LN _ LN (sat_some h))
 refine kL [(.x 0), (.sub (.s 6) 0), (.sub (.s 6) 1)] (h169_link _ _ _ _ _ _ _ _ _ _ _ _ _ _ _ _ _ _ _ _ _ _ _ LN _ LN _ _ ?_ (sat_bind h))
 rintro l38 l39 _ rfl _ rfl hkrl38 hkrl39 h
 cases q15
 replace h := sat_cf h
 refine kc h (fun h => ?_) fun h => ?_
 exact kR [(.sub (.s 6) 0), (.sub (.s 6) 1)] (ND 3) (hQ _ _ _ _ _ _ _ _ _ _ _ _ _ _ LN _ LN (sat_some h))
 exact kR [(.sub (.s 6) 0), (.sub (.s 6) 1)] (ND 3) (hQ _ _ _ _ _ _ _ _ _ _ _ _ _ _ LN _ LN (sat_some h))
 replace h := sat_ct h
 exact kR [(.sub (.s 6) 0), (.sub (.s 6) 1)] (ND 3) (hQ _ _ _ _ _ _ _ _ _ _ _ _ _ _ LN _ LN (sat_some h))
 refine kc h (fun h => ?_) fun h => ?_
 refine kc h (fun h => ?_) fun h => ?_
 cases q15
 replace h := sat_cf h
 refine kc h (fun h => ?_) fun h => ?_
 exact kR [(.sub (.s 6) 0), (.sub (.s 6) 1)] (ND 3) (hQ _ _ _ _ _ _ _ _ _ _ _ _ _ _ LN _ LN (sat_some h))
 exact kR [(.sub (.s 6) 0), (.sub (.s 6) 1)] (ND 3) (hQ _ _ _ _ _ _ _ _ _ _ _ _ _ _ LN _ LN (sat_some h))
 replace h := sat_ct h
 exact kR [(.sub (.s 6) 0), (.sub (.s 6) 1)] (ND 3) (hQ _ _ _ _ _ _ _ _ _ _ _ _ _ _ LN _ LN (sat_some h))
 refine kL [(.x 0), (.sub (.s 6) 0), (.sub (.s 6) 1)] (h169_link _ _ _ _ _ _ _ _ _ _ _ _ _ _ _ _ _ _ _ _ _ _ _ LN _ LN _ _ ?_ (sat_bind h))
 rintro l44 l45 _ rfl _ rfl hkrl44 hkrl45 h
 cases q15
 replace h := sat_cf h
 refine kc h (fun h => ?_) fun h => ?_
 exact kR [(.sub (.s 6) 0), (.sub (.s 6) 1)] (ND 3) (hQ _ _ _ _ _ _ _ _ _ _ _ _ _ _ LN _ LN (sat_some h))
 exact kR [(.sub (.s 6) 0), (.sub (.s 6) 1)] (ND 3) (hQ _ _ _ _ _ _ _ _ _ _ _ _ _ _ LN _ LN (sat_some h))
 replace h := sat_ct h
 exact kR [(.sub (.s 6) 0), (.sub (.s 6) 1)] (ND 3) (hQ _ _ _ _ _ _ _ _ _ _ _ _ _ _ LN _ LN (sat_some h))
 refine kc h (fun h => ?_) fun h => ?_
 refine kc h (fun h => ?_) fun h => ?_
 cases q15
 replace h := sat_cf h
 refine kc h (fun h => ?_) fun h => ?_
 exact kR [(.sub (.s 6) 0), (.sub (.s 6) 1)] (ND 3) (hQ _ _ _ _ _ _ _ _ _ _ _ _ _ _ LN _ LN (sat_some h))
 exact kR [(.sub (.s 6) 0), (.sub (.s 6) 1)] (ND 3) (hQ _ _ _ _ _ _ _ _ _ _ _ _ _ _ LN _ LN (sat_some h))
 replace h := sat_ct h
 exact kR [(.sub (.s 6) 0), (.sub (.s 6) 1)] (ND 3) (hQ _ _ _ _ _ _ _ _ _ _ _ _ _ _ LN _ LN (sat_some h))
 refine kL [(.x 0), (.sub (.s 6) 0), (.sub (.s 6) 1)] (h169_link _ _ _ _ _ _ _ _ _ _ _ _ _ _ _ _ _ _ _ _ _ _ _ LN _ LN _ _ ?_ (sat_bind h))
 rintro l50 l51 _ rfl _ rfl hkrl50 hkrl51 h
 cases q15
 replace h := sat_cf h
 refine kc h (fun h => ?_) fun h => ?_
 exact kR [(.sub (.s 6) 0), (.sub (.s 6) 1)] (ND 3) (hQ _ _ _ _ _ _ _ _ _ _ _ _ _ _ LN _ LN (sat_some h))
 exact kR [(.sub (.s 6) 0), (.sub (.s 6) 1)] (ND 3) (hQ _ _ _ _ _ _ _ _ _ _ _ _ _ _ LN _ LN (sat_some h))
 replace h := sat_ct h
 exact kR [(.sub (.s 6) 0), (.sub (.s 6) 1)] (ND 3) (hQ _ _ _ _ _ _ _ _ _ _ _ _ _ _ LN _ LN (sat_some h))
 exact kR [(.sub (.s 6) 0), (.sub (.s 6) 1)] (ND 3) (hQ _ _ _ _ _ _ _ _ _ _ _ _ _ _ LN _ LN (sat_some h))
theorem w173_atom {O : Oracle TT} (fuel : Nat) (self138_alternatives : BA → Int → Bool → Int → Int → Int → Int → Int → Int → Int → Int → Bool → L4 → L4 → Option (Bool × Int × Int × Int × Int × Int × Int × Int × Int × Int × L4 × L4 × Bool)) (h91_IndexByte : C91_IndexByte O f91_IndexByte) (h178_add : C178_add O f178_add) (h138_alternatives : C138_alternatives O self138_alternatives) (h157b_peek : C157b_peek O f157b_peek) (h179_position : C179_position O f179_position) (h177_bytes : C177_bytes O (f177_bytes fuel)) (h176_turn : C176_turn O f176_turn) : C173_atom (fun _ => vcF (S := SS) O j173_atom) (b173_atom fuel self138_alternatives) := by
 intro s1 v2 q3 v4 v5 v6 v7 v8 v9 v10 v11 q12 r13 r14 n0 en0 n1 en1 Q R hQ h
 subst en0
 subst en1
 unfold b173_atom at h
 refine ⟨nle rfl, rfl, ?_⟩
 refine kL [(.x 0), (.x 1), (.x 2)] (h157b_peek _ _ _ _ _ _ _ _ _ _ _ _ _ _ _ LN _ LN _ _ ?_ (sat_bind h))
 rintro v15 l16 l17 _ rfl _ rfl hkrl16 hkrl17 h
 refine kc h (fun h => ?_) fun h => ?_
 refine kc h (fun h => ?_) fun h => ?_
 refine kc h (fun h => ?_) fun h => ?_
 refine kc h (fun h => ?_) fun h => ?_
 refine kL [] (h91_IndexByte _ _ _ _ ?_ (sat_bind h))
 rintro v22 h
 refine kc h (fun h => ?_) fun h => ?_
 refine kL [(.s 4)] (h178_add _ _ _ _ _ _ _ ?_ (sat_bind h))
 rintro v24 v25 v26 v27 h
 refine kL [(.x 0), (.x 1), (.x 2)] (h179_position _ _ _ _ _ _ _ _ _ _ _ _ _ _ _ _ _ _ _ LN _ LN _ _ ?_ (sat_bind h))
 rintro q28 v29 v30 v31 v32 v33 v34 v35 v36 l37 l38 q39 _ rfl _ rfl h
 exact kR [(.sub (.s 112) 0), (.sub (.s 112) 1)] (ND 3) (hQ _ _ _ _ _ _ _ _ _ _ _ _ _ _ LN _ LN (sat_some h))
 exact kR [(.sub (.sub (.x 0) 801) 2), (.sub (.sub (.x 0) 801) 3)] (ND 3) (hQ _ _ _ _ _ _ _ _ _ _ _ _ _ _ LN _ LN (sat_some h))
 refine kc h (fun h => ?_) fun h => ?_
 refine kg (sat_getB h) fun c41 hc41 h => ?_
 refine kL [(.s 4)] (h178_add _ _ _ _ _ _ _ ?_ (sat_bind h))
 rintro v42 v43 v44 v45 h
 refine kL [(.x 0), (.x 1), (.x 2)] (h179_position _ _ _ _ _ _ _ _ _ _ _ _ _ _ _ _ _ _ _ LN _ LN _ _ ?_ (sat_bind h))
 rintro q46 v47 v48 v49 v50 v51 v52 v53 v54 l55 l56 q57 _ rfl _ rfl h
 exact kR [(.sub (.s 112) 0), (.sub (.s 112) 1)] (ND 3) (hQ _ _ _ _ _ _ _ _ _ _ _ _ _ _ LN _ LN (sat_some h))
 exact kR [(.sub (.sub (.x 0) 801) 2), (.sub (.sub (.x 0) 801) 3)] (ND 3) (hQ _ _ _ _ _ _ _ _ _ _ _ _ _ _ LN _ LN (sat_some h))
 refine kL [(.x 0), (.x 1), (.x 2)] (h177_bytes _ _ _ _ _ _ _ _ _ _ _ _ _ _ _ LN _ LN _ _ ?_ (sat_bind h))
 rintro w58 w59 w60 w61 v62 l63 l64 q65 _ rfl _ rfl hkrl63 hkrl64 h
 refine kL [(.x 0), (.x 1), (.x 2)] (h179_position _ _ _ _ _ _ _ _ _ _ _ _ _ _ _ _ _ _ _ LN _ LN _ _ ?_ (sat_bind h))
 rintro q66 v67 v68 v69 v70 v71 v72 v73 v74 l75 l76 q77 _ rfl _ rfl h
 exact kR [(.sub (.s 112) 0), (.sub (.s 112) 1)] (ND 3) (hQ _ _ _ _ _ _ _ _ _ _ _ _ _ _ LN _ LN (sat_some h))
 refine kL [(.s 4)] (h176_turn _ _ _ _ _ _ ?_ (sat_bind h))
 rintro v78 v79 v80 v81 h
 refine kL [(.x 0), (.x 1), (.x 2)] (h179_position _ _ _ _ _ _ _ _ _ _ _ _ _ _ _ _ _ _ _ LN _ LN _ _ ?_ (sat_bind h))
 rintro q82 v83 v84 v85 v86 v87 v88 v89 v90 l91 l92 q93 _ rfl _ rfl h
 exact kR [(.sub (.s 112) 0), (.sub (.s 112) 1)] (ND 3) (hQ _ _ _ _ _ _ _ _ _ _ _ _ _ _ LN _ LN (sat_some h))
 refine kL [(.x 0), (.x 1), (.x 2)] (h138_alternatives _ _ _ _ _ _ _ _ _ _ _ _ _ _ _ LN _ LN _ _ ?_ (sat_bind h))
 rintro q94 v95 v96 v97 v98 v99 v100 v101 v102 v103 l104 l105 q106 _ rfl _ rfl h
 obtain ⟨R118, h, hlR118, hrR118⟩ := sat_sbind h
 refine kX (fun σ => ∃ (q113 : Bool) (l114 : L4) (l115 : L4) (n116 : Nat) (n117 : Nat), n116 = l114.length ∧ n117 = l115.length ∧ R118 (.inr (q113, l114, l115)) ∧ σ = ⟨[(0, pX 0), (2, pS 2), (5, pS 5)], [(.x 0, some (.var [.str s1, ci v103, .osl (.sub (.s 21) 0) 0 n116, .osl (.sub (.s 21) 1) 0 n117, .bool q3, .int .u64 v4, .int .u64 v5, .int .u64 v6, .int .u64 v7, .int .u64 v8, .int .u64 v9, .int .u64 v10, .int .u64 v11, .bool q113])), (.s 2, some (.var [.bool false, .int .u64 0, .int .u64 0, .int .u64 0, .int .u64 0, .int .u64 0, .int .u64 0, .int .u64 0, .int .u64 0])), (.s 5, some (.var [.bool q94, .int .u64 v95, .int .u64 v96, .int .u64 v97, .int .u64 v98, .int .u64 v99, .int .u64 v100, .int .u64 v101, .int .u64 v102])), (.x 1, none), (.x 2, none), (.sub (.s 21) 0, some (.row false .set4 l114)), (.sub (.s 21) 1, some (.row false .set4 l115))]⟩) ?_ ?_
 cases q106
 replace h := sat_cf h
 refine kL [(.x 0), (.sub (.s 21) 0), (.sub (.s 21) 1)] (h157b_peek _ _ _ _ _ _ _ _ _ _ _ _ _ _ _ LN _ LN _ _ ?_ (sat_bind h))
 rintro v119 l120 l121 _ rfl _ rfl hkrl120 hkrl121 h
 refine kc h (fun h => ?_) fun h => ?_
 conv => whnf
 refine ⟨?_, ?_⟩
 refine kc h (fun h => ?_) fun h => ?_
 conv => whnf
 exact ⟨false, l120, l121, _, _, LN, LN, sat_some h, rfl⟩
 conv => whnf
 exact ⟨true, l120, l121, _, _, LN, LN, sat_some h, rfl⟩
 refine kc h (fun h => ?_) fun h => ?_
 conv => whnf
 exact ⟨false, l120, l121, _, _, LN, LN, sat_some h, rfl⟩
 conv => whnf
 exact ⟨true, l120, l121, _, _, LN, LN, sat_some h, rfl⟩
 conv => whnf
 refine ⟨?_, ?_⟩
 conv => whnf
 exact ⟨true, l120, l121, _, _, LN, LN, sat_some h, rfl⟩
 conv => whnf
 exact ⟨true, l120, l121, _, _, LN, LN, sat_some h, rfl⟩
 replace h := sat_ct h
 conv => whnf
 refine ⟨?_, ?_⟩
 conv => whnf
 exact ⟨true, l104, l105, _, _, LN, LN, sat_some h, rfl⟩
 conv => whnf
 exact ⟨true, l104, l105, _, _, LN, LN, sat_some h, rfl⟩
 rintro _ ⟨q113, l114, l115, _, _, rfl, rfl, h, rfl⟩
 replace h := hrR118 _ h
 cases q113
 replace h := sat_cf h
 exact kR [(.sub (.sub (.x 0) 801) 2), (.sub (.sub (.x 0) 801) 3)] (ND 3) (hQ _ _ _ _ _ _ _ _ _ _ _ _ _ _ LN _ LN (sat_some h))
 replace h := sat_ct h
 exact kR [(.sub (.sub (.x 0) 801) 2), (.sub (.sub (.x 0) 801) 3)] (ND 3) (hQ _ _ _ _ _ _ _ _ _ _ _ _ _ _ LN _ LN (sat_some h))
theorem cg138_alternatives {P : Program} {fid : Nat → FuncId} (mx : MX P) (k138_alternatives : KF P fid 138 j138_alternatives) (k155_sequence : KF P fid 155 j155_sequence) (k168_item : KF P fid 168 j168_item) (k173_atom : KF P fid 173 j173_atom) (h156b_more : C156b_more (SP P fid) f156b_more) (h157b_peek : C157b_peek (SP P fid) f157b_peek) (h141a_join : C141a_join (SP P fid) f141a_join) (h141b_join : C141b_join (SP P fid) f141b_join) (h169_link : C169_link (SP P fid) f169_link) (h91_IndexByte : C91_IndexByte (SP P fid) f91_IndexByte) (h178_add : C178_add (SP P fid) f178_add) (h179_position : C179_position (SP P fid) f179_position) (h177_bytes : ∀ n, C177_bytes (SP P fid) (f177_bytes n)) (h176_turn : C176_turn (SP P fid) f176_turn) : ∀ n, C138_alternatives (SP P fid) (f138_alternatives n) ∧ C155_sequence (SP P fid) (f155_sequence n) ∧ C168_item (SP P fid) (f168_item n) ∧ C173_atom (SP P fid) (f173_atom n) := by
 intro n
 induction n with
 | zero => exact ⟨fun a0 a1 a2 a3 a4 a5 a6 a7 a8 a9 a10 a11 a12 a13 n0 e0 n1 e1 Q R hQ h => (sat_none h).elim, fun a0 a1 a2 a3 a4 a5 a6 a7 a8 a9 a10 a11 a12 a13 n0 e0 n1 e1 Q R hQ h => (sat_none h).elim, fun a0 a1 a2 a3 a4 a5 a6 a7 a8 a9 a10 a11 a12 a13 n0 e0 n1 e1 Q R hQ h => (sat_none h).elim, fun a0 a1 a2 a3 a4 a5 a6 a7 a8 a9 a10 a11 a12 a13 n0 e0 n1 e1 Q R hQ h => (sat_none h).elim⟩
 | succ n ih =>
  obtain ⟨ih0, ih1, ih2, ih3⟩ := ih
  exact ⟨fun a0 a1 a2 a3 a4 a5 a6 a7 a8 a9 a10 a11 a12 a13 n0 e0 n1 e1 Q R hQ h => spec_of_vc mx k138_alternatives (w138_alternatives n (f155_sequence n) ih1 h156b_more h157b_peek h141a_join h141b_join a0 a1 a2 a3 a4 a5 a6 a7 a8 a9 a10 a11 a12 a13 n0 e0 n1 e1 Q R hQ h), fun a0 a1 a2 a3 a4 a5 a6 a7 a8 a9 a10 a11 a12 a13 n0 e0 n1 e1 Q R hQ h => spec_of_vc mx k155_sequence (w155_sequence n (f168_item n) h156b_more h157b_peek ih2 h169_link h141a_join h141b_join a0 a1 a2 a3 a4 a5 a6 a7 a8 a9 a10 a11 a12 a13 n0 e0 n1 e1 Q R hQ h), fun a0 a1 a2 a3 a4 a5 a6 a7 a8 a9 a10 a11 a12 a13 n0 e0 n1 e1 Q R hQ h => spec_of_vc mx k168_item (w168_item (f173_atom n) h156b_more h157b_peek ih3 h169_link a0 a1 a2 a3 a4 a5 a6 a7 a8 a9 a10 a11 a12 a13 n0 e0 n1 e1 Q R hQ h), fun a0 a1 a2 a3 a4 a5 a6 a7 a8 a9 a10 a11 a12 a13 n0 e0 n1 e1 Q R hQ h => spec_of_vc mx k173_atom (w173_atom n (f138_alternatives n) h91_IndexByte h178_add ih0 h157b_peek h179_position (h177_bytes n) h176_turn a0 a1 a2 a3 a4 a5 a6 a7 a8 a9 a10 a11 a12 a13 n0 e0 n1 e1 Q R hQ h)⟩
theorem c138_alternatives {P : Program} {fid : Nat → FuncId} (mx : MX P) (k138_alternatives : KF P fid 138 j138_alternatives) (k155_sequence : KF P fid 155 j155_sequence) (k168_item : KF P fid 168 j168_item) (k173_atom : KF P fid 173 j173_atom) (h156b_more : C156b_more (SP P fid) f156b_more) (h157b_peek : C157b_peek (SP P fid) f157b_peek) (h141a_join : C141a_join (SP P fid) f141a_join) (h141b_join : C141b_join (SP P fid) f141b_join) (h169_link : C169_link (SP P fid) f169_link) (h91_IndexByte : C91_IndexByte (SP P fid) f91_IndexByte) (h178_add : C178_add (SP P fid) f178_add) (h179_position : C179_position (SP P fid) f179_position) (h177_bytes : ∀ n, C177_bytes (SP P fid) (f177_bytes n)) (h176_turn : C176_turn (SP P fid) f176_turn) : ∀ n, C138_alternatives (SP P fid) (f138_alternatives n) := fun n => (cg138_alternatives mx k138_alternatives k155_sequence k168_item k173_atom h156b_more h157b_peek h141a_join h141b_join h169_link h91_IndexByte h178_add h179_position h177_bytes h176_turn n).1
def f109_parse (fuel : Nat) : BA → Option (L4 × L4 × Bool × Int × Int × Int × Int × Int × Int × Int × Int × Int)
 | s1 => cond (decide ((s1.size : Int) > 200)) (some ([], [], false, 0, 0, 0, 0, 0, 0, 0, 0, 2)) ((f138_alternatives fuel s1 (0 : Int) false (0 : Int) (0 : Int) (0 : Int) (0 : Int) (0 : Int) (0 : Int) (0 : Int) (0 : Int) false ([(0, 0, 0, 0)] : L4) ([(0, 0, 0, 0)] : L4)).bind fun (q3, v4, v5, v6, v7, v8, v9, v10, v11, v12, l13, l14, q15) => cond q15 (some ([], [], false, 0, 0, 0, 0, 0, 0, 0, 0, 14)) (cond (decide (v12 < (s1.size : Int))) (some ([], [], false, 0, 0, 0, 0, 0, 0, 0, 0, 14)) (grdP ((0 : Int) ≤ 0 ∧ 0 < ((l14.length : Nat) : Int)) (getN l14 (0 + (0 : Int).toNat) fun uu22 => match uu22 with | (w18, w19, w20, w21) => some (l13, (l14.set (0 + (0 : Int).toNat) (v4, v5, v6, v7)), q3, v4, v5, v6, v7, v8, v9, v10, v11, 0)))))
def C109_parse (O : Oracle TT) (m : BA → Option (L4 × L4 × Bool × Int × Int × Int × Int × Int × Int × Int × Int × Int)) : Prop :=
 ∀ (s1 : BA) (Q : (L4 × L4 × Bool × Int × Int × Int × Int × Int × Int × Int × Int × Int) → Prop) (R : RR) (_ : ∀ (l23 : L4) (l24 : L4) (q25 : Bool) (v26 : Int) (v27 : Int) (v28 : Int) (v29 : Int) (v30 : Int) (v31 : Int) (v32 : Int) (v33 : Int) (v34 : Int), Q (l23, l24, q25, v26, v27, v28, v29, v30, v31, v32, v33, v34) → R (.tup [.agg [.isl .set4 l23, .isl .set4 l24, .bool q25, .int .u64 v26, .int .u64 v27, .int .u64 v28, .int .u64 v29, .int .u64 v30, .int .u64 v31, .int .u64 v32, .int .u64 v33], iD v34]) []) (_ : sat (m s1) Q), O 109 [sD s1] [] R
def j109_parse : Fn TT := ⟨51, [.cell 2 11 true, .t 3], (.seq (.reg [qo 2 (.alloc 2 [.isl .set4 [], .isl .set4 [], .bool false, .int .u64 0, .int .u64 0, .int .u64 0, .int .u64 0, .int .u64 0, .int .u64 0, .int .u64 0, .int .u64 0]),qo 3 (.mv (iC 0))]) (.seq (.seq (.reg [qo 6 (.mv 0),qo 7 (.len true 6),qo 8 (.bin .gtr .num 7 (iC 200))]) (.cond 8 (.seq
 (.reg [qo 9 (.build [.isl .set4 [], .isl .set4 [], .bool false, .int .u64 0, .int .u64 0, .int .u64 0, .int .u64 0, .int .u64 0, .int .u64 0, .int .u64 0, .int .u64 0] []),qp (.store 2 9 11),qo 3 (.mv (iC 2))]) .ret) .skip)) (.seq (.reg [qo 10 (.mv 0),qo 11 (.build [.int .u64 0, .int .u64 0, .int .u64 0, .int .u64 0] []),qo 12 (.bslice 12 .set4 [11]),
 qo 13 (.build [.int .u64 0, .int .u64 0, .int .u64 0, .int .u64 0] []),qo 14 (.bslice 14 .set4 [13]),qo 15 (.build [.isl .set4 [], .isl .set4 [], .bool false, .int .u64 0, .int .u64 0, .int .u64 0, .int .u64 0, .int .u64 0, .int .u64 0, .int .u64 0, .int .u64 0] [((0, 1), 12), ((1, 1), 14)]),
 qo 16 (.build [.str eB, .int .i64 0, .isl .set4 [], .isl .set4 [], .bool false, .int .u64 0, .int .u64 0, .int .u64 0, .int .u64 0, .int .u64 0, .int .u64 0, .int .u64 0, .int .u64 0, .bool false] [((0, 1), 10), ((2, 11), 15)]),qo 17 (.box 17 16),qo 4 (.mv 17)]) (.seq (.reg [qo 18 (.mv 4),qo 19 (.call 19 138 [18]),
 qo 5 (.alloc 5 [.bool false, .int .u64 0, .int .u64 0, .int .u64 0, .int .u64 0, .int .u64 0, .int .u64 0, .int .u64 0, .int .u64 0]),qp (.store 5 19 9)]) (.seq (.seq (.reg [qo 20 (.mv 4),qo 21 (.nilck 20),qo 22 (.fa 21 13),qo 23 (.load 22 1 false),qo 24 (.mv 23),qf 24 25 (.mv 4),qf 24 26 (.nilck 25),qf 24 27 (.fa 26 1),qf 24 28 (.load 27 1 false),qf 24 29 (.mv 0),
 qf 24 30 (.len true 29),qf 24 31 (.bin .lss .num 28 30),qo 32 (.pick 24 bT 31)]) (.cond 32 (.seq (.reg [qo 33 (.build [.isl .set4 [], .isl .set4 [], .bool false, .int .u64 0, .int .u64 0, .int .u64 0, .int .u64 0, .int .u64 0, .int .u64 0, .int .u64 0, .int .u64 0] []),qp (.store 2 33 11),qo 3 (.mv (iC 14))]) .ret) .skip)) (.seq (.reg [qo 34 (.mv 4),qo 35 (.load 5 9 true),qo 36 (.nilck 34),
 qo 37 (.fa 36 2),qo 38 (.fa 37 2),qp (.store 38 35 9)]) (.seq (.drw [] (oR 9) [8] (List.range 8) [qo 39 (.mv 4),qo 40 (.nilck 39),qo 41 (.fa 40 2),qo 42 (.fa 41 1),qo 43 (.load 42 1 false),qo 44 (.fa 5 1),qo 45 (.load 44 4 true),qo 46 (.idxA 43 (iC 0) 4),qp (.store 46 45 4)]) (.seq (.reg [qo 47 (.mv 4),qo 48 (.nilck 47),qo 49 (.fa 48 2),qo 50 (.load 49 11 true),qp (.store 2 50 11),
 qo 3 (.mv (iC 0))]) (.pre [.frzc (.s 2) 0 .set4, .frzc (.s 2) 1 .set4] .ret)))))))))⟩
theorem w109_parse {O : Oracle TT} (fuel : Nat) (h138_alternatives : C138_alternatives O (f138_alternatives fuel)) : C109_parse (fun _ => vcF (S := SS) O j109_parse) (f109_parse fuel) := by
 intro s1 Q R hQ h
 unfold f109_parse at h
 refine ⟨nle rfl, rfl, ?_⟩
 refine kc h (fun h => ?_) fun h => ?_
 refine kL [(.s 17), (.s 12), (.s 14)] (h138_alternatives _ _ _ _ _ _ _ _ _ _ _ _ _ _ _ LN _ LN _ _ ?_ (sat_bind h))
 rintro q3 v4 v5 v6 v7 v8 v9 v10 v11 v12 l13 l14 q15 _ rfl _ rfl h
 cases q15
 replace h := sat_cf h
 refine kc h (fun h => ?_) fun h => ?_
 refine kp h fun hb17 h => ?_
 refine kg (sat_getN h) fun uu22 huu22 h => ?_
 obtain ⟨w18, w19, w20, w21⟩ := uu22
 refine ⟨(v4, v5, v6, v7), rfl, ?_⟩
 conv => whnf
 refine ⟨LN, ?_⟩
 conv => whnf
 refine ⟨LN, ?_⟩
 exact kR [] (ND 0) (hQ _ _ _ _ _ _ _ _ _ _ _ _ (sat_some h))
 exact kR [] (ND 0) (hQ _ _ _ _ _ _ _ _ _ _ _ _ (sat_some h))
 replace h := sat_ct h
 exact kR [] (ND 0) (hQ _ _ _ _ _ _ _ _ _ _ _ _ (sat_some h))
 exact kR [] (ND 0) (hQ _ _ _ _ _ _ _ _ _ _ _ _ (sat_some h))
theorem c109_parse {P : Program} {fid : Nat → FuncId} (mx : MX P) (k109_parse : KF P fid 109 j109_parse) (h138_alternatives : ∀ n, C138_alternatives (SP P fid) (f138_alternatives n)) : ∀ n, C109_parse (SP P fid) (f109_parse n) :=
 fun n => fun a0 Q R hQ h => spec_of_vc mx k109_parse (w109_parse n (h138_alternatives n) a0 Q R hQ h)
def f110b_add : Int → Int → Int → Int → Int → Option N4
 | v1, v2, v3, v4, v5 => caseI (wrap .i64 (Int.tdiv v1 64)) [grdP (0 ≤ (Int.tmod v1 64)) (some ((bOr .u64 v2 (bShl .u64 1 (Int.tmod v1 64))), v3, v4, v5)), grdP (0 ≤ (Int.tmod v1 64)) (some (v2, (bOr .u64 v3 (bShl .u64 1 (Int.tmod v1 64))), v4, v5)), grdP (0 ≤ (Int.tmod v1 64)) (some (v2, v3, (bOr .u64 v4 (bShl .u64 1 (Int.tmod v1 64))), v5)), grdP (0 ≤ (Int.tmod v1 64)) (some (v2, v3, v4, (bOr .u64 v5 (bShl .u64 1 (Int.tmod v1 64)))))]
def C110b_add (O : Oracle TT) (m : Int → Int → Int → Int → Int → Option N4) : Prop :=
 ∀ (v1 : Int) (v2 : Int) (v3 : Int) (v4 : Int) (v5 : Int) (Q : N4 → Prop) (R : RR) (_ : ∀ (v15 : Int) (v16 : Int) (v17 : Int) (v18 : Int), Q (v15, v16, v17, v18) → R (.tup []) [(.x 0, some (.var [.int .u64 v15, .int .u64 v16, .int .u64 v17, .int .u64 v18]))]) (_ : sat (m v1 v2 v3 v4 v5) Q), O 110 [pX 0, iD v1] [(.x 0, some (.var [.int .u64 v2, .int .u64 v3, .int .u64 v4, .int .u64 v5]))] R
def j110b_add : Fn TT := ⟨16, [], (.drw [] (oR 13) [12] (List.range 12) [qo 4 (.mv 0),qo 5 (.mv 1),qo 6 (.bin .quo .num 5 (iC 64)),qo 7 (.nilck 4),qo 8 (.idxC 7 6 1 4),qo 9 (.load 8 1 false),qo 10 (.mv 1),qo 11 (.bin .rem .num 10 (iC 64)),qo 12 (.bin .shl .num (.c (.int .u64 1)) 11),qo 13 (.bin .or .num 9 12),qo 14 (.nilck 4),qo 15 (.idxC 14 6 1 4),qp (.store 15 13 1)])⟩
theorem w110b_add {O : Oracle TT} : C110b_add (fun _ => vcF (S := SS) O j110b_add) f110b_add := by
 intro v1 v2 v3 v4 v5 Q R hQ h
 unfold f110b_add at h
 refine ⟨nle rfl, rfl, ?_⟩
 conv => whnf
 refine ⟨by decide, ?_⟩
 conv => whnf
 obtain ⟨hbj6, h⟩ := sat_caseI h
 refine ⟨hbj6, fun j6 hj6 => ?_⟩
 replace h := h j6 hj6
 replace hbj6 : (0 : Int) ≤ (wrap .i64 (Int.tdiv v1 64)) ∧ (wrap .i64 (Int.tdiv v1 64)) < 4 := hbj6
 have hcj6 : j6 = 0 ∨ j6 = 1 ∨ j6 = 2 ∨ j6 = 3 := by omega
 rcases hcj6 with rfl | rfl | rfl | rfl
 replace h := sat_j0 h
 conv => whnf
 refine ⟨by decide, ?_⟩
 refine kp h fun hb8 h => ?_
 conv => whnf
 refine ⟨⟨by omega, by omega⟩, fun j7 hj7 => ?_⟩
 obtain rfl : j7 = 0 := by omega
 exact kR [] (ND 1) (hQ _ _ _ _ (sat_some h))
 replace h := sat_j1 h
 conv => whnf
 refine ⟨by decide, ?_⟩
 refine kp h fun hb10 h => ?_
 conv => whnf
 refine ⟨⟨by omega, by omega⟩, fun j9 hj9 => ?_⟩
 obtain rfl : j9 = 1 := by omega
 exact kR [] (ND 1) (hQ _ _ _ _ (sat_some h))
 replace h := sat_j2 h
 conv => whnf
 refine ⟨by decide, ?_⟩
 refine kp h fun hb12 h => ?_
 conv => whnf
 refine ⟨⟨by omega, by omega⟩, fun j11 hj11 => ?_⟩
 obtain rfl : j11 = 2 := by omega
 exact kR [] (ND 1) (hQ _ _ _ _ (sat_some h))
 replace h := sat_j3 h
 conv => whnf
 refine ⟨by decide, ?_⟩
 refine kp h fun hb14 h => ?_
 conv => whnf
 refine ⟨⟨by omega, by omega⟩, fun j13 hj13 => ?_⟩
 obtain rfl : j13 = 3 := by omega
 exact kR [] (ND 1) (hQ _ _ _ _ (sat_some h))
theorem c110b_add {P : Program} {fid : Nat → FuncId} (mx : MX P) (k110b_add : KF P fid 110 j110b_add) : C110b_add (SP P fid) f110b_add :=
 fun a0 a1 a2 a3 a4 Q R hQ h => spec_of_vc mx k110b_add (w110b_add a0 a1 a2 a3 a4 Q R hQ h)
def f139_has : N4 → Int → Option (Bool)
 | (v1, v2, v3, v4), v5 => caseI (wrap .u8 (Int.tdiv v5 64)) [grdP (0 ≤ (Int.tmod v5 64)) (cond ((bAnd .u64 (bShr .u64 v1 (Int.tmod v5 64)) 1) == 1) (some true) (some false)), grdP (0 ≤ (Int.tmod v5 64)) (cond ((bAnd .u64 (bShr .u64 v2 (Int.tmod v5 64)) 1) == 1) (some true) (some false)), grdP (0 ≤ (Int.tmod v5 64)) (cond ((bAnd .u64 (bShr .u64 v3 (Int.tmod v5 64)) 1) == 1) (some true) (some false)), grdP (0 ≤ (Int.tmod v5 64)) (cond ((bAnd .u64 (bShr .u64 v4 (Int.tmod v5 64)) 1) == 1) (some true) (some false))]
def C139_has (O : Oracle TT) (m : N4 → Int → Option (Bool)) : Prop :=
 ∀ (v1 : Int) (v2 : Int) (v3 : Int) (v4 : Int) (v5 : Int) (Q : Bool → Prop) (R : RR) (_ : ∀ (q15 : Bool), Q q15 → R (bD q15) []) (_ : sat (m (v1, v2, v3, v4) v5) Q), O 139 [.c (.iptr .set4 (v1, v2, v3, v4) 0), .c (.int .u8 v5)] [] R
def j139_has : Fn TT := ⟨16, [.t 4], (.seq (.reg [qo 4 (.mv bF)]) (.seq (.reg [qo 5 (.mv 0),qo 6 (.mv 1),qo 7 (.bin .quo .num 6 (.c (.int .u8 64))),qo 8 (.nilck 5),qo 9 (.idxC 8 7 1 4),qo 10 (.load 9 1 false),qo 11 (.mv 1),qo 12 (.bin .rem .num 11 (.c (.int .u8 64))),qo 13 (.bin .shr .num 10 12),qo 14 (.bin .and .num 13 (.c (.int .u64 1))),qo 15 (.bin .eql .num 14 (.c (.int .u64 1))),
 qo 4 (.mv 15)]) .ret))⟩
theorem w139_has {O : Oracle TT} : C139_has (fun _ => vcF (S := SS) O j139_has) f139_has := by
 intro v1 v2 v3 v4 v5 Q R hQ h
 unfold f139_has at h
 refine ⟨nle rfl, rfl, ?_⟩
 conv => whnf
 refine ⟨by decide, ?_⟩
 conv => whnf
 obtain ⟨hbj6, h⟩ := sat_caseI h
 refine ⟨hbj6, fun j6 hj6 => ?_⟩
 replace h := h j6 hj6
 replace hbj6 : (0 : Int) ≤ (wrap .u8 (Int.tdiv v5 64)) ∧ (wrap .u8 (Int.tdiv v5 64)) < 4 := hbj6
 have hcj6 : j6 = 0 ∨ j6 = 1 ∨ j6 = 2 ∨ j6 = 3 := by omega
 rcases hcj6 with rfl | rfl | rfl | rfl
 replace h := sat_j0 h
 conv => whnf
 refine ⟨by decide, ?_⟩
 refine kp h fun hb8 h => ?_
 refine kc h (fun h => ?_) fun h => ?_
 exact kR [] (ND 0) (hQ _ (sat_some h))
 exact kR [] (ND 0) (hQ _ (sat_some h))
 replace h := sat_j1 h
 conv => whnf
 refine ⟨by decide, ?_⟩
 refine kp h fun hb10 h => ?_
 refine kc h (fun h => ?_) fun h => ?_
 exact kR [] (ND 0) (hQ _ (sat_some h))
 exact kR [] (ND 0) (hQ _ (sat_some h))
 replace h := sat_j2 h
 conv => whnf
 refine ⟨by decide, ?_⟩
 refine kp h fun hb12 h => ?_
 refine kc h (fun h => ?_) fun h => ?_
 exact kR [] (ND 0) (hQ _ (sat_some h))
 exact kR [] (ND 0) (hQ _ (sat_some h))
 replace h := sat_j3 h
 conv => whnf
 refine ⟨by decide, ?_⟩
 refine kp h fun hb14 h => ?_
 refine kc h (fun h => ?_) fun h => ?_
 exact kR [] (ND 0) (hQ _ (sat_some h))
 exact kR [] (ND 0) (hQ _ (sat_some h))
theorem c139_has {P : Program} {fid : Nat → FuncId} (mx : MX P) (k139_has : KF P fid 139 j139_has) : C139_has (SP P fid) f139_has :=
 fun a0 a1 a2 a3 a4 Q R hQ h => spec_of_vc mx k139_has (w139_has a0 a1 a2 a3 a4 Q R hQ h)
def f110c_add : Nat → Int → L4 → Option (L4)
 | e1, v2, r3 => caseI (wrap .i64 (Int.tdiv v2 64)) [getN r3 e1 fun uu9 => match uu9 with | (w5, w6, w7, w8) => grdP (0 ≤ (Int.tmod v2 64)) (getN r3 e1 fun uu15 => match uu15 with | (w11, w12, w13, w14) => some (r3.set e1 ((bOr .u64 w5 (bShl .u64 1 (Int.tmod v2 64))), w12, w13, w14))), getN r3 e1 fun uu21 => match uu21 with | (w17, w18, w19, w20) => grdP (0 ≤ (Int.tmod v2 64)) (getN r3 e1 fun uu27 => match uu27 with | (w23, w24, w25, w26) => some (r3.set e1 (w23, (bOr .u64 w18 (bShl .u64 1 (Int.tmod v2 64))), w25, w26))), getN r3 e1 fun uu33 => match uu33 with | (w29, w30, w31, w32) => grdP (0 ≤ (Int.tmod v2 64)) (getN r3 e1 fun uu39 => match uu39 with | (w35, w36, w37, w38) => some (r3.set e1 (w35, w36, (bOr .u64 w31 (bShl .u64 1 (Int.tmod v2 64))), w38))), getN r3 e1 fun uu45 => match uu45 with | (w41, w42, w43, w44) => grdP (0 ≤ (Int.tmod v2 64)) (getN r3 e1 fun uu51 => match uu51 with | (w47, w48, w49, w50) => some (r3.set e1 (w47, w48, w49, (bOr .u64 w44 (bShl .u64 1 (Int.tmod v2 64))))))]
def C110c_add (O : Oracle TT) (m : Nat → Int → L4 → Option (L4)) : Prop :=
 ∀ (e1 : Nat) (v2 : Int) (r3 : L4) (Q : L4 → Prop) (R : RR) (_ : ∀ (l53 : L4) (_ : l53.length = r3.length), Q l53 → R (.tup []) [(.x 0, some (.row false .set4 l53))]) (_ : sat (m e1 v2 r3) Q), O 110 [.c (.ptr (.x 0) e1 0), iD v2] [(.x 0, some (.row false .set4 r3))] R
def j110c_add : Fn TT := ⟨16, [], (.drw [] (oR 13) [12] (List.range 12) [qo 4 (.mv 0),qo 5 (.mv 1),qo 6 (.bin .quo .num 5 (iC 64)),qo 7 (.nilck 4),qo 8 (.idxC 7 6 1 4),qo 9 (.load 8 1 false),qo 10 (.mv 1),qo 11 (.bin .rem .num 10 (iC 64)),qo 12 (.bin .shl .num (.c (.int .u64 1)) 11),qo 13 (.bin .or .num 9 12),qo 14 (.nilck 4),qo 15 (.idxC 14 6 1 4),qp (.store 15 13 1)])⟩
theorem w110c_add {O : Oracle TT} : C110c_add (fun _ => vcF (S := SS) O j110c_add) f110c_add := by
 intro e1 v2 r3 Q R hQ h
 unfold f110c_add at h
 refine ⟨nle rfl, rfl, ?_⟩
 conv => whnf
 refine ⟨by decide, ?_⟩
 conv => whnf
 obtain ⟨hbj4, h⟩ := sat_caseI h
 refine ⟨hbj4, fun j4 hj4 => ?_⟩
 replace h := h j4 hj4
 replace hbj4 : (0 : Int) ≤ (wrap .i64 (Int.tdiv v2 64)) ∧ (wrap .i64 (Int.tdiv v2 64)) < 4 := hbj4
 have hcj4 : j4 = 0 ∨ j4 = 1 ∨ j4 = 2 ∨ j4 = 3 := by omega
 rcases hcj4 with rfl | rfl | rfl | rfl
 replace h := sat_j0 h
 refine kg (sat_getN h) fun uu9 huu9 h => ?_
 obtain ⟨w5, w6, w7, w8⟩ := uu9
 conv => whnf
 refine ⟨by decide, ?_⟩
 refine kp h fun hb16 h => ?_
 conv => whnf
 refine ⟨⟨by omega, by omega⟩, fun j10 hj10 => ?_⟩
 obtain rfl : j10 = 0 := by omega
 refine kg (sat_getN h) fun uu15 huu15 h => ?_
 obtain ⟨w11, w12, w13, w14⟩ := uu15
 refine ⟨((bOr .u64 w5 (bShl .u64 1 (Int.tmod v2 64))), w12, w13, w14), rfl, ?_⟩
 exact kR [] (ND 1) (hQ _ LN (sat_some h))
 replace h := sat_j1 h
 refine kg (sat_getN h) fun uu21 huu21 h => ?_
 obtain ⟨w17, w18, w19, w20⟩ := uu21
 conv => whnf
 refine ⟨by decide, ?_⟩
 refine kp h fun hb28 h => ?_
 conv => whnf
 refine ⟨⟨by omega, by omega⟩, fun j22 hj22 => ?_⟩
 obtain rfl : j22 = 1 := by omega
 refine kg (sat_getN h) fun uu27 huu27 h => ?_
 obtain ⟨w23, w24, w25, w26⟩ := uu27
 refine ⟨(w23, (bOr .u64 w18 (bShl .u64 1 (Int.tmod v2 64))), w25, w26), rfl, ?_⟩
 exact kR [] (ND 1) (hQ _ LN (sat_some h))
 replace h := sat_j2 h
 refine kg (sat_getN h) fun uu33 huu33 h => ?_
 obtain ⟨w29, w30, w31, w32⟩ := uu33
 conv => whnf
 refine ⟨by decide, ?_⟩
 refine kp h fun hb40 h => ?_
 conv => whnf
 refine ⟨⟨by omega, by omega⟩, fun j34 hj34 => ?_⟩
 obtain rfl : j34 = 2 := by omega
 refine kg (sat_getN h) fun uu39 huu39 h => ?_
 obtain ⟨w35, w36, w37, w38⟩ := uu39
 refine ⟨(w35, w36, (bOr .u64 w31 (bShl .u64 1 (Int.tmod v2 64))), w38), rfl, ?_⟩
 exact kR [] (ND 1) (hQ _ LN (sat_some h))
 replace h := sat_j3 h
 refine kg (sat_getN h) fun uu45 huu45 h => ?_
 obtain ⟨w41, w42, w43, w44⟩ := uu45
 conv => whnf
 refine ⟨by decide, ?_⟩
 refine kp h fun hb52 h => ?_
 conv => whnf
 refine ⟨⟨by omega, by omega⟩, fun j46 hj46 => ?_⟩
 obtain rfl : j46 = 3 := by omega
 refine kg (sat_getN h) fun uu51 huu51 h => ?_
 obtain ⟨w47, w48, w49, w50⟩ := uu51
 refine ⟨(w47, w48, w49, (bOr .u64 w44 (bShl .u64 1 (Int.tmod v2 64)))), rfl, ?_⟩
 exact kR [] (ND 1) (hQ _ LN (sat_some h))
theorem c110c_add {P : Program} {fid : Nat → FuncId} (mx : MX P) (k110c_add : KF P fid 110 j110c_add) : C110c_add (SP P fid) f110c_add :=
 fun a0 a1 a2 Q R hQ h => spec_of_vc mx k110c_add (w110c_add a0 a1 a2 Q R hQ h)
def f111_at_L10 (v204 : Int) : L4 → Nat → L4 → Option (Sum (Sum (L4) (L4)) (L4))
 | [], j254, l258 => some (.inr l258)
 | ((w260, w261, w262, w263)) :: tl256, j254, l258 => (f139_has (w260, w261, w262, w263) (wrap .u8 v204)).bind fun q265 => cond q265 (grdP ((0 : Int) ≤ v204 ∧ v204 < 256) ((f110c_add v204.toNat ((j254 : Nat) : Int) l258).bind fun l267 => f111_at_L10 v204 tl256 (j254 + 1) l267)) (f111_at_L10 v204 tl256 (j254 + 1) l258)
def f111_at_L8 (l1 : L4) : Nat → Int → L4 → Option (Sum (L4) (L4))
 | 0, v204, l208 => some (.inr l208)
 | g206 + 1, v204, l208 => sbind (ο := L4) (f111_at_L10 v204 l1 0 l208) (fun l238 => f111_at_L8 l1 g206 (v204 + 1) l238)
def f111_at : L4 → L4 → Bool → Int → Int → Int → Int → Int → Int → Int → Int → Option (L4)
 | l1, l2, q3, v4, v5, v6, v7, v8, v9, v10, v11 => sbind (ο := L4) (grdP ((256 : Int) ≤ 9223372036854775807) (f111_at_L8 l1 ((256 : Int) - 0).toNat 0 (List.replicate 256 ((0, 0, 0, 0) : Int × Int × Int × Int)))) (fun l139 => some l139)
def C111_at (O : Oracle TT) (m : L4 → L4 → Bool → Int → Int → Int → Int → Int → Int → Int → Int → Option (L4)) : Prop :=
 ∀ (l1 : L4) (l2 : L4) (q3 : Bool) (v4 : Int) (v5 : Int) (v6 : Int) (v7 : Int) (v8 : Int) (v9 : Int) (v10 : Int) (v11 : Int) (Q : L4 → Prop) (R : RR) (_ : ∀ (l268 : L4), Q l268 → R (pX 1) [(.x 0, some (.var [.isl .set4 l1, .isl .set4 l2, .bool q3, .int .u64 v4, .int .u64 v5, .int .u64 v6, .int .u64 v7, .int .u64 v8, .int .u64 v9, .int .u64 v10, .int .u64 v11])), (.x 1, some (.row false .set4 l268))]) (_ : sat (m l1 l2 q3 v4 v5 v6 v7 v8 v9 v10 v11) Q), O 111 [pX 0] [(.x 0, some (.var [.isl .set4 l1, .isl .set4 l2, .bool q3, .int .u64 v4, .int .u64 v5, .int .u64 v6, .int .u64 v7, .int .u64 v8, .int .u64 v9, .int .u64 v10, .int .u64 v11]))] R
def j111_at : Fn TT := ⟨32, [.t 2], (.seq (.reg [qo 2 (.mv (.c (.nilp)))]) (.seq (.reg [qo 3 (.allocR 3 .set4 256 ((0, 0, 0, 0) : Int × Int × Int × Int))]) (.cut [3] [(.s 3), (.x 0)] (.seq (.reg [qo 6 (.mv (iC 0))]) (.block 0 (.loop (.keep [0, 3, 6] [(.x 0), (.s 3)] (.aft (.seq (.reg [qo 7 (.bin .lss .num 6 (iC 256))]) (.seq (.cond 7 .skip (.exit 0)) (.cut [0, 3, 6] [(.x 0), (.s 3)] (.block 1
 (.seq (.reg [qo 8 (.mv 6),qo 4 (.mv 8)]) (.seq (.reg [qo 9 (.mv 0),qo 10 (.nilck 9),qo 11 (.fa 10 0),qo 12 (.load 11 1 false),qo 13 (.len false 12),qo 14 (.mv (iC 0))]) (.block 2 (.loop (.keep [0, 3, 4, 6, 13, 14] [(.x 0), (.s 3)] (.aft (.seq (.reg [qo 15 (.bin .lss .num 14 13)]) (.seq (.cond 15 .skip (.exit 2)) (.seq (.block 3 (.seq (.reg [qo 16 (.mv 14),qo 5 (.mv 16)]) (.seq
 (.reg [qo 17 (.mv 0),qo 18 (.nilck 17),qo 19 (.fa 18 0),qo 20 (.load 19 1 false),qo 21 (.mv 5),qo 22 (.idxA 20 21 4),qo 23 (.mv 4),qo 24 (.conv .u8 23),qo 25 (.call 25 139 [22, 24])]) (.cond 25 (.reg [qo 26 (.mv 4),qo 27 (.idxR 3 26 4 256),qo 28 (.mv 5),qo 29 (.call 29 110 [27, 28])]) .skip)))) (.reg [qo 30 (.bin .add .num 14 (iC 1)),
 qo 14 (.mv 30)])))) [.keep [0, 3, 4, 6, 13, 14] [(.x 0), (.s 3)]]))))))) (.reg [qo 31 (.bin .add .num 6 (iC 1)),qo 6 (.mv 31)])))) [.keep [0, 3, 6] [(.x 0), (.s 3)]]))))) (.seq (.reg [qo 2 (.mv 3)]) .ret))))⟩
theorem w111_at {O : Oracle TT} (h139_has : C139_has O f139_has) (h110c_add : C110c_add O f110c_add) : C111_at (fun _ => vcF (S := SS) O j111_at) f111_at := by
 intro l1 l2 q3 v4 v5 v6 v7 v8 v9 v10 v11 Q R hQ h
 unfold f111_at at h
 refine ⟨nle rfl, rfl, ?_⟩
 obtain ⟨R140, h, hlR140, hrR140⟩ := sat_sbind h
 refine kX (fun σ => ∃ (l139 : L4), R140 (.inr l139) ∧ σ = ⟨[(3, pS 3)], [(.s 3, some (.row false .set4 l139)), (.x 0, some (.var [.isl .set4 l1, .isl .set4 l2, .bool q3, .int .u64 v4, .int .u64 v5, .int .u64 v6, .int .u64 v7, .int .u64 v8, .int .u64 v9, .int .u64 v10, .int .u64 v11]))]⟩) ?_ ?_
 obtain ⟨hN207, h⟩ := sat_grdP h
 refine kX (fun σ n => ∃ (f205 : Nat) (v204 : Int) (z : Int) (l208 : L4), f205 = n ∧ f205 = (256 - v204).toNat ∧ 0 ≤ v204 ∧ v204 = z ∧ sat (f111_at_L8 l1 f205 v204 l208) R140 ∧ σ.keep [0, 3, 6] [(.x 0), (.s 3)] = ⟨[(0, pX 0), (3, pS 3), (6, iD z)], [(.x 0, some (.var [.isl .set4 l1, .isl .set4 l2, .bool q3, .int .u64 v4, .int .u64 v5, .int .u64 v6, .int .u64 v7, .int .u64 v8, .int .u64 v9, .int .u64 v10, .int .u64 v11])), (.s 3, some (.row false .set4 l208))]⟩) ⟨_, _, 0, _, (List.replicate 256 ((0, 0, 0, 0) : Int × Int × Int × Int)), rfl, rfl, (by decide), rfl, h, rfl⟩ ?_
 rintro σ n ⟨f205, v204, _, l208, rfl, hf205, hpf205, rfl, h, hσ⟩
 refine kk hσ ?_
 intro t209 (ht209 : t209 = decide (v204 < 256))
 cases t209
 obtain rfl := il_nil hf205 ht209
 rw [f111_at_L8] at h
 conv => whnf
 exact ⟨l208, sat_some h, rfl⟩
 obtain ⟨g206, rfl, hwg206, hpg206, hfg206⟩ := il_cons hf205 hpf205 ht209 hN207
 rw [f111_at_L8] at h
 obtain ⟨R239, h, hlR239, hrR239⟩ := sat_sbind h
 refine kX (fun σ => ∃ (l238 : L4), R239 (.inr l238) ∧ σ = ⟨[(0, pX 0), (3, pS 3), (6, iD v204)], [(.x 0, some (.var [.isl .set4 l1, .isl .set4 l2, .bool q3, .int .u64 v4, .int .u64 v5, .int .u64 v6, .int .u64 v7, .int .u64 v8, .int .u64 v9, .int .u64 v10, .int .u64 v11])), (.s 3, some (.row false .set4 l238))]⟩) ?_ ?_
 intro hl240
 refine kX (fun σ n => ∃ (rem255 : L4) (j254 : Nat) (z : Int) (l258 : L4), n = rem255.length ∧ l1.drop j254 = rem255 ∧ z = ((j254 : Nat) : Int) ∧ sat (f111_at_L10 v204 rem255 j254 l258) R239 ∧ σ.keep [0, 3, 4, 6, 13, 14] [(.x 0), (.s 3)] = ⟨[(0, pX 0), (3, pS 3), (4, iD v204), (6, iD v204), (13, iD ((l1.length : Nat) : Int)), (14, iD z)], [(.x 0, some (.var [.isl .set4 l1, .isl .set4 l2, .bool q3, .int .u64 v4, .int .u64 v5, .int .u64 v6, .int .u64 v7, .int .u64 v8, .int .u64 v9, .int .u64 v10, .int .u64 v11])), (.s 3, some (.row false .set4 l258))]⟩) ⟨_, l1, 0, _, l208, rfl, rfl, rfl, h, rfl⟩ ?_
 rintro σ n ⟨rem255, j254, _, l258, rfl, hrem255, rfl, h, hσ⟩
 refine kk hσ ?_
 intro t259 (ht259 : t259 = decide (((j254 : Nat) : Int) < ((l1.length : Nat) : Int)))
 cases t259
 obtain rfl := ll_nil hrem255 ht259
 rw [f111_at_L10] at h
 conv => whnf
 exact ⟨l258, sat_some h, rfl⟩
 obtain ⟨x257, tl256, rfl, hx257, htl256⟩ := ll_cons hrem255 ht259
 obtain ⟨w260, w261, w262, w263⟩ := x257
 rw [f111_at_L10] at h
 conv => whnf
 refine ⟨lx_bd hx257, fun uu264 huu264 => ?_⟩
 obtain rfl := lx_eq hx257 huu264
 refine kL [] (h139_has _ _ _ _ _ _ _ ?_ (sat_bind h))
 rintro q265 h
 cases q265
 replace h := sat_cf h
 conv => whnf
 exact ⟨tl256.length, nls, tl256, j254 + 1, _, l258, rfl, htl256, lx_wr hx257 hl240, h, rfl⟩
 replace h := sat_ct h
 refine kp h fun hb266 h => ?_
 refine kL [(.s 3)] (h110c_add _ _ _ _ _ ?_ (sat_bind h))
 rintro l267 hkrl267 h
 conv => whnf
 exact ⟨tl256.length, nls, tl256, j254 + 1, _, l267, rfl, htl256, lx_wr hx257 hl240, h, rfl⟩
 rintro _ ⟨l238, h, rfl⟩
 replace h := hrR239 _ h
 conv => whnf
 exact ⟨g206, nls, g206, v204 + 1, _, l238, rfl, hfg206, hpg206, hwg206.symm, h, rfl⟩
 rintro _ ⟨l139, h, rfl⟩
 replace h := hrR140 _ h
 exact kR [(.s 3)] (ND 1) (hQ _ (sat_some h))
theorem c111_at {P : Program} {fid : Nat → FuncId} (mx : MX P) (k111_at : KF P fid 111 j111_at) (h139_has : C139_has (SP P fid) f139_has) (h110c_add : C110c_add (SP P fid) f110c_add) : C111_at (SP P fid) f111_at :=
 fun a0 a1 a2 a3 a4 a5 a6 a7 a8 a9 a10 Q R hQ h => spec_of_vc mx k111_at (w111_at h139_has h110c_add a0 a1 a2 a3 a4 a5 a6 a7 a8 a9 a10 Q R hQ h)
def f141c_join_L1 (w1 : Int) (w2 : Int) (w3 : Int) (w4 : Int) : Nat → Int → Int → Int → Int → Int → Option N4
 | 0, v26, v30, v31, v32, v33 => some (v30, v31, v32, v33)
 | g28 + 1, v26, v30, v31, v32, v33 => caseI v26 [f141c_join_L1 w1 w2 w3 w4 g28 (v26 + 1) (bOr .u64 v30 w1) v31 v32 v33, f141c_join_L1 w1 w2 w3 w4 g28 (v26 + 1) v30 (bOr .u64 v31 w2) v32 v33, f141c_join_L1 w1 w2 w3 w4 g28 (v26 + 1) v30 v31 (bOr .u64 v32 w3) v33, f141c_join_L1 w1 w2 w3 w4 g28 (v26 + 1) v30 v31 v32 (bOr .u64 v33 w4)]
def f141c_join : N4 → Int → Int → Int → Int → Option N4
 | (w1, w2, w3, w4), v5, v6, v7, v8 => grdP ((4 : Int) ≤ 9223372036854775807) (f141c_join_L1 w1 w2 w3 w4 ((4 : Int) - 0).toNat 0 v5 v6 v7 v8)
def C141c_join (O : Oracle TT) (m : N4 → Int → Int → Int → Int → Option N4) : Prop :=
 ∀ (w1 : Int) (w2 : Int) (w3 : Int) (w4 : Int) (v5 : Int) (v6 : Int) (v7 : Int) (v8 : Int) (Q : N4 → Prop) (R : RR) (_ : ∀ (v44 : Int) (v45 : Int) (v46 : Int) (v47 : Int), Q (v44, v45, v46, v47) → R (.tup []) [(.x 0, some (.var [.int .u64 v44, .int .u64 v45, .int .u64 v46, .int .u64 v47]))]) (_ : sat (m (w1, w2, w3, w4) v5 v6 v7 v8) Q), O 141 [pX 0, .agg [.int .u64 w1, .int .u64 w2, .int .u64 w3, .int .u64 w4]] [(.x 0, some (.var [.int .u64 v5, .int .u64 v6, .int .u64 v7, .int .u64 v8]))] R
def j141c_join : Fn TT := ⟨20, [], (.seq (.reg [qo 3 (.box 3 1)]) (.seq (.reg [qo 5 (.mv (iC 0))]) (.block 0 (.loop (.keep [0, 3, 5] [(.x 0), (.s 3)] (.aft (.seq (.reg [qo 6 (.bin .lss .num 5 (iC 4))]) (.seq (.cond 6 .skip (.exit 0)) (.seq (.block 1 (.seq (.reg [qo 7 (.mv 5),qo 4 (.mv 7)]) (.drw [] (oR 12) [11] (List.range 11) [qo 8 (.mv 0),qo 9 (.mv 4),qo 10 (.nilck 8),qo 11 (.idxC 10 9 1 4),
 qo 12 (.load 11 1 false),qo 13 (.mv 4),qo 14 (.idxC 3 13 1 4),qo 15 (.load 14 1 false),qo 16 (.bin .or .num 12 15),qo 17 (.nilck 8),qo 18 (.idxC 17 9 1 4),qp (.store 18 16 1)]))) (.reg [qo 19 (.bin .add .num 5 (iC 1)),qo 5 (.mv 19)])))) [.keep [0, 3, 5] [(.x 0), (.s 3)]]))))))⟩
theorem w141c_join {O : Oracle TT} : C141c_join (fun _ => vcF (S := SS) O j141c_join) f141c_join := by
 intro w1 w2 w3 w4 v5 v6 v7 v8 Q R hQ h
 unfold f141c_join at h
 refine ⟨nle rfl, rfl, ?_⟩
 obtain ⟨hN29, h⟩ := sat_grdP h
 refine kX (fun σ n => ∃ (f27 : Nat) (v26 : Int) (z : Int) (v30 : Int) (v31 : Int) (v32 : Int) (v33 : Int), f27 = n ∧ f27 = (4 - v26).toNat ∧ 0 ≤ v26 ∧ v26 = z ∧ sat (f141c_join_L1 w1 w2 w3 w4 f27 v26 v30 v31 v32 v33) Q ∧ σ.keep [0, 3, 5] [(.x 0), (.s 3)] = ⟨[(0, pX 0), (3, pS 3), (5, iD z)], [(.x 0, some (.var [.int .u64 v30, .int .u64 v31, .int .u64 v32, .int .u64 v33])), (.s 3, some (.var [.int .u64 w1, .int .u64 w2, .int .u64 w3, .int .u64 w4]))]⟩) ⟨_, _, 0, _, v5, v6, v7, v8, rfl, rfl, (by decide), rfl, h, rfl⟩ ?_
 rintro σ n ⟨f27, v26, _, v30, v31, v32, v33, rfl, hf27, hpf27, rfl, h, hσ⟩
 refine kk hσ ?_
 intro t34 (ht34 : t34 = decide (v26 < 4))
 cases t34
 obtain rfl := il_nil hf27 ht34
 rw [f141c_join_L1] at h
 exact kR [] (ND 1) (hQ _ _ _ _ (sat_some h))
 obtain ⟨g28, rfl, hwg28, hpg28, hfg28⟩ := il_cons hf27 hpf27 ht34 hN29
 rw [f141c_join_L1] at h
 conv => whnf
 obtain ⟨hbj35, h⟩ := sat_caseI h
 refine ⟨hbj35, fun j35 hj35 => ?_⟩
 replace h := h j35 hj35
 replace hbj35 : (0 : Int) ≤ v26 ∧ v26 < 4 := hbj35
 have hcj35 : j35 = 0 ∨ j35 = 1 ∨ j35 = 2 ∨ j35 = 3 := by omega
 rcases hcj35 with rfl | rfl | rfl | rfl
 replace h := sat_j0 h
 conv => whnf
 refine ⟨⟨by omega, by omega⟩, fun j36 hj36 => ?_⟩
 obtain rfl : j36 = 0 := by omega
 conv => whnf
 refine ⟨⟨by omega, by omega⟩, fun j37 hj37 => ?_⟩
 obtain rfl : j37 = 0 := by omega
 conv => whnf
 exact ⟨g28, nls, g28, v26 + 1, _, (bOr .u64 v30 w1), v31, v32, v33, rfl, hfg28, hpg28, hwg28.symm, h, rfl⟩
 replace h := sat_j1 h
 conv => whnf
 refine ⟨⟨by omega, by omega⟩, fun j38 hj38 => ?_⟩
 obtain rfl : j38 = 1 := by omega
 conv => whnf
 refine ⟨⟨by omega, by omega⟩, fun j39 hj39 => ?_⟩
 obtain rfl : j39 = 1 := by omega
 conv => whnf
 exact ⟨g28, nls, g28, v26 + 1, _, v30, (bOr .u64 v31 w2), v32, v33, rfl, hfg28, hpg28, hwg28.symm, h, rfl⟩
 replace h := sat_j2 h
 conv => whnf
 refine ⟨⟨by omega, by omega⟩, fun j40 hj40 => ?_⟩
 obtain rfl : j40 = 2 := by omega
 conv => whnf
 refine ⟨⟨by omega, by omega⟩, fun j41 hj41 => ?_⟩
 obtain rfl : j41 = 2 := by omega
 conv => whnf
 exact ⟨g28, nls, g28, v26 + 1, _, v30, v31, (bOr .u64 v32 w3), v33, rfl, hfg28, hpg28, hwg28.symm, h, rfl⟩
 replace h := sat_j3 h
 conv => whnf
 refine ⟨⟨by omega, by omega⟩, fun j42 hj42 => ?_⟩
 obtain rfl : j42 = 3 := by omega
 conv => whnf
 refine ⟨⟨by omega, by omega⟩, fun j43 hj43 => ?_⟩
 obtain rfl : j43 = 3 := by omega
 conv => whnf
 exact ⟨g28, nls, g28, v26 + 1, _, v30, v31, v32, (bOr .u64 v33 w4), rfl, hfg28, hpg28, hwg28.symm, h, rfl⟩
theorem c141c_join {P : Program} {fid : Nat → FuncId} (mx : MX P) (k141c_join : KF P fid 141 j141c_join) : C141c_join (SP P fid) f141c_join :=
 fun a0 a1 a2 a3 a4 a5 a6 a7 Q R hQ h => spec_of_vc mx k141c_join (w141c_join a0 a1 a2 a3 a4 a5 a6 a7 Q R hQ h)
def f112_behind_L2 (w1 : Int) (w2 : Int) (w3 : Int) (w4 : Int) : L4 → Nat → Int → Int → Int → Int → Option (Sum (N4) N4)
 | [], j78, v82, v83, v84, v85 => some (.inr (v82, v83, v84, v85))
 | ((w87, w88, w89, w90)) :: tl80, j78, v82, v83, v84, v85 => (f140_has ((j78 : Nat) : Int) w1 w2 w3 w4).bind fun q91 => cond q91 ((f141c_join (w87, w88, w89, w90) v82 v83 v84 v85).bind fun (v93, v94, v95, v96) => f112_behind_L2 w1 w2 w3 w4 tl80 (j78 + 1) v93 v94 v95 v96) (f112_behind_L2 w1 w2 w3 w4 tl80 (j78 + 1) v82 v83 v84 v85)
def f112_behind : N4 → L4 → L4 → Bool → Int → Int → Int → Int → Int → Int → Int → Int → Option (N4)
 | (w1, w2, w3, w4), l5, l6, q7, v8, v9, v10, v11, v12, v13, v14, v15 => sbind (ο := Int × Int × Int × Int) (f112_behind_L2 w1 w2 w3 w4 l6 0 (0 : Int) (0 : Int) (0 : Int) (0 : Int)) (fun (v54, v55, v56, v57) => some (v54, v55, v56, v57))
def C112_behind (O : Oracle TT) (m : N4 → L4 → L4 → Bool → Int → Int → Int → Int → Int → Int → Int → Int → Option (N4)) : Prop :=
 ∀ (w1 : Int) (w2 : Int) (w3 : Int) (w4 : Int) (l5 : L4) (l6 : L4) (q7 : Bool) (v8 : Int) (v9 : Int) (v10 : Int) (v11 : Int) (v12 : Int) (v13 : Int) (v14 : Int) (v15 : Int) (Q : N4 → Prop) (R : RR) (_ : ∀ (w97 : Int) (w98 : Int) (w99 : Int) (w100 : Int), Q (w97, w98, w99, w100) → R (.agg [.int .u64 w97, .int .u64 w98, .int .u64 w99, .int .u64 w100]) [(.x 0, some (.var [.isl .set4 l5, .isl .set4 l6, .bool q7, .int .u64 v8, .int .u64 v9, .int .u64 v10, .int .u64 v11, .int .u64 v12, .int .u64 v13, .int .u64 v14, .int .u64 v15]))]) (_ : sat (m (w1, w2, w3, w4) l5 l6 q7 v8 v9 v10 v11 v12 v13 v14 v15) Q), O 112 [pX 0, .agg [.int .u64 w1, .int .u64 w2, .int .u64 w3, .int .u64 w4]] [(.x 0, some (.var [.isl .set4 l5, .isl .set4 l6, .bool q7, .int .u64 v8, .int .u64 v9, .int .u64 v10, .int .u64 v11, .int .u64 v12, .int .u64 v13, .int .u64 v14, .int .u64 v15]))] R
def j112_behind : Fn TT := ⟨27, [.cell 4 4 true], (.seq (.reg [qo 3 (.box 3 1),qo 4 (.alloc 4 [.int .u64 0, .int .u64 0, .int .u64 0, .int .u64 0])]) (.seq (.reg [qo 5 (.alloc 5 [.int .u64 0, .int .u64 0, .int .u64 0, .int .u64 0])]) (.cut [4, 5] [(.s 4), (.s 5), (.x 0)] (.seq (.reg [qo 7 (.mv 0),qo 8 (.nilck 7),qo 9 (.fa 8 1),qo 10 (.load 9 1 false),qo 11 (.len false 10),
 qo 12 (.mv (iC 0))]) (.block 0 (.loop (.keep [0, 3, 4, 5, 11, 12] [(.x 0), (.s 3), (.s 4), (.s 5)] (.aft (.seq (.reg [qo 13 (.bin .lss .num 12 11)]) (.seq (.cond 13 .skip (.exit 0)) (.seq (.block 1 (.seq (.reg [qo 14 (.mv 12),qo 6 (.mv 14)]) (.seq (.reg [qo 15 (.mv 6),qo 16 (.call 16 140 [3, 15])]) (.cond 16 (.reg [qo 17 (.mv 0),qo 18 (.nilck 17),qo 19 (.fa 18 1),qo 20 (.load 19 1 false),
 qo 21 (.mv 6),qo 22 (.idxA 20 21 4),qo 23 (.load 22 4 true),qo 24 (.call 24 141 [5, 23])]) .skip)))) (.reg [qo 25 (.bin .add .num 12 (iC 1)),qo 12 (.mv 25)])))) [.keep [0, 3, 4, 5, 11, 12] [(.x 0), (.s 3), (.s 4), (.s 5)]]))))) (.seq (.reg [qo 26 (.load 5 4 true),qp (.store 4 26 4)]) .ret))))⟩
theorem w112_behind {O : Oracle TT} (h140_has : C140_has O f140_has) (h141c_join : C141c_join O f141c_join) : C112_behind (fun _ => vcF (S := SS) O j112_behind) f112_behind := by
 intro w1 w2 w3 w4 l5 l6 q7 v8 v9 v10 v11 v12 v13 v14 v15 Q R hQ h
 unfold f112_behind at h
 refine ⟨nle rfl, rfl, ?_⟩
 obtain ⟨R58, h, hlR58, hrR58⟩ := sat_sbind h
 refine kX (fun σ => ∃ (v54 : Int) (v55 : Int) (v56 : Int) (v57 : Int), R58 (.inr (v54, v55, v56, v57)) ∧ σ = ⟨[(4, pS 4), (5, pS 5)], [(.s 4, some (.var [.int .u64 0, .int .u64 0, .int .u64 0, .int .u64 0])), (.s 5, some (.var [.int .u64 v54, .int .u64 v55, .int .u64 v56, .int .u64 v57])), (.x 0, some (.var [.isl .set4 l5, .isl .set4 l6, .bool q7, .int .u64 v8, .int .u64 v9, .int .u64 v10, .int .u64 v11, .int .u64 v12, .int .u64 v13, .int .u64 v14, .int .u64 v15]))]⟩) ?_ ?_
 intro hl59
 refine kX (fun σ n => ∃ (rem79 : L4) (j78 : Nat) (z : Int) (v82 : Int) (v83 : Int) (v84 : Int) (v85 : Int), n = rem79.length ∧ l6.drop j78 = rem79 ∧ z = ((j78 : Nat) : Int) ∧ sat (f112_behind_L2 w1 w2 w3 w4 rem79 j78 v82 v83 v84 v85) R58 ∧ σ.keep [0, 3, 4, 5, 11, 12] [(.x 0), (.s 3), (.s 4), (.s 5)] = ⟨[(0, pX 0), (3, pS 3), (4, pS 4), (5, pS 5), (11, iD ((l6.length : Nat) : Int)), (12, iD z)], [(.x 0, some (.var [.isl .set4 l5, .isl .set4 l6, .bool q7, .int .u64 v8, .int .u64 v9, .int .u64 v10, .int .u64 v11, .int .u64 v12, .int .u64 v13, .int .u64 v14, .int .u64 v15])), (.s 3, some (.var [.int .u64 w1, .int .u64 w2, .int .u64 w3, .int .u64 w4])), (.s 4, some (.var [.int .u64 0, .int .u64 0, .int .u64 0, .int .u64 0])), (.s 5, some (.var [.int .u64 v82, .int .u64 v83, .int .u64 v84, .int .u64 v85]))]⟩) ⟨_, l6, 0, _, (0 : Int), (0 : Int), (0 : Int), (0 : Int), rfl, rfl, rfl, h, rfl⟩ ?_
 rintro σ n ⟨rem79, j78, _, v82, v83, v84, v85, rfl, hrem79, rfl, h, hσ⟩
 refine kk hσ ?_
 intro t86 (ht86 : t86 = decide (((j78 : Nat) : Int) < ((l6.length : Nat) : Int)))
 cases t86
 obtain rfl := ll_nil hrem79 ht86
 rw [f112_behind_L2] at h
 conv => whnf
 exact ⟨v82, v83, v84, v85, sat_some h, rfl⟩
 obtain ⟨x81, tl80, rfl, hx81, htl80⟩ := ll_cons hrem79 ht86
 obtain ⟨w87, w88, w89, w90⟩ := x81
 rw [f112_behind_L2] at h
 refine kL [(.s 3)] (h140_has _ _ _ _ _ _ _ ?_ (sat_bind h))
 rintro q91 h
 cases q91
 replace h := sat_cf h
 conv => whnf
 exact ⟨tl80.length, nls, tl80, j78 + 1, _, v82, v83, v84, v85, rfl, htl80, lx_wr hx81 hl59, h, rfl⟩
 replace h := sat_ct h
 conv => whnf
 refine ⟨lx_bd hx81, fun uu92 huu92 => ?_⟩
 obtain rfl := lx_eq hx81 huu92
 refine kL [(.s 5)] (h141c_join _ _ _ _ _ _ _ _ _ _ ?_ (sat_bind h))
 rintro v93 v94 v95 v96 h
 conv => whnf
 exact ⟨tl80.length, nls, tl80, j78 + 1, _, v93, v94, v95, v96, rfl, htl80, lx_wr hx81 hl59, h, rfl⟩
 rintro _ ⟨v54, v55, v56, v57, h, rfl⟩
 replace h := hrR58 _ h
 exact kR [] (ND 1) (hQ _ _ _ _ (sat_some h))
theorem c112_behind {P : Program} {fid : Nat → FuncId} (mx : MX P) (k112_behind : KF P fid 112 j112_behind) (h140_has : C140_has (SP P fid) f140_has) (h141c_join : C141c_join (SP P fid) f141c_join) : C112_behind (SP P fid) f112_behind :=
 fun a0 a1 a2 a3 a4 a5 a6 a7 a8 a9 a10 a11 a12 a13 a14 Q R hQ h => spec_of_vc mx k112_behind (w112_behind h140_has h141c_join a0 a1 a2 a3 a4 a5 a6 a7 a8 a9 a10 a11 a12 a13 a14 Q R hQ h)
def f113_ends_L2 (w1 : Int) (w2 : Int) (w3 : Int) (w4 : Int) (q7 : Bool) (v12 : Int) (v13 : Int) (v14 : Int) (v15 : Int) : Nat → Int → Option (Sum (Bool × Bool) (Unit))
 | 0, v58 => some (.inr ())
 | g60 + 1, v58 => caseI v58 [cond ((bAnd .u64 w1 v12) != 0) (lft (some (true, q7))) (f113_ends_L2 w1 w2 w3 w4 q7 v12 v13 v14 v15 g60 (v58 + 1)), cond ((bAnd .u64 w2 v13) != 0) (lft (some (true, q7))) (f113_ends_L2 w1 w2 w3 w4 q7 v12 v13 v14 v15 g60 (v58 + 1)), cond ((bAnd .u64 w3 v14) != 0) (lft (some (true, q7))) (f113_ends_L2 w1 w2 w3 w4 q7 v12 v13 v14 v15 g60 (v58 + 1)), cond ((bAnd .u64 w4 v15) != 0) (lft (some (true, q7))) (f113_ends_L2 w1 w2 w3 w4 q7 v12 v13 v14 v15 g60 (v58 + 1))]
def f113_ends_L4 (w1 : Int) (w2 : Int) (w3 : Int) (w4 : Int) (v12 : Int) (v13 : Int) (v14 : Int) (v15 : Int) : Nat → Int → Option (Sum (Bool × Bool) (Unit))
 | 0, v113 => some (.inr ())
 | g115 + 1, v113 => caseI v113 [cond ((bAnd .u64 w1 v12) != 0) (lft (some (true, false))) (f113_ends_L4 w1 w2 w3 w4 v12 v13 v14 v15 g115 (v113 + 1)), cond ((bAnd .u64 w2 v13) != 0) (lft (some (true, false))) (f113_ends_L4 w1 w2 w3 w4 v12 v13 v14 v15 g115 (v113 + 1)), cond ((bAnd .u64 w3 v14) != 0) (lft (some (true, false))) (f113_ends_L4 w1 w2 w3 w4 v12 v13 v14 v15 g115 (v113 + 1)), cond ((bAnd .u64 w4 v15) != 0) (lft (some (true, false))) (f113_ends_L4 w1 w2 w3 w4 v12 v13 v14 v15 g115 (v113 + 1))]
def f113_ends : N4 → L4 → L4 → Bool → Int → Int → Int → Int → Int → Int → Int → Int → Option (Bool × Bool)
 | (w1, w2, w3, w4), l5, l6, q7, v8, v9, v10, v11, v12, v13, v14, v15 => (f140_has (0 : Int) w1 w2 w3 w4).bind fun q16 => cond q16 (cond q7 (some (true, true)) (sbind (ο := Unit) (grdP ((4 : Int) ≤ 9223372036854775807) (f113_ends_L4 w1 w2 w3 w4 v12 v13 v14 v15 ((4 : Int) - 0).toNat 0)) (fun () => some (false, false)))) (sbind (ο := Unit) (grdP ((4 : Int) ≤ 9223372036854775807) (f113_ends_L2 w1 w2 w3 w4 q7 v12 v13 v14 v15 ((4 : Int) - 0).toNat 0)) (fun () => some (false, q7)))
def C113_ends (O : Oracle TT) (m : N4 → L4 → L4 → Bool → Int → Int → Int → Int → Int → Int → Int → Int → Option (Bool × Bool)) : Prop :=
 ∀ (w1 : Int) (w2 : Int) (w3 : Int) (w4 : Int) (l5 : L4) (l6 : L4) (q7 : Bool) (v8 : Int) (v9 : Int) (v10 : Int) (v11 : Int) (v12 : Int) (v13 : Int) (v14 : Int) (v15 : Int) (Q : (Bool × Bool) → Prop) (R : RR) (_ : ∀ (q127 : Bool) (q128 : Bool), Q (q127, q128) → R (bD q127) [(.x 0, some (.var [.isl .set4 l5, .isl .set4 l6, .bool q128, .int .u64 v8, .int .u64 v9, .int .u64 v10, .int .u64 v11, .int .u64 v12, .int .u64 v13, .int .u64 v14, .int .u64 v15]))]) (_ : sat (m (w1, w2, w3, w4) l5 l6 q7 v8 v9 v10 v11 v12 v13 v14 v15) Q), O 113 [pX 0, .agg [.int .u64 w1, .int .u64 w2, .int .u64 w3, .int .u64 w4]] [(.x 0, some (.var [.isl .set4 l5, .isl .set4 l6, .bool q7, .int .u64 v8, .int .u64 v9, .int .u64 v10, .int .u64 v11, .int .u64 v12, .int .u64 v13, .int .u64 v14, .int .u64 v15]))] R
def j113_ends : Fn TT := ⟨30, [.t 4], (.seq (.reg [qo 3 (.box 3 1),qo 4 (.mv bF)]) (.seq (.seq (.reg [qo 6 (.call 6 140 [3, (iC 0)]),qo 7 (.mv 6),qg 7 8 (.mv 0),qg 7 9 (.nilck 8),qg 7 10 (.fa 9 2),qg 7 11 (.fa 10 0),qg 7 12 (.load 11 1 false),qo 13 (.pick 7 12 bF)]) (.cond 13 (.seq (.reg [qo 4 (.mv bT)]) .ret) .skip)) (.cut [] [(.x 0)] (.seq (.reg [qo 14 (.mv (iC 0))]) (.block 0
 (.loop (.keep [0, 3, 14] [(.x 0), (.s 3)] (.aft (.seq (.reg [qo 15 (.bin .lss .num 14 (iC 4))]) (.seq (.cond 15 .skip (.exit 0)) (.seq (.block 1 (.seq (.reg [qo 16 (.mv 14),qo 5 (.mv 16)]) (.seq (.drw [] (oR 12) [] (List.range 12) [qo 17 (.mv 5),qo 18 (.idxC 3 17 1 4),qo 19 (.load 18 1 false),qo 20 (.mv 0),qo 21 (.mv 5),qo 22 (.nilck 20),qo 23 (.fa 22 2),qo 24 (.fa 23 5),
 qo 25 (.idxC 24 21 1 4),qo 26 (.load 25 1 false),qo 27 (.bin .and .num 19 26),qo 28 (.bin .neq .num 27 (.c (.int .u64 0)))]) (.cond 28 (.seq (.reg [qo 4 (.mv bT)]) .ret) .skip)))) (.reg [qo 29 (.bin .add .num 14 (iC 1)),qo 14 (.mv 29)])))) [.keep [0, 3, 14] [(.x 0), (.s 3)]]))))) (.seq (.reg [qo 4 (.mv bF)]) .ret))))⟩
theorem w113_ends {O : Oracle TT} (h140_has : C140_has O f140_has) : C113_ends (fun _ => vcF (S := SS) O j113_ends) f113_ends := by
 intro w1 w2 w3 w4 l5 l6 q7 v8 v9 v10 v11 v12 v13 v14 v15 Q R hQ h
 unfold f113_ends at h
 refine ⟨nle rfl, rfl, ?_⟩
 refine kL [(.s 3)] (h140_has _ _ _ _ _ _ _ ?_ (sat_bind h))
 rintro q16 h
 cases q16
 replace h := sat_cf h
 obtain ⟨R44, h, hlR44, hrR44⟩ := sat_sbind h
 refine kX (fun σ => R44 (.inr ()) ∧ σ = ⟨[], [(.x 0, some (.var [.isl .set4 l5, .isl .set4 l6, .bool q7, .int .u64 v8, .int .u64 v9, .int .u64 v10, .int .u64 v11, .int .u64 v12, .int .u64 v13, .int .u64 v14, .int .u64 v15]))]⟩) ?_ ?_
 obtain ⟨hN61, h⟩ := sat_grdP h
 refine kX (fun σ n => ∃ (f59 : Nat) (v58 : Int) (z : Int), f59 = n ∧ f59 = (4 - v58).toNat ∧ 0 ≤ v58 ∧ v58 = z ∧ sat (f113_ends_L2 w1 w2 w3 w4 q7 v12 v13 v14 v15 f59 v58) R44 ∧ σ.keep [0, 3, 14] [(.x 0), (.s 3)] = ⟨[(0, pX 0), (3, pS 3), (14, iD z)], [(.x 0, some (.var [.isl .set4 l5, .isl .set4 l6, .bool q7, .int .u64 v8, .int .u64 v9, .int .u64 v10, .int .u64 v11, .int .u64 v12, .int .u64 v13, .int .u64 v14, .int .u64 v15])), (.s 3, some (.var [.int .u64 w1, .int .u64 w2, .int .u64 w3, .int .u64 w4]))]⟩) ⟨_, _, 0, _, rfl, rfl, (by decide), rfl, h, rfl⟩ ?_
 rintro σ n ⟨f59, v58, _, rfl, hf59, hpf59, rfl, h, hσ⟩
 refine kk hσ ?_
 intro t62 (ht62 : t62 = decide (v58 < 4))
 cases t62
 obtain rfl := il_nil hf59 ht62
 rw [f113_ends_L2] at h
 conv => whnf
 exact ⟨sat_some h, rfl⟩
 obtain ⟨g60, rfl, hwg60, hpg60, hfg60⟩ := il_cons hf59 hpf59 ht62 hN61
 rw [f113_ends_L2] at h
 conv => whnf
 obtain ⟨hbj63, h⟩ := sat_caseI h
 refine ⟨hbj63, fun j63 hj63 => ?_⟩
 replace h := h j63 hj63
 replace hbj63 : (0 : Int) ≤ v58 ∧ v58 < 4 := hbj63
 have hcj63 : j63 = 0 ∨ j63 = 1 ∨ j63 = 2 ∨ j63 = 3 := by omega
 rcases hcj63 with rfl | rfl | rfl | rfl
 replace h := sat_j0 h
 conv => whnf
 refine ⟨⟨by omega, by omega⟩, fun j64 hj64 => ?_⟩
 obtain rfl : j64 = 0 := by omega
 refine kc h (fun h => ?_) fun h => ?_
 conv => whnf
 exact ⟨g60, nls, g60, v58 + 1, _, rfl, hfg60, hpg60, hwg60.symm, h, rfl⟩
 replace h := sat_lft hlR44 h
 exact kR [] (ND 1) (hQ _ _ (sat_some h))
 replace h := sat_j1 h
 conv => whnf
 refine ⟨⟨by omega, by omega⟩, fun j66 hj66 => ?_⟩
 obtain rfl : j66 = 1 := by omega
 refine kc h (fun h => ?_) fun h => ?_
 conv => whnf
 exact ⟨g60, nls, g60, v58 + 1, _, rfl, hfg60, hpg60, hwg60.symm, h, rfl⟩
 replace h := sat_lft hlR44 h
 exact kR [] (ND 1) (hQ _ _ (sat_some h))
 replace h := sat_j2 h
 conv => whnf
 refine ⟨⟨by omega, by omega⟩, fun j68 hj68 => ?_⟩
 obtain rfl : j68 = 2 := by omega
 refine kc h (fun h => ?_) fun h => ?_
 conv => whnf
 exact ⟨g60, nls, g60, v58 + 1, _, rfl, hfg60, hpg60, hwg60.symm, h, rfl⟩
 replace h := sat_lft hlR44 h
 exact kR [] (ND 1) (hQ _ _ (sat_some h))
 replace h := sat_j3 h
 conv => whnf
 refine ⟨⟨by omega, by omega⟩, fun j70 hj70 => ?_⟩
 obtain rfl : j70 = 3 := by omega
 refine kc h (fun h => ?_) fun h => ?_
 conv => whnf
 exact ⟨g60, nls, g60, v58 + 1, _, rfl, hfg60, hpg60, hwg60.symm, h, rfl⟩
 replace h := sat_lft hlR44 h
 exact kR [] (ND 1) (hQ _ _ (sat_some h))
 rintro _ ⟨h, rfl⟩
 replace h := hrR44 _ h
 exact kR [] (ND 1) (hQ _ _ (sat_some h))
 replace h := sat_ct h
 cases q7
 replace h := sat_cf h
 obtain ⟨R99, h, hlR99, hrR99⟩ := sat_sbind h
 refine kX (fun σ => R99 (.inr ()) ∧ σ = ⟨[], [(.x 0, some (.var [.isl .set4 l5, .isl .set4 l6, .bool false, .int .u64 v8, .int .u64 v9, .int .u64 v10, .int .u64 v11, .int .u64 v12, .int .u64 v13, .int .u64 v14, .int .u64 v15]))]⟩) ?_ ?_
 obtain ⟨hN116, h⟩ := sat_grdP h
 refine kX (fun σ n => ∃ (f114 : Nat) (v113 : Int) (z : Int), f114 = n ∧ f114 = (4 - v113).toNat ∧ 0 ≤ v113 ∧ v113 = z ∧ sat (f113_ends_L4 w1 w2 w3 w4 v12 v13 v14 v15 f114 v113) R99 ∧ σ.keep [0, 3, 14] [(.x 0), (.s 3)] = ⟨[(0, pX 0), (3, pS 3), (14, iD z)], [(.x 0, some (.var [.isl .set4 l5, .isl .set4 l6, .bool false, .int .u64 v8, .int .u64 v9, .int .u64 v10, .int .u64 v11, .int .u64 v12, .int .u64 v13, .int .u64 v14, .int .u64 v15])), (.s 3, some (.var [.int .u64 w1, .int .u64 w2, .int .u64 w3, .int .u64 w4]))]⟩) ⟨_, _, 0, _, rfl, rfl, (by decide), rfl, h, rfl⟩ ?_
 rintro σ n ⟨f114, v113, _, rfl, hf114, hpf114, rfl, h, hσ⟩
 refine kk hσ ?_
 intro t117 (ht117 : t117 = decide (v113 < 4))
 cases t117
 obtain rfl := il_nil hf114 ht117
 rw [f113_ends_L4] at h
 conv => whnf
 exact ⟨sat_some h, rfl⟩
 obtain ⟨g115, rfl, hwg115, hpg115, hfg115⟩ := il_cons hf114 hpf114 ht117 hN116
 rw [f113_ends_L4] at h
 conv => whnf
 obtain ⟨hbj118, h⟩ := sat_caseI h
 refine ⟨hbj118, fun j118 hj118 => ?_⟩
 replace h := h j118 hj118
 replace hbj118 : (0 : Int) ≤ v113 ∧ v113 < 4 := hbj118
 have hcj118 : j118 = 0 ∨ j118 = 1 ∨ j118 = 2 ∨ j118 = 3 := by omega
 rcases hcj118 with rfl | rfl | rfl | rfl
 replace h := sat_j0 h
 conv => whnf
 refine ⟨⟨by omega, by omega⟩, fun j119 hj119 => ?_⟩
 obtain rfl : j119 = 0 := by omega
 refine kc h (fun h => ?_) fun h => ?_
 conv => whnf
 exact ⟨g115, nls, g115, v113 + 1, _, rfl, hfg115, hpg115, hwg115.symm, h, rfl⟩
 replace h := sat_lft hlR99 h
 exact kR [] (ND 1) (hQ _ _ (sat_some h))
 replace h := sat_j1 h
 conv => whnf
 refine ⟨⟨by omega, by omega⟩, fun j121 hj121 => ?_⟩
 obtain rfl : j121 = 1 := by omega
 refine kc h (fun h => ?_) fun h => ?_
 conv => whnf
 exact ⟨g115, nls, g115, v113 + 1, _, rfl, hfg115, hpg115, hwg115.symm, h, rfl⟩
 replace h := sat_lft hlR99 h
 exact kR [] (ND 1) (hQ _ _ (sat_some h))
 replace h := sat_j2 h
 conv => whnf
 refine ⟨⟨by omega, by omega⟩, fun j123 hj123 => ?_⟩
 obtain rfl : j123 = 2 := by omega
 refine kc h (fun h => ?_) fun h => ?_
 conv => whnf
 exact ⟨g115, nls, g115, v113 + 1, _, rfl, hfg115, hpg115, hwg115.symm, h, rfl⟩
 replace h := sat_lft hlR99 h
 exact kR [] (ND 1) (hQ _ _ (sat_some h))
 replace h := sat_j3 h
 conv => whnf
 refine ⟨⟨by omega, by omega⟩, fun j125 hj125 => ?_⟩
 obtain rfl : j125 = 3 := by omega
 refine kc h (fun h => ?_) fun h => ?_
 conv => whnf
 exact ⟨g115, nls, g115, v113 + 1, _, rfl, hfg115, hpg115, hwg115.symm, h, rfl⟩
 replace h := sat_lft hlR99 h
 exact kR [] (ND 1) (hQ _ _ (sat_some h))
 rintro _ ⟨h, rfl⟩
 replace h := hrR99 _ h
 exact kR [] (ND 1) (hQ _ _ (sat_some h))
 replace h := sat_ct h
 exact kR [] (ND 1) (hQ _ _ (sat_some h))
theorem c113_ends {P : Program} {fid : Nat → FuncId} (mx : MX P) (k113_ends : KF P fid 113 j113_ends) (h140_has : C140_has (SP P fid) f140_has) : C113_ends (SP P fid) f113_ends :=
 fun a0 a1 a2 a3 a4 a5 a6 a7 a8 a9 a10 a11 a12 a13 a14 Q R hQ h => spec_of_vc mx k113_ends (w113_ends h140_has a0 a1 a2 a3 a4 a5 a6 a7 a8 a9 a10 a11 a12 a13 a14 Q R hQ h)
def f86_build_L146 (l20 : L4) (v12133 : Int) : Nat → Int → Int → Int → Int → Int → Option (Sum (Sum (Sum (Sum (Sum ((List LI) × (List Bool) × Int) ((List LI) × (List Bool))) (Bool × (List (N4 × Int)) × L4 × (List LI) × (List Bool))) ((List (N4 × Int)) × L4 × LI)) ((List (N4 × Int)) × L4 × LI)) N4)
 | 0, v12460, v12464, v12465, v12466, v12467 => some (.inr (v12464, v12465, v12466, v12467))
 | g12462 + 1, v12460, v12464, v12465, v12466, v12467 => caseI v12460 [grdP ((0 : Int) ≤ v12133 ∧ v12133 < 256) (getN l20 v12133.toNat fun uu12476 => match uu12476 with | (w12472, w12473, w12474, w12475) => f86_build_L146 l20 v12133 g12462 (v12460 + 1) (bAnd .u64 v12464 w12472) v12465 v12466 v12467), grdP ((0 : Int) ≤ v12133 ∧ v12133 < 256) (getN l20 v12133.toNat fun uu12484 => match uu12484 with | (w12480, w12481, w12482, w12483) => f86_build_L146 l20 v12133 g12462 (v12460 + 1) v12464 (bAnd .u64 v12465 w12481) v12466 v12467), grdP ((0 : Int) ≤ v12133 ∧ v12133 < 256) (getN l20 v12133.toNat fun uu12492 => match uu12492 with | (w12488, w12489, w12490, w12491) => f86_build_L146 l20 v12133 g12462 (v12460 + 1) v12464 v12465 (bAnd .u64 v12466 w12490) v12467), grdP ((0 : Int) ≤ v12133 ∧ v12133 < 256) (getN l20 v12133.toNat fun uu12500 => match uu12500 with | (w12496, w12497, w12498, w12499) => f86_build_L146 l20 v12133 g12462 (v12460 + 1) v12464 v12465 v12466 (bAnd .u64 v12467 w12499))]
def f86_build_L142 (l20 : L4) (w10980 : Int) (w10981 : Int) (w10982 : Int) (w10983 : Int) : Nat → Int → (List (N4 × Int)) → L4 → LI → Option (Sum (Sum (Sum ((List LI) × (List Bool) × Int) ((List LI) × (List Bool))) (Bool × (List (N4 × Int)) × L4 × (List LI) × (List Bool))) ((List (N4 × Int)) × L4 × LI))
 | 0, v12133, l12137, l12138, l12139 => some (.inr (l12137, l12138, l12139))
 | g12135 + 1, v12133, l12137, l12138, l12139 => sbind (τ := Sum (Sum (Sum ((List LI) × (List Bool) × Int) ((List LI) × (List Bool))) (Bool × (List (N4 × Int)) × L4 × (List LI) × (List Bool))) ((List (N4 × Int)) × L4 × LI)) (ο := (List (N4 × Int)) × L4 × LI) (sbind (τ := Sum (Sum (Sum (Sum ((List LI) × (List Bool) × Int) ((List LI) × (List Bool))) (Bool × (List (N4 × Int)) × L4 × (List LI) × (List Bool))) ((List (N4 × Int)) × L4 × LI)) ((List (N4 × Int)) × L4 × LI)) (ο := Int × Int × Int × Int) (grdP ((4 : Int) ≤ 9223372036854775807) (f86_build_L146 l20 v12133 ((4 : Int) - 0).toNat 0 w10980 w10981 w10982 w10983)) (fun (v12414, v12415, v12416, v12417) => match mget l12137 (v12414, v12415, v12416, v12417) with | none => grdP ((mget l12137 (v12414, v12415, v12416, v12417)).isNone = true) (grdP (l12138.length + ([(v12414, v12415, v12416, v12417)] : L4).length ≤ 68719476736) (cond (decide ((((l12138.length + ([(v12414, v12415, v12416, v12417)] : L4).length) : Nat) : Int) > 400)) (lft (lft (lft (lft (some ([], [], 2)))))) (grdP ((0 : Int) ≤ v12133 ∧ v12133 < 256) (getN l12139 v12133.toNat fun h12509 => some (.inr ((l12137 ++ [((v12414, v12415, v12416, v12417), (wrap .i16 ((l12138.length : Nat) : Int)))]), (l12138 ++ ([(v12414, v12415, v12416, v12417)] : L4)), (l12139.set v12133.toNat (wrap .i16 ((l12138.length : Nat) : Int))))))))) | some v12502 => grdP ((0 : Int) ≤ v12133 ∧ v12133 < 256) (getN l12139 v12133.toNat fun h12513 => some (.inr (l12137, l12138, (l12139.set v12133.toNat v12502)))))) (fun (l12326, l12327, l12328) => f86_build_L142 l20 w10980 w10981 w10982 w10983 g12135 (v12133 + 1) l12326 l12327 l12328)
def f86_build_L110 (l2 : L4) (l3 : L4) (v5 : Int) (v6 : Int) (v7 : Int) (v8 : Int) (v9 : Int) (v10 : Int) (v11 : Int) (v12 : Int) (l20 : L4) : Nat → (List (N4 × Int)) → L4 → (List LI) → (List Bool) → Int → Bool → Option (Sum ((List LI) × (List Bool) × Int) ((List LI) × (List Bool)))
 | 0, _, _, _, _, _, _ => none
 | g9400 + 1, l9402, l9403, l9404, l9405, v9406, q9407 => cond (decide (v9406 < ((l9403.length : Nat) : Int))) (sbind (ο := Bool × (List (N4 × Int)) × L4 × (List LI) × (List Bool)) (grdP ((0 : Int) ≤ v9406 ∧ v9406 < ((l9403.length : Nat) : Int)) (getN l9403 (0 + v9406.toNat) fun uu10979 => match uu10979 with | (w10975, w10976, w10977, w10978) => (f112_behind (w10975, w10976, w10977, w10978) l2 l3 q9407 v5 v6 v7 v8 v9 v10 v11 v12).bind fun ((w10980, w10981, w10982, w10983)) => sbind (ο := (List (N4 × Int)) × L4 × LI) (grdP ((256 : Int) ≤ 9223372036854775807) (f86_build_L142 l20 w10980 w10981 w10982 w10983 ((256 : Int) - 0).toNat 0 l9402 l9403 (List.replicate 256 (0 : Int)))) (fun (l11747, l11748, l11749) => grdP (l11749.length = 256) (grdP (l9404.length + ([l11749] : List LI).length ≤ 68719476736) (grdP ((0 : Int) ≤ v9406 ∧ v9406 < ((l11748.length : Nat) : Int)) (getN l11748 (0 + v9406.toNat) fun uu12521 => match uu12521 with | (w12517, w12518, w12519, w12520) => (f113_ends (w12517, w12518, w12519, w12520) l2 l3 q9407 v5 v6 v7 v8 v9 v10 v11 v12).bind fun (q12522, q12523) => grdP (l9405.length + ([q12522] : List Bool).length ≤ 68719476736) (some (.inr (q12523, l11747, l11748, (l9404 ++ ([l11749] : List LI)), (l9405 ++ ([q12522] : List Bool))))))))))) (fun (q10965, l10966, l10967, l10968, l10969) => f86_build_L110 l2 l3 v5 v6 v7 v8 v9 v10 v11 v12 l20 g9400 l10966 l10967 l10968 l10969 (wrap .i64 (v9406 + 1)) q10965)) (some (.inr (l9404, l9405)))
def f86_build (fuel : Nat) : BA → Option ((List LI) × (List Bool) × Int)
 | s1 => (f109_parse fuel s1).bind fun (l2, l3, q4, v5, v6, v7, v8, v9, v10, v11, v12, v13) => cond (v13 != 0) (some ([], [], v13)) ((f110b_add (0 : Int) (0 : Int) (0 : Int) (0 : Int) (0 : Int)).bind fun (v15, v16, v17, v18) => grdP ((mget ([] : List (N4 × Int)) (v15, v16, v17, v18)).isNone = true) ((f111_at l2 l3 q4 v5 v6 v7 v8 v9 v10 v11 v12).bind fun l20 => sbind (ο := (List LI) × (List Bool)) (f86_build_L110 l2 l3 v5 v6 v7 v8 v9 v10 v11 v12 l20 fuel (([] : List (N4 × Int)) ++ [((v15, v16, v17, v18), 0)]) ([(v15, v16, v17, v18)] : L4) [] [] (0 : Int) q4) (fun (l6271, l6272) => some (l6271, l6272, 0))))
def C86_build (O : Oracle TT) (m : BA → Option ((List LI) × (List Bool) × Int)) : Prop :=
 ∀ (s1 : BA) (Q : ((List LI) × (List Bool) × Int) → Prop) (R : RR) (_ : ∀ (l12526 : List LI) (l12527 : List Bool) (v12528 : Int), Q (l12526, l12527, v12528) → R (.tup [.agg [.isl .a16 l12526, .isl .bool l12527], iD v12528]) []) (_ : sat (m s1) Q), O 86 [sD s1] [] R
def j86_build : Fn TT := ⟨109, [.cell 2 2 true, .t 3], (.seq (.reg [qo 2 (.alloc 2 [.isl .a16 [], .isl .bool []]),qo 3 (.mv (iC 0))]) (.seq (.reg [qo 20 (.mv 0),qo 21 (.call 21 109 [20]),qo 19 (.mv 21),qo 22 (.ext 19 0),qo 23 (.ext 19 1),
 qo 4 (.alloc 4 [.isl .set4 [], .isl .set4 [], .bool false, .int .u64 0, .int .u64 0, .int .u64 0, .int .u64 0, .int .u64 0, .int .u64 0, .int .u64 0, .int .u64 0]),qp (.store 4 22 11),qo 5 (.mv 23)]) (.seq (.seq (.reg [qo 24 (.mv 5),qo 25 (.bin .neq .num 24 (iC 0))]) (.cond 25 (.seq (.reg [qo 26 (.build [.isl .a16 [], .isl .bool []] []),qo 27 (.mv 5),qp (.store 2 26 2),qo 3 (.mv 27)]) .ret)
 .skip)) (.seq (.reg [qo 6 (.alloc 6 [.int .u64 0, .int .u64 0, .int .u64 0, .int .u64 0])]) (.seq (.reg [qo 28 (.call 28 110 [6, (iC 0)])]) (.seq (.reg [qo 29 (.mkmap 29 .set4 .i16),qo 30 (.load 6 4 true),qp (.mapadd 4 29 30 (.c (.int .i16 0))),qo 31 (.mv 29),qo 7 (.mv 31)]) (.seq (.reg [qo 32 (.load 6 4 true),qo 33 (.bslice 33 .set4 [32]),qo 8 (.mv 33)]) (.seq
 (.reg [qo 9 (.alloc 9 [.nils, .nils])]) (.seq (.reg [qo 34 (.call 34 111 [4]),qo 10 (.mv 34)]) (.cut [2, 9] [(.s 2), (.s 9), (.sub (.sub (.s 9) 600) 0), (.sub (.sub (.s 9) 600) 1)] (.seq (.reg [qo 11 (.mv (iC 0))]) (.block 0 (.pre [.own 8 0 .set4 (.sub (.sub (.s 8) 600) 0), .ownc (.s 9) 0 .a16 (.sub (.sub (.s 9) 600) 0), .ownc (.s 9) 1 .bool (.sub (.sub (.s 9) 600) 1)]
 (.loop (.keep [2, 4, 7, 8, 9, 10, 11] [(.s 2), (.s 4), (.s 29), (.sub (.sub (.s 8) 600) 0), (.s 9), (.sub (.s 34) 0), (.sub (.sub (.s 9) 600) 0), (.sub (.sub (.s 9) 600) 1)] (.aft (.seq (.seq (.reg [qo 35 (.mv 11),qo 36 (.mv 8),qo 37 (.len false 36),qo 38 (.bin .lss .num 35 37)]) (.cond 38 .skip (.exit 0)))
 (.cut [2, 4, 7, 8, 9, 10, 11] [(.s 2), (.s 4), (.s 29), (.sub (.sub (.s 8) 601) 0), (.s 9), (.sub (.s 34) 0), (.s 96), (.s 106)] (.block 1 (.seq (.reg [qo 12 (.allocR 12 .i16 256 (0 : Int))]) (.seq (.reg [qo 41 (.mv 8),qo 42 (.mv 11),qo 43 (.idxA 41 42 4),qo 44 (.load 43 4 true),qo 45 (.call 45 112 [4, 44]),qo 13 (.alloc 13 [.int .u64 0, .int .u64 0, .int .u64 0, .int .u64 0]),
 qp (.store 13 45 4)]) (.cut [2, 4, 7, 8, 9, 10, 11, 12] [(.s 2), (.s 4), (.s 29), (.sub (.sub (.s 8) 601) 0), (.s 9), (.sub (.s 34) 0), (.s 12), (.sub (.sub (.s 9) 600) 0), (.sub (.sub (.s 9) 600) 1)] (.seq (.reg [qo 46 (.mv (iC 0))]) (.block 2 (.pre [.own 8 0 .set4 (.sub (.sub (.s 8) 601) 0)]
 (.loop (.keep [2, 4, 7, 8, 9, 10, 11, 12, 13, 46] [(.s 2), (.s 4), (.s 29), (.sub (.sub (.s 8) 601) 0), (.s 9), (.sub (.s 34) 0), (.s 12), (.s 13), (.sub (.sub (.s 9) 600) 0), (.sub (.sub (.s 9) 600) 1)] (.aft (.seq (.reg [qo 47 (.bin .lss .num 46 (iC 256))]) (.seq (.cond 47 .skip (.exit 2))
 (.cut [2, 4, 7, 8, 9, 10, 11, 12, 13, 46] [(.s 2), (.s 4), (.s 29), (.sub (.sub (.s 8) 1441) 0), (.s 9), (.sub (.s 34) 0), (.s 12), (.s 13), (.sub (.sub (.s 9) 600) 0), (.sub (.sub (.s 9) 600) 1)] (.aft (.block 3 (.seq (.reg [qo 48 (.mv 46),qo 14 (.mv 48)]) (.seq (.reg [qo 49 (.load 13 4 true),qo 15 (.alloc 15 [.int .u64 0, .int .u64 0, .int .u64 0, .int .u64 0]),qp (.store 15 49 4)])
 (.cut [2, 4, 7, 8, 9, 10, 11, 12, 13, 14, 15, 46] [(.s 2), (.s 4), (.s 29), (.sub (.sub (.s 8) 601) 0), (.s 9), (.sub (.s 34) 0), (.s 12), (.s 13), (.s 15), (.sub (.sub (.s 9) 600) 0), (.sub (.sub (.s 9) 600) 1)] (.seq (.reg [qo 50 (.mv (iC 0))]) (.block 4
 (.loop (.keep [2, 4, 7, 8, 9, 10, 11, 12, 13, 14, 15, 46, 50] [(.s 2), (.s 4), (.s 29), (.sub (.sub (.s 8) 601) 0), (.s 9), (.sub (.s 34) 0), (.s 12), (.s 13), (.s 15), (.sub (.sub (.s 9) 600) 0), (.sub (.sub (.s 9) 600) 1)] (.aft (.seq (.reg [qo 51 (.bin .lss .num 50 (iC 4))]) (.seq (.cond 51 .skip (.exit 4)) (.seq (.block 5 (.seq (.reg [qo 52 (.mv 50),qo 16 (.mv 52)])
 (.drw [] (oR 13) [12] (List.range 12) [qo 53 (.mv 16),qo 54 (.idxC 15 53 1 4),qo 55 (.load 54 1 false),qo 56 (.mv 10),qo 57 (.mv 14),qo 58 (.mv 16),qo 59 (.nilck 56),qo 60 (.idxR 59 57 4 256),qo 61 (.idxC 60 58 1 4),qo 62 (.load 61 1 false),qo 63 (.bin .and .num 55 62),qo 64 (.idxC 15 53 1 4),qp (.store 64 63 1)]))) (.reg [qo 65 (.bin .add .num 50 (iC 1)),
 qo 50 (.mv 65)])))) [.keep [2, 4, 7, 8, 9, 10, 11, 12, 13, 14, 15, 46, 50] [(.s 2), (.s 4), (.s 29), (.sub (.sub (.s 8) 601) 0), (.s 9), (.sub (.s 34) 0), (.s 12), (.s 13), (.s 15), (.sub (.sub (.s 9) 600) 0), (.sub (.sub (.s 9) 600) 1)]]))))) (.seq (.reg [qo 67 (.mv 7),qo 68 (.load 15 4 true),qo 69 (.mapget 4 67 68 (.int .i16 0) true),qo 66 (.mv 69),qo 70 (.ext 66 0),qo 71 (.ext 66 1),
 qo 17 (.mv 70),qo 18 (.mv 71)]) (.seq (.seq (.reg [qo 72 (.mv 18),qo 73 (.un .not 72)]) (.cond 73 (.seq (.reg [qo 74 (.mv 8),qo 75 (.len false 74),qo 76 (.conv .i16 75),qo 17 (.mv 76)]) (.seq (.reg [qo 77 (.mv 7),qo 78 (.load 15 4 true),qo 79 (.mv 17),qp (.mapadd 4 77 78 79)]) (.seq (.reg [qo 80 (.mv 8),qo 81 (.load 15 4 true),qo 82 (.bsl .set4 [81]),
 qo 83 (.app 83 .set4 68719476736 80 82),qo 8 (.mv 83)]) (.seq (.reg [qo 84 (.mv 8),qo 85 (.len false 84),qo 86 (.bin .gtr .num 85 (iC 400))]) (.cond 86 (.seq (.reg [qo 87 (.build [.isl .a16 [], .isl .bool []] []),qp (.store 2 87 2),qo 3 (.mv (iC 2))]) .ret) .skip))))) .skip)) (.reg [qo 88 (.mv 14),qo 89 (.mv 17),qo 90 (.idxR 12 88 1 256),
 qp (.store 90 89 1)]))))))) [.own 8 0 .set4 (.sub (.sub (.s 8) 1441) 0)]) (.reg [qo 91 (.bin .add .num 46 (iC 1)),qo 46 (.mv 91)])))) [.keep [2, 4, 7, 8, 9, 10, 11, 12, 13, 46] [(.s 2), (.s 4), (.s 29), (.sub (.sub (.s 8) 1441) 0), (.s 9), (.sub (.s 34) 0), (.s 12), (.s 13), (.sub (.sub (.s 9) 600) 0), (.sub (.sub (.s 9) 600) 1)], .own 8 0 .set4 (.sub (.sub (.s 8) 601) 0)])))))) (.seq
 (.reg [qo 92 (.fa 9 0),qo 93 (.load 92 1 false),qo 94 (.loadR 12 256),qo 95 (.bslR .a16 94),qo 96 (.app 96 .a16 68719476736 93 95),qo 97 (.fa 9 0),qp (.store 97 96 1)]) (.drw [(.s 4), (.sub (.sub (.s 9) 600) 1)] (oR 11) [10] [0, 1, 2, 3, 4, 5, 9] [qo 98 (.fa 9 1),qo 99 (.load 98 1 false),qo 100 (.mv 8),qo 101 (.mv 11),qo 102 (.idxA 100 101 4),qo 103 (.load 102 4 true),
 qo 104 (.call 104 113 [4, 103]),qo 105 (.bsl .bool [104]),qo 106 (.app 106 .bool 68719476736 99 105),qo 107 (.fa 9 1),qp (.store 107 106 1)])))))) (.reg [qo 39 (.mv 11),qo 40 (.bin .add .num 39 (iC 1)),
 qo 11 (.mv 40)]))) [.keep [2, 4, 7, 8, 9, 10, 11] [(.s 2), (.s 4), (.s 29), (.sub (.sub (.s 8) 601) 0), (.s 9), (.sub (.s 34) 0), (.s 96), (.s 106)], .own 8 0 .set4 (.sub (.sub (.s 8) 600) 0), .ownc (.s 9) 0 .a16 (.sub (.sub (.s 9) 600) 0), .ownc (.s 9) 1 .bool (.sub (.sub (.s 9) 600) 1)])))))) (.seq (.reg [qo 108 (.load 9 2 true),qp (.store 2 108 2),qo 3 (.mv (iC 0))])
 (.pre [.frzc (.s 2) 0 .a16, .frzc (.s 2) 1 .bool] .ret))))))))))))⟩
theorem w86_build {O : Oracle TT} (fuel : Nat) (h109_parse : C109_parse O (f109_parse fuel)) (h110b_add : C110b_add O f110b_add) (h111_at : C111_at O f111_at) (h112_behind : C112_behind O f112_behind) (h113_ends : C113_ends O f113_ends) : C86_build (fun _ => vcF (S := SS) O j86_build) (f86_build fuel) := by
 intro s1 Q R hQ h
 unfold f86_build at h
 refine ⟨nle rfl, rfl, ?_⟩
 refine kL [] (h109_parse _ _ _ ?_ (sat_bind h))
 rintro l2 l3 q4 v5 v6 v7 v8 v9 v10 v11 v12 v13 h
 refine kc h (fun h => ?_) fun h => ?_
 refine kL [(.s 6)] (h110b_add _ _ _ _ _ _ _ ?_ (sat_bind h))
 rintro v15 v16 v17 v18 h
 conv => whnf
 obtain ⟨hb19, h⟩ := sat_grdP h
 refine ⟨(v15, v16, v17, v18), 0, rfl, rfl, mfind_none mfind_set4 (by first | exact hb19 | exact absurd hb19 Bool.false_ne_true), ?_⟩
 refine kL [(.s 4)] (h111_at _ _ _ _ _ _ _ _ _ _ _ _ _ ?_ (sat_bind h))
 rintro l20 h
 obtain ⟨R6275, h, hlR6275, hrR6275⟩ := sat_sbind h
 refine kX (fun σ => ∃ (l6271 : List LI) (l6272 : List Bool) (n6273 : Nat) (n6274 : Nat), n6273 = l6271.length ∧ n6274 = l6272.length ∧ R6275 (.inr (l6271, l6272)) ∧ σ = ⟨[(2, pS 2), (9, pS 9)], [(.s 2, some (.var [.isl .a16 [], .isl .bool []])), (.s 9, some (.var [.osl (.sub (.sub (.s 9) 600) 0) 0 n6273, .osl (.sub (.sub (.s 9) 600) 1) 0 n6274])), (.sub (.sub (.s 9) 600) 0, some (.row false .a16 l6271)), (.sub (.sub (.s 9) 600) 1, some (.row false .bool l6272))]⟩) ?_ ?_
 refine kX (fun σ n => ∃ (f9401 : Nat) (l9402 : List (N4 × Int)) (l9403 : L4) (l9404 : List LI) (l9405 : List Bool) (v9406 : Int) (q9407 : Bool) (n9408 : Nat) (n9409 : Nat) (n9410 : Nat), f9401 = n ∧ n9408 = l9403.length ∧ n9409 = l9404.length ∧ n9410 = l9405.length ∧ sat (f86_build_L110 l2 l3 v5 v6 v7 v8 v9 v10 v11 v12 l20 f9401 l9402 l9403 l9404 l9405 v9406 q9407) R6275 ∧ σ.keep [2, 4, 7, 8, 9, 10, 11] [(.s 2), (.s 4), (.s 29), (.sub (.sub (.s 8) 600) 0), (.s 9), (.sub (.s 34) 0), (.sub (.sub (.s 9) 600) 0), (.sub (.sub (.s 9) 600) 1)] = ⟨[(2, pS 2), (4, pS 4), (7, .c (.mapp (.s 29))), (8, .c (.osl (.sub (.sub (.s 8) 600) 0) 0 n9408)), (9, pS 9), (10, .c (.ptr (.sub (.s 34) 0) 0 0)), (11, iD v9406)], [(.s 2, some (.var [.isl .a16 [], .isl .bool []])), (.s 4, some (.var [.isl .set4 l2, .isl .set4 l3, .bool q9407, .int .u64 v5, .int .u64 v6, .int .u64 v7, .int .u64 v8, .int .u64 v9, .int .u64 v10, .int .u64 v11, .int .u64 v12])), (.s 29, some (.map .set4 .i16 l9402)), (.sub (.sub (.s 8) 600) 0, some (.row false .set4 l9403)), (.s 9, some (.var [.osl (.sub (.sub (.s 9) 600) 0) 0 n9409, .osl (.sub (.sub (.s 9) 600) 1) 0 n9410])), (.sub (.s 34) 0, some (.row false .set4 l20)), (.sub (.sub (.s 9) 600) 0, some (.row false .a16 l9404)), (.sub (.sub (.s 9) 600) 1, some (.row false .bool l9405))]⟩) ⟨_, _, (([] : List (N4 × Int)) ++ [((v15, v16, v17, v18), 0)]), ([(v15, v16, v17, v18)] : L4), [], [], (0 : Int), q4, _, _, _, rfl, LN, LN, LN, h, rfl⟩ ?_
 rintro σ n ⟨f9401, l9402, l9403, l9404, l9405, v9406, q9407, _, _, _, rfl, rfl, rfl, rfl, h, hσ⟩
 refine kk hσ ?_
 rcases f9401 with _ | g9400
 rw [f86_build_L110] at h; exact nn h
 rw [f86_build_L110] at h
 intro hl9411
 refine kc h (fun h => ?_) fun h => ?_
 conv => whnf
 exact ⟨l9404, l9405, _, _, LN, LN, sat_some h, rfl⟩
 obtain ⟨R10973, h, hlR10973, hrR10973⟩ := sat_sbind h
 refine kX (fun σ => ∃ (q10965 : Bool) (l10966 : List (N4 × Int)) (l10967 : L4) (l10968 : List LI) (l10969 : List Bool) (n10970 : Nat) (n10971 : Nat) (n10972 : Nat), n10970 = l10967.length ∧ n10971 = l10968.length ∧ n10972 = l10969.length ∧ R10973 (.inr (q10965, l10966, l10967, l10968, l10969)) ∧ σ = ⟨[(2, pS 2), (4, pS 4), (7, .c (.mapp (.s 29))), (8, .c (.osl (.sub (.sub (.s 8) 601) 0) 0 n10970)), (9, pS 9), (10, .c (.ptr (.sub (.s 34) 0) 0 0)), (11, iD v9406)], [(.s 2, some (.var [.isl .a16 [], .isl .bool []])), (.s 4, some (.var [.isl .set4 l2, .isl .set4 l3, .bool q10965, .int .u64 v5, .int .u64 v6, .int .u64 v7, .int .u64 v8, .int .u64 v9, .int .u64 v10, .int .u64 v11, .int .u64 v12])), (.s 29, some (.map .set4 .i16 l10966)), (.sub (.sub (.s 8) 601) 0, some (.row false .set4 l10967)), (.s 9, some (.var [.osl (.s 96) 0 n10971, .osl (.s 106) 0 n10972])), (.sub (.s 34) 0, some (.row false .set4 l20)), (.s 96, some (.row false .a16 l10968)), (.s 106, some (.row false .bool l10969))]⟩) ?_ ?_
 refine kp h fun hb10974 h => ?_
 refine kg (sat_getN h) fun uu10979 huu10979 h => ?_
 obtain ⟨w10975, w10976, w10977, w10978⟩ := uu10979
 refine kL [(.s 4)] (h112_behind _ _ _ _ _ _ _ _ _ _ _ _ _ _ _ _ _ ?_ (sat_bind h))
 rintro w10980 w10981 w10982 w10983 h
 obtain ⟨R11751, h, hlR11751, hrR11751⟩ := sat_sbind h
 refine kX (fun σ => ∃ (l11747 : List (N4 × Int)) (l11748 : L4) (l11749 : LI) (n11750 : Nat), n11750 = l11748.length ∧ R11751 (.inr (l11747, l11748, l11749)) ∧ σ = ⟨[(2, pS 2), (4, pS 4), (7, .c (.mapp (.s 29))), (8, .c (.osl (.sub (.sub (.s 8) 601) 0) 0 n11750)), (9, pS 9), (10, .c (.ptr (.sub (.s 34) 0) 0 0)), (11, iD v9406), (12, pS 12)], [(.s 2, some (.var [.isl .a16 [], .isl .bool []])), (.s 4, some (.var [.isl .set4 l2, .isl .set4 l3, .bool q9407, .int .u64 v5, .int .u64 v6, .int .u64 v7, .int .u64 v8, .int .u64 v9, .int .u64 v10, .int .u64 v11, .int .u64 v12])), (.s 29, some (.map .set4 .i16 l11747)), (.sub (.sub (.s 8) 601) 0, some (.row false .set4 l11748)), (.s 9, some (.var [.osl (.sub (.sub (.s 9) 600) 0) 0 l9404.length, .osl (.sub (.sub (.s 9) 600) 1) 0 l9405.length])), (.sub (.s 34) 0, some (.row false .set4 l20)), (.s 12, some (.row false .i16 l11749)), (.sub (.sub (.s 9) 600) 0, some (.row false .a16 l9404)), (.sub (.sub (.s 9) 600) 1, some (.row false .bool l9405))]⟩) ?_ ?_
 obtain ⟨hN12136, h⟩ := sat_grdP h
 refine kX (fun σ n => ∃ (f12134 : Nat) (v12133 : Int) (z : Int) (l12137 : List (N4 × Int)) (l12138 : L4) (l12139 : LI) (n12140 : Nat), f12134 = n ∧ f12134 = (256 - v12133).toNat ∧ 0 ≤ v12133 ∧ v12133 = z ∧ n12140 = l12138.length ∧ sat (f86_build_L142 l20 w10980 w10981 w10982 w10983 f12134 v12133 l12137 l12138 l12139) R11751 ∧ σ.keep [2, 4, 7, 8, 9, 10, 11, 12, 13, 46] [(.s 2), (.s 4), (.s 29), (.sub (.sub (.s 8) 601) 0), (.s 9), (.sub (.s 34) 0), (.s 12), (.s 13), (.sub (.sub (.s 9) 600) 0), (.sub (.sub (.s 9) 600) 1)] = ⟨[(2, pS 2), (4, pS 4), (7, .c (.mapp (.s 29))), (8, .c (.osl (.sub (.sub (.s 8) 601) 0) 0 n12140)), (9, pS 9), (10, .c (.ptr (.sub (.s 34) 0) 0 0)), (11, iD v9406), (12, pS 12), (13, pS 13), (46, iD z)], [(.s 2, some (.var [.isl .a16 [], .isl .bool []])), (.s 4, some (.var [.isl .set4 l2, .isl .set4 l3, .bool q9407, .int .u64 v5, .int .u64 v6, .int .u64 v7, .int .u64 v8, .int .u64 v9, .int .u64 v10, .int .u64 v11, .int .u64 v12])), (.s 29, some (.map .set4 .i16 l12137)), (.sub (.sub (.s 8) 601) 0, some (.row false .set4 l12138)), (.s 9, some (.var [.osl (.sub (.sub (.s 9) 600) 0) 0 l9404.length, .osl (.sub (.sub (.s 9) 600) 1) 0 l9405.length])), (.sub (.s 34) 0, some (.row false .set4 l20)), (.s 12, some (.row false .i16 l12139)), (.s 13, some (.var [.int .u64 w10980, .int .u64 w10981, .int .u64 w10982, .int .u64 w10983])), (.sub (.sub (.s 9) 600) 0, some (.row false .a16 l9404)), (.sub (.sub (.s 9) 600) 1, some (.row false .bool l9405))]⟩) ⟨_, _, 0, _, l9402, l9403, (List.replicate 256 (0 : Int)), _, rfl, rfl, (by decide), rfl, LN, h, rfl⟩ ?_
 rintro σ n ⟨f12134, v12133, _, l12137, l12138, l12139, _, rfl, hf12134, hpf12134, rfl, rfl, h, hσ⟩
 refine kk hσ ?_
 intro t12141 (ht12141 : t12141 = decide (v12133 < 256))
 cases t12141
 obtain rfl := il_nil hf12134 ht12141
 rw [f86_build_L142] at h
 conv => whnf
 exact ⟨l12137, l12138, l12139, _, LN, sat_some h, rfl⟩
 obtain ⟨g12135, rfl, hwg12135, hpg12135, hfg12135⟩ := il_cons hf12134 hpf12134 ht12141 hN12136
 rw [f86_build_L142] at h
 obtain ⟨R12330, h, hlR12330, hrR12330⟩ := sat_sbind h
 refine kX (fun σ => ∃ (l12326 : List (N4 × Int)) (l12327 : L4) (l12328 : LI) (n12329 : Nat), n12329 = l12327.length ∧ R12330 (.inr (l12326, l12327, l12328)) ∧ σ = ⟨[(2, pS 2), (4, pS 4), (7, .c (.mapp (.s 29))), (8, .c (.osl (.sub (.sub (.s 8) 1441) 0) 0 n12329)), (9, pS 9), (10, .c (.ptr (.sub (.s 34) 0) 0 0)), (11, iD v9406), (12, pS 12), (13, pS 13), (46, iD v12133)], [(.s 2, some (.var [.isl .a16 [], .isl .bool []])), (.s 4, some (.var [.isl .set4 l2, .isl .set4 l3, .bool q9407, .int .u64 v5, .int .u64 v6, .int .u64 v7, .int .u64 v8, .int .u64 v9, .int .u64 v10, .int .u64 v11, .int .u64 v12])), (.s 29, some (.map .set4 .i16 l12326)), (.sub (.sub (.s 8) 1441) 0, some (.row false .set4 l12327)), (.s 9, some (.var [.osl (.sub (.sub (.s 9) 600) 0) 0 l9404.length, .osl (.sub (.sub (.s 9) 600) 1) 0 l9405.length])), (.sub (.s 34) 0, some (.row false .set4 l20)), (.s 12, some (.row false .i16 l12328)), (.s 13, some (.var [.int .u64 w10980, .int .u64 w10981, .int .u64 w10982, .int .u64 w10983])), (.sub (.sub (.s 9) 600) 0, some (.row false .a16 l9404)), (.sub (.sub (.s 9) 600) 1, some (.row false .bool l9405))]⟩) ?_ ?_
 obtain ⟨R12418, h, hlR12418, hrR12418⟩ := sat_sbind h
 refine kX (fun σ => ∃ (v12414 : Int) (v12415 : Int) (v12416 : Int) (v12417 : Int), R12418 (.inr (v12414, v12415, v12416, v12417)) ∧ σ = ⟨[(2, pS 2), (4, pS 4), (7, .c (.mapp (.s 29))), (8, .c (.osl (.sub (.sub (.s 8) 601) 0) 0 l12138.length)), (9, pS 9), (10, .c (.ptr (.sub (.s 34) 0) 0 0)), (11, iD v9406), (12, pS 12), (13, pS 13), (14, iD v12133), (15, pS 15), (46, iD v12133)], [(.s 2, some (.var [.isl .a16 [], .isl .bool []])), (.s 4, some (.var [.isl .set4 l2, .isl .set4 l3, .bool q9407, .int .u64 v5, .int .u64 v6, .int .u64 v7, .int .u64 v8, .int .u64 v9, .int .u64 v10, .int .u64 v11, .int .u64 v12])), (.s 29, some (.map .set4 .i16 l12137)), (.sub (.sub (.s 8) 601) 0, some (.row false .set4 l12138)), (.s 9, some (.var [.osl (.sub (.sub (.s 9) 600) 0) 0 l9404.length, .osl (.sub (.sub (.s 9) 600) 1) 0 l9405.length])), (.sub (.s 34) 0, some (.row false .set4 l20)), (.s 12, some (.row false .i16 l12139)), (.s 13, some (.var [.int .u64 w10980, .int .u64 w10981, .int .u64 w10982, .int .u64 w10983])), (.s 15, some (.var [.int .u64 v12414, .int .u64 v12415, .int .u64 v12416, .int .u64 v12417])), (.sub (.sub (.s 9) 600) 0, some (.row false .a16 l9404)), (.sub (.sub (.s 9) 600) 1, some (.row false .bool l9405))]⟩) ?_ ?_
 obtain ⟨hN12463, h⟩ := sat_grdP h
 refine kX (fun σ n => ∃ (f12461 : Nat) (v12460 : Int) (z : Int) (v12464 : Int) (v12465 : Int) (v12466 : Int) (v12467 : Int), f12461 = n ∧ f12461 = (4 - v12460).toNat ∧ 0 ≤ v12460 ∧ v12460 = z ∧ sat (f86_build_L146 l20 v12133 f12461 v12460 v12464 v12465 v12466 v12467) R12418 ∧ σ.keep [2, 4, 7, 8, 9, 10, 11, 12, 13, 14, 15, 46, 50] [(.s 2), (.s 4), (.s 29), (.sub (.sub (.s 8) 601) 0), (.s 9), (.sub (.s 34) 0), (.s 12), (.s 13), (.s 15), (.sub (.sub (.s 9) 600) 0), (.sub (.sub (.s 9) 600) 1)] = ⟨[(2, pS 2), (4, pS 4), (7, .c (.mapp (.s 29))), (8, .c (.osl (.sub (.sub (.s 8) 601) 0) 0 l12138.length)), (9, pS 9), (10, .c (.ptr (.sub (.s 34) 0) 0 0)), (11, iD v9406), (12, pS 12), (13, pS 13), (14, iD v12133), (15, pS 15), (46, iD v12133), (50, iD z)], [(.s 2, some (.var [.isl .a16 [], .isl .bool []])), (.s 4, some (.var [.isl .set4 l2, .isl .set4 l3, .bool q9407, .int .u64 v5, .int .u64 v6, .int .u64 v7, .int .u64 v8, .int .u64 v9, .int .u64 v10, .int .u64 v11, .int .u64 v12])), (.s 29, some (.map .set4 .i16 l12137)), (.sub (.sub (.s 8) 601) 0, some (.row false .set4 l12138)), (.s 9, some (.var [.osl (.sub (.sub (.s 9) 600) 0) 0 l9404.length, .osl (.sub (.sub (.s 9) 600) 1) 0 l9405.length])), (.sub (.s 34) 0, some (.row false .set4 l20)), (.s 12, some (.row false .i16 l12139)), (.s 13, some (.var [.int .u64 w10980, .int .u64 w10981, .int .u64 w10982, .int .u64 w10983])), (.s 15, some (.var [.int .u64 v12464, .int .u64 v12465, .int .u64 v12466, .int .u64 v12467])), (.sub (.sub (.s 9) 600) 0, some (.row false .a16 l9404)), (.sub (.sub (.s 9) 600) 1, some (.row false .bool l9405))]⟩) ⟨_, _, 0, _, w10980, w10981, w10982, w10983, rfl, rfl, (by decide), rfl, h, rfl⟩ ?_
 rintro σ n ⟨f12461, v12460, _, v12464, v12465, v12466, v12467, rfl, hf12461, hpf12461, rfl, h, hσ⟩
 refine kk hσ ?_
 intro t12468 (ht12468 : t12468 = decide (v12460 < 4))
 cases t12468
 obtain rfl := il_nil hf12461 ht12468
 rw [f86_build_L146] at h
 conv => whnf
 exact ⟨v12464, v12465, v12466, v12467, sat_some h, rfl⟩
 obtain ⟨g12462, rfl, hwg12462, hpg12462, hfg12462⟩ := il_cons hf12461 hpf12461 ht12468 hN12463
 rw [f86_build_L146] at h
 conv => whnf
 obtain ⟨hbj12469, h⟩ := sat_caseI h
 refine ⟨hbj12469, fun j12469 hj12469 => ?_⟩
 replace h := h j12469 hj12469
 replace hbj12469 : (0 : Int) ≤ v12460 ∧ v12460 < 4 := hbj12469
 have hcj12469 : j12469 = 0 ∨ j12469 = 1 ∨ j12469 = 2 ∨ j12469 = 3 := by omega
 rcases hcj12469 with rfl | rfl | rfl | rfl
 replace h := sat_j0 h
 refine kp h fun hb12470 h => ?_
 conv => whnf
 refine ⟨⟨by omega, by omega⟩, fun j12471 hj12471 => ?_⟩
 obtain rfl : j12471 = 0 := by omega
 refine kg (sat_getN h) fun uu12476 huu12476 h => ?_
 obtain ⟨w12472, w12473, w12474, w12475⟩ := uu12476
 conv => whnf
 refine ⟨⟨by omega, by omega⟩, fun j12477 hj12477 => ?_⟩
 obtain rfl : j12477 = 0 := by omega
 conv => whnf
 exact ⟨g12462, nls, g12462, v12460 + 1, _, (bAnd .u64 v12464 w12472), v12465, v12466, v12467, rfl, hfg12462, hpg12462, hwg12462.symm, h, rfl⟩
 replace h := sat_j1 h
 refine kp h fun hb12478 h => ?_
 conv => whnf
 refine ⟨⟨by omega, by omega⟩, fun j12479 hj12479 => ?_⟩
 obtain rfl : j12479 = 1 := by omega
 refine kg (sat_getN h) fun uu12484 huu12484 h => ?_
 obtain ⟨w12480, w12481, w12482, w12483⟩ := uu12484
 conv => whnf
 refine ⟨⟨by omega, by omega⟩, fun j12485 hj12485 => ?_⟩
 obtain rfl : j12485 = 1 := by omega
 conv => whnf
 exact ⟨g12462, nls, g12462, v12460 + 1, _, v12464, (bAnd .u64 v12465 w12481), v12466, v12467, rfl, hfg12462, hpg12462, hwg12462.symm, h, rfl⟩
 replace h := sat_j2 h
 refine kp h fun hb12486 h => ?_
 conv => whnf
 refine ⟨⟨by omega, by omega⟩, fun j12487 hj12487 => ?_⟩
 obtain rfl : j12487 = 2 := by omega
 refine kg (sat_getN h) fun uu12492 huu12492 h => ?_
 obtain ⟨w12488, w12489, w12490, w12491⟩ := uu12492
 conv => whnf
 refine ⟨⟨by omega, by omega⟩, fun j12493 hj12493 => ?_⟩
 obtain rfl : j12493 = 2 := by omega
 conv => whnf
 exact ⟨g12462, nls, g12462, v12460 + 1, _, v12464, v12465, (bAnd .u64 v12466 w12490), v12467, rfl, hfg12462, hpg12462, hwg12462.symm, h, rfl⟩
 replace h := sat_j3 h
 refine kp h fun hb12494 h => ?_
 conv => whnf
 refine ⟨⟨by omega, by omega⟩, fun j12495 hj12495 => ?_⟩
 obtain rfl : j12495 = 3 := by omega
 refine kg (sat_getN h) fun uu12500 huu12500 h => ?_
 obtain ⟨w12496, w12497, w12498, w12499⟩ := uu12500
 conv => whnf
 refine ⟨⟨by omega, by omega⟩, fun j12501 hj12501 => ?_⟩
 obtain rfl : j12501 = 3 := by omega
 conv => whnf
 exact ⟨g12462, nls, g12462, v12460 + 1, _, v12464, v12465, v12466, (bAnd .u64 v12467 w12499), rfl, hfg12462, hpg12462, hwg12462.symm, h, rfl⟩
 rintro _ ⟨v12414, v12415, v12416, v12417, h, rfl⟩
 replace h := hrR12418 _ h
 try dsimp only at h
 obtain ⟨fm12503, hfm12503⟩ : ∃ q, q = mget l12137 (v12414, v12415, v12416, v12417) := ⟨_, rfl⟩
 rw [← hfm12503] at h
 conv => whnf
 refine ⟨(v12414, v12415, v12416, v12417), fm12503, rfl, (by rw [hfm12503]; exact mfind_set4 _ _), ?_⟩
 rcases fm12503 with _ | v12502
 rintro _ rfl
 intro hl12504
 conv => whnf
 obtain ⟨hb12505, h⟩ := sat_grdP h
 refine ⟨(v12414, v12415, v12416, v12417), (wrap .i16 ((l12138.length : Nat) : Int)), rfl, rfl, mfind_none mfind_set4 (by rw [← hfm12503]; rfl), ?_⟩
 conv => whnf
 refine ⟨LN, rfl, ?_⟩
 conv => whnf
 refine ⟨rfl, ?_⟩
 refine kp h fun hb12511 h => ?_
 intro hl12506
 refine kc h (fun h => ?_) fun h => ?_
 refine kp h fun hb12508 h => ?_
 refine kg (sat_getN h) fun h12509 huu12510 h => ?_
 refine ⟨(wrap .i16 ((l12138.length : Nat) : Int)), rfl, ?_⟩
 conv => whnf
 exact ⟨(l12137 ++ [((v12414, v12415, v12416, v12417), (wrap .i16 ((l12138.length : Nat) : Int)))]), (l12138 ++ ([(v12414, v12415, v12416, v12417)] : L4)), (l12139.set v12133.toNat (wrap .i16 ((l12138.length : Nat) : Int))), _, LN, sat_some h, rfl⟩
 replace h := sat_lft hlR12330 h
 replace h := sat_lft hlR11751 h
 replace h := sat_lft hlR10973 h
 replace h := sat_lft hlR6275 h
 exact kR [] (ND 0) (hQ _ _ _ (sat_some h))
 rintro _ rfl
 refine kp h fun hb12512 h => ?_
 refine kg (sat_getN h) fun h12513 huu12514 h => ?_
 refine ⟨v12502, rfl, ?_⟩
 conv => whnf
 exact ⟨l12137, l12138, (l12139.set v12133.toNat v12502), _, LN, sat_some h, rfl⟩
 rintro _ ⟨l12326, l12327, l12328, _, rfl, h, rfl⟩
 replace h := hrR12330 _ h
 conv => whnf
 exact ⟨g12135, nls, g12135, v12133 + 1, _, l12326, l12327, l12328, _, rfl, hfg12135, hpg12135, hwg12135.symm, LN, h, rfl⟩
 rintro _ ⟨l11747, l11748, l11749, _, rfl, h, rfl⟩
 replace h := hrR11751 _ h
 conv => whnf
 obtain ⟨hb12515, h⟩ := sat_grdP h
 refine ⟨⟨by rw [hb12515]; decide, by rw [hb12515]; rfl⟩, ?_⟩
 conv => whnf
 refine ⟨l11749, unA16_of hb12515, ?_⟩
 conv => whnf
 refine ⟨LN, rfl, ?_⟩
 conv => whnf
 refine ⟨rfl, ?_⟩
 refine kp h fun hb12525 h => ?_
 refine kp h fun hb12516 h => ?_
 refine kg (sat_getN h) fun uu12521 huu12521 h => ?_
 obtain ⟨w12517, w12518, w12519, w12520⟩ := uu12521
 refine kL [(.s 4)] (h113_ends _ _ _ _ _ _ _ _ _ _ _ _ _ _ _ _ _ ?_ (sat_bind h))
 rintro q12522 q12523 h
 conv => whnf
 refine ⟨LN, rfl, ?_⟩
 conv => whnf
 refine ⟨rfl, ?_⟩
 refine kp h fun hb12524 h => ?_
 conv => whnf
 exact ⟨q12523, l11747, l11748, (l9404 ++ ([l11749] : List LI)), (l9405 ++ ([q12522] : List Bool)), _, _, _, LN, LN, LN, sat_some h, rfl⟩
 rintro _ ⟨q10965, l10966, l10967, l10968, l10969, _, _, _, rfl, rfl, rfl, h, rfl⟩
 replace h := hrR10973 _ h
 conv => whnf
 exact ⟨g9400, nls, g9400, l10966, l10967, l10968, l10969, (wrap .i64 (v9406 + 1)), q10965, _, _, _, rfl, LN, LN, LN, h, rfl⟩
 rintro _ ⟨l6271, l6272, _, _, rfl, rfl, h, rfl⟩
 replace h := hrR6275 _ h
 conv => whnf
 refine ⟨LN, ?_⟩
 conv => whnf
 refine ⟨LN, ?_⟩
 exact kR [] (ND 0) (hQ _ _ _ (sat_some h))
 exact kR [] (ND 0) (hQ _ _ _ (sat_some h))
theorem c86_build {P : Program} {fid : Nat → FuncId} (mx : MX P) (k86_build : KF P fid 86 j86_build) (h109_parse : ∀ n, C109_parse (SP P fid) (f109_parse n)) (h110b_add : C110b_add (SP P fid) f110b_add) (h111_at : C111_at (SP P fid) f111_at) (h112_behind : C112_behind (SP P fid) f112_behind) (h113_ends : C113_ends (SP P fid) f113_ends) : ∀ n, C86_build (SP P fid) (f86_build n) :=
 fun n => fun a0 Q R hQ h => spec_of_vc mx k86_build (w86_build n (h109_parse n) h110b_add h111_at h112_behind h113_ends a0 Q R hQ h)
def f160_Check (fuel : Nat) : BA → Option (Int)
 | s1 => (f86_build fuel s1).bind fun (l2, l3, v4) => some v4
def C160_Check (O : Oracle TT) (m : BA → Option (Int)) : Prop :=
 ∀ (s1 : BA) (Q : Int → Prop) (R : RR) (_ : ∀ (v5 : Int), Q v5 → R (iD v5) []) (_ : sat (m s1) Q), O 160 [sD s1] [] R
def j160_Check : Fn TT := ⟨11, [.t 2], (.seq (.reg [qo 2 (.mv (iC 0))]) (.seq (.reg [qo 6 (.mv 0),qo 7 (.call 7 86 [6]),qo 5 (.mv 7),qo 8 (.ext 5 0),qo 9 (.ext 5 1),qo 3 (.alloc 3 [.isl .a16 [], .isl .bool []]),qp (.store 3 8 2),qo 4 (.mv 9)]) (.seq (.reg [qo 10 (.mv 4),qo 2 (.mv 10)]) .ret)))⟩
theorem w160_Check {O : Oracle TT} (fuel : Nat) (h86_build : C86_build O (f86_build fuel)) : C160_Check (fun _ => vcF (S := SS) O j160_Check) (f160_Check fuel) := by
 intro s1 Q R hQ h
 unfold f160_Check at h
 refine ⟨nle rfl, rfl, ?_⟩
 refine kL [] (h86_build _ _ _ ?_ (sat_bind h))
 rintro l2 l3 v4 h
 exact kR [] (ND 0) (hQ _ (sat_some h))
theorem c160_Check {P : Program} {fid : Nat → FuncId} (mx : MX P) (k160_Check : KF P fid 160 j160_Check) (h86_build : ∀ n, C86_build (SP P fid) (f86_build n)) : ∀ n, C160_Check (SP P fid) (f160_Check n) :=
 fun n => fun a0 Q R hQ h => spec_of_vc mx k160_Check (w160_Check n (h86_build n) a0 Q R hQ h)
end Go.Clap
