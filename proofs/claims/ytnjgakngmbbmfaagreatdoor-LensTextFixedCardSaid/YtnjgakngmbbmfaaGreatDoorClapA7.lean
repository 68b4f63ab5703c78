/- The checks of the small code against the loaded functions. -/
import Derived.Test.YtnjgakngmbbmfaaGreatDoorClapA5
set_option linter.unusedVariables false
set_option linter.unusedSimpArgs false
set_option maxHeartbeats 4000000
set_option maxRecDepth 100000
namespace Go.Clap
open Go.IntKind (wrap)
def f94_Size_L2 (self94_Size : Ln → Option (Int)) : List Ln → Nat → Int → Option (Sum (Int) (Int))
 | [], j83, v87 => some (.inr v87)
 | (.mk op89 nm90 to91 ns92 n93 lo94 hi95 sep96 (.mk k97 n98 s99 f100) prs101 ks102) :: tl85, j83, v87 => (self94_Size (Ln.mk op89 nm90 to91 ns92 n93 lo94 hi95 sep96 (V.mk k97 n98 s99 f100) prs101 ks102)).bind fun v104 => f94_Size_L2 self94_Size tl85 (j83 + 1) (wrap .i64 (v87 + v104))
def b94_Size (self94_Size : Ln → Option (Int)) : Ln → Option (Int)
 | .mk op1 nm2 to3 ns4 n5 lo6 hi7 sep8 (.mk k9 n10 s11 f12) prs13 ks14 => sbind (ο := Int) (f94_Size_L2 self94_Size ks14 0 (1 : Int)) (fun v59 => some v59)
def f94_Size : Nat → Ln → Option (Int)
 | 0 => fun _ => none
 | n + 1 => b94_Size (f94_Size n)
def C94_Size (O : Oracle TT) (m : Ln → Option (Int)) : Prop :=
 ∀ (op1 : Int) (nm2 : BA) (to3 : BA) (ns4 : LB) (n5 : Int) (lo6 : Int) (hi7 : Int) (sep8 : Int) (k9 : Int) (n10 : Int) (s11 : BA) (f12 : FV) (prs13 : LW) (ks14 : List Ln) (Q : Int → Prop) (R : RR) (_ : ∀ (v105 : Int), Q v105 → R (iD v105) []) (_ : sat (m (Ln.mk op1 nm2 to3 ns4 n5 lo6 hi7 sep8 (V.mk k9 n10 s11 f12) prs13 ks14)) Q), O 94 [.agg [ci op1, .str nm2, .str to3, .isl .str ns4, ci n5, ci lo6, ci hi7, .int .u8 sep8, ci k9, ci n10, .str s11, .isl .fld f12, .isl .two prs13, .isl .lens ks14]] [] R
def j94_Size : Fn TT := ⟨19, [.t 2], (.seq (.reg [qo 1 (.box 1 0),qo 2 (.mv (iC 0))]) (.seq (.reg [qo 3 (.mv (iC 1))]) (.cut [3] [] (.seq (.reg [qo 6 (.fa 1 13),qo 7 (.load 6 1 false),qo 8 (.len false 7),qo 9 (.mv (iC 0))]) (.block 0 (.loop (.keep [3, 7, 8, 9] [] (.aft (.seq (.reg [qo 10 (.bin .lss .num 9 8)]) (.seq (.cond 10 .skip (.exit 0)) (.seq (.block 1 (.seq (.reg [qo 11 (.idxA 7 9 14),
 qo 12 (.load 11 14 true),qo 5 (.alloc 5 zLn),qp (.store 5 12 14)]) (.reg [qo 13 (.mv 3),qo 14 (.load 5 14 true),qo 15 (.call 15 94 [14]),qo 16 (.bin .add .num 13 15),qo 3 (.mv 16)]))) (.reg [qo 17 (.bin .add .num 9 (iC 1)),qo 9 (.mv 17)])))) [.keep [3, 7, 8, 9] []]))))) (.seq (.reg [qo 18 (.mv 3),qo 2 (.mv 18)]) .ret))))⟩
theorem w94_Size {O : Oracle TT} (self94_Size : Ln → Option (Int)) (h94_Size : C94_Size O self94_Size) : C94_Size (fun _ => vcF (S := SS) O j94_Size) (b94_Size self94_Size) := by
 intro op1 nm2 to3 ns4 n5 lo6 hi7 sep8 k9 n10 s11 f12 prs13 ks14 Q R hQ h
 unfold b94_Size at h
 refine ⟨nle rfl, rfl, ?_⟩
 obtain ⟨R60, h, hlR60, hrR60⟩ := sat_sbind h
 refine kX (fun σ => ∃ (v59 : Int), R60 (.inr v59) ∧ σ = ⟨[(3, iD v59)], []⟩) ?_ ?_
 intro hl61
 refine kX (fun σ n => ∃ (rem84 : List Ln) (j83 : Nat) (z : Int) (v87 : Int), n = rem84.length ∧ ks14.drop j83 = rem84 ∧ z = ((j83 : Nat) : Int) ∧ sat (f94_Size_L2 self94_Size rem84 j83 v87) R60 ∧ σ.keep [3, 7, 8, 9] [] = ⟨[(3, iD v87), (7, .c (.isl .lens ks14)), (8, iD ((ks14.length : Nat) : Int)), (9, iD z)], []⟩) ⟨_, ks14, 0, _, (1 : Int), rfl, rfl, rfl, h, rfl⟩ ?_
 rintro σ n ⟨rem84, j83, _, v87, rfl, hrem84, rfl, h, hσ⟩
 refine kk hσ ?_
 intro t88 (ht88 : t88 = decide (((j83 : Nat) : Int) < ((ks14.length : Nat) : Int)))
 cases t88
 obtain rfl := ll_nil hrem84 ht88
 rw [f94_Size_L2] at h
 conv => whnf
 exact ⟨v87, sat_some h, rfl⟩
 obtain ⟨x86, tl85, rfl, hx86, htl85⟩ := ll_cons hrem84 ht88
 obtain ⟨op89, nm90, to91, ns92, n93, lo94, hi95, sep96, ⟨k97, n98, s99, f100⟩, prs101, ks102⟩ := x86
 rw [f94_Size_L2] at h
 conv => whnf
 refine ⟨lx_bd hx86, fun uu103 huu103 => ?_⟩
 obtain rfl := lx_eq hx86 huu103
 refine kL [] (h94_Size _ _ _ _ _ _ _ _ _ _ _ _ _ _ _ _ ?_ (sat_bind h))
 rintro v104 h
 conv => whnf
 exact ⟨tl85.length, nls, tl85, j83 + 1, _, (wrap .i64 (v87 + v104)), rfl, htl85, lx_wr hx86 hl61, h, rfl⟩
 rintro _ ⟨v59, h, rfl⟩
 replace h := hrR60 _ h
 exact kR [] (ND 0) (hQ _ (sat_some h))
theorem cg94_Size {P : Program} {fid : Nat → FuncId} (mx : MX P) (k94_Size : KF P fid 94 j94_Size) : ∀ n, C94_Size (SP P fid) (f94_Size n) := by
 intro n
 induction n with
 | zero => exact fun a0 a1 a2 a3 a4 a5 a6 a7 a8 a9 a10 a11 a12 a13 Q R hQ h => (sat_none h).elim
 | succ n ih =>
  have ih0 := ih
  exact fun a0 a1 a2 a3 a4 a5 a6 a7 a8 a9 a10 a11 a12 a13 Q R hQ h => spec_of_vc mx k94_Size (w94_Size (f94_Size n) ih0 a0 a1 a2 a3 a4 a5 a6 a7 a8 a9 a10 a11 a12 a13 Q R hQ h)
theorem c94_Size {P : Program} {fid : Nat → FuncId} (mx : MX P) (k94_Size : KF P fid 94 j94_Size) : ∀ n, C94_Size (SP P fid) (f94_Size n) := fun n => (cg94_Size mx k94_Size n)
def f95_Deep_L2 (self95_Deep : Ln → Option (Int)) : List Ln → Nat → Int → Option (Sum (Int) (Int))
 | [], j83, v87 => some (.inr v87)
 | (.mk op89 nm90 to91 ns92 n93 lo94 hi95 sep96 (.mk k97 n98 s99 f100) prs101 ks102) :: tl85, j83, v87 => (self95_Deep (Ln.mk op89 nm90 to91 ns92 n93 lo94 hi95 sep96 (V.mk k97 n98 s99 f100) prs101 ks102)).bind fun v104 => f95_Deep_L2 self95_Deep tl85 (j83 + 1) (if v104 > v87 then v104 else v87)
def b95_Deep (self95_Deep : Ln → Option (Int)) : Ln → Option (Int)
 | .mk op1 nm2 to3 ns4 n5 lo6 hi7 sep8 (.mk k9 n10 s11 f12) prs13 ks14 => sbind (ο := Int) (f95_Deep_L2 self95_Deep ks14 0 (0 : Int)) (fun v59 => some (wrap .i64 (v59 + 1)))
def f95_Deep : Nat → Ln → Option (Int)
 | 0 => fun _ => none
 | n + 1 => b95_Deep (f95_Deep n)
def C95_Deep (O : Oracle TT) (m : Ln → Option (Int)) : Prop :=
 ∀ (op1 : Int) (nm2 : BA) (to3 : BA) (ns4 : LB) (n5 : Int) (lo6 : Int) (hi7 : Int) (sep8 : Int) (k9 : Int) (n10 : Int) (s11 : BA) (f12 : FV) (prs13 : LW) (ks14 : List Ln) (Q : Int → Prop) (R : RR) (_ : ∀ (v105 : Int), Q v105 → R (iD v105) []) (_ : sat (m (Ln.mk op1 nm2 to3 ns4 n5 lo6 hi7 sep8 (V.mk k9 n10 s11 f12) prs13 ks14)) Q), O 95 [.agg [ci op1, .str nm2, .str to3, .isl .str ns4, ci n5, ci lo6, ci hi7, .int .u8 sep8, ci k9, ci n10, .str s11, .isl .fld f12, .isl .two prs13, .isl .lens ks14]] [] R
def j95_Deep : Fn TT := ⟨20, [.t 2], (.seq (.reg [qo 1 (.box 1 0),qo 2 (.mv (iC 0))]) (.seq (.reg [qo 3 (.mv (iC 0))]) (.cut [3] [] (.seq (.reg [qo 6 (.fa 1 13),qo 7 (.load 6 1 false),qo 8 (.len false 7),qo 9 (.mv (iC 0))]) (.block 0 (.loop (.keep [3, 7, 8, 9] [] (.aft (.seq (.reg [qo 10 (.bin .lss .num 9 8)]) (.seq (.cond 10 .skip (.exit 0)) (.seq (.block 1 (.seq (.reg [qo 11 (.idxA 7 9 14),
 qo 12 (.load 11 14 true),qo 5 (.alloc 5 zLn),qp (.store 5 12 14)]) (.reg [qo 13 (.mv 3),qo 14 (.load 5 14 true),qo 15 (.call 15 95 [14]),qo 16 (.mx [13, 15]),qo 3 (.mv 16)]))) (.reg [qo 17 (.bin .add .num 9 (iC 1)),qo 9 (.mv 17)])))) [.keep [3, 7, 8, 9] []]))))) (.seq (.reg [qo 18 (.mv 3),qo 19 (.bin .add .num 18 (iC 1)),qo 2 (.mv 19)]) .ret))))⟩
theorem w95_Deep {O : Oracle TT} (self95_Deep : Ln → Option (Int)) (h95_Deep : C95_Deep O self95_Deep) : C95_Deep (fun _ => vcF (S := SS) O j95_Deep) (b95_Deep self95_Deep) := by
 intro op1 nm2 to3 ns4 n5 lo6 hi7 sep8 k9 n10 s11 f12 prs13 ks14 Q R hQ h
 unfold b95_Deep at h
 refine ⟨nle rfl, rfl, ?_⟩
 obtain ⟨R60, h, hlR60, hrR60⟩ := sat_sbind h
 refine kX (fun σ => ∃ (v59 : Int), R60 (.inr v59) ∧ σ = ⟨[(3, iD v59)], []⟩) ?_ ?_
 intro hl61
 refine kX (fun σ n => ∃ (rem84 : List Ln) (j83 : Nat) (z : Int) (v87 : Int), n = rem84.length ∧ ks14.drop j83 = rem84 ∧ z = ((j83 : Nat) : Int) ∧ sat (f95_Deep_L2 self95_Deep rem84 j83 v87) R60 ∧ σ.keep [3, 7, 8, 9] [] = ⟨[(3, iD v87), (7, .c (.isl .lens ks14)), (8, iD ((ks14.length : Nat) : Int)), (9, iD z)], []⟩) ⟨_, ks14, 0, _, (0 : Int), rfl, rfl, rfl, h, rfl⟩ ?_
 rintro σ n ⟨rem84, j83, _, v87, rfl, hrem84, rfl, h, hσ⟩
 refine kk hσ ?_
 intro t88 (ht88 : t88 = decide (((j83 : Nat) : Int) < ((ks14.length : Nat) : Int)))
 cases t88
 obtain rfl := ll_nil hrem84 ht88
 rw [f95_Deep_L2] at h
 conv => whnf
 exact ⟨v87, sat_some h, rfl⟩
 obtain ⟨x86, tl85, rfl, hx86, htl85⟩ := ll_cons hrem84 ht88
 obtain ⟨op89, nm90, to91, ns92, n93, lo94, hi95, sep96, ⟨k97, n98, s99, f100⟩, prs101, ks102⟩ := x86
 rw [f95_Deep_L2] at h
 conv => whnf
 refine ⟨lx_bd hx86, fun uu103 huu103 => ?_⟩
 obtain rfl := lx_eq hx86 huu103
 refine kL [] (h95_Deep _ _ _ _ _ _ _ _ _ _ _ _ _ _ _ _ ?_ (sat_bind h))
 rintro v104 h
 conv => whnf
 exact ⟨tl85.length, nls, tl85, j83 + 1, _, (if v104 > v87 then v104 else v87), rfl, htl85, lx_wr hx86 hl61, h, rfl⟩
 rintro _ ⟨v59, h, rfl⟩
 replace h := hrR60 _ h
 exact kR [] (ND 0) (hQ _ (sat_some h))
theorem cg95_Deep {P : Program} {fid : Nat → FuncId} (mx : MX P) (k95_Deep : KF P fid 95 j95_Deep) : ∀ n, C95_Deep (SP P fid) (f95_Deep n) := by
 intro n
 induction n with
 | zero => exact fun a0 a1 a2 a3 a4 a5 a6 a7 a8 a9 a10 a11 a12 a13 Q R hQ h => (sat_none h).elim
 | succ n ih =>
  have ih0 := ih
  exact fun a0 a1 a2 a3 a4 a5 a6 a7 a8 a9 a10 a11 a12 a13 Q R hQ h => spec_of_vc mx k95_Deep (w95_Deep (f95_Deep n) ih0 a0 a1 a2 a3 a4 a5 a6 a7 a8 a9 a10 a11 a12 a13 Q R hQ h)
theorem c95_Deep {P : Program} {fid : Nat → FuncId} (mx : MX P) (k95_Deep : KF P fid 95 j95_Deep) : ∀ n, C95_Deep (SP P fid) (f95_Deep n) := fun n => (cg95_Deep mx k95_Deep n)
def f144_table : Int → Option (Bool × Bool × Bool × Bool × Bool × Bool × Bool × Bool × Int)
 | v1 => cond (v1 == 1) (some (false, false, false, false, false, false, false, false, (-1))) (cond (v1 == 2) (some (true, false, false, false, false, false, false, false, 1)) (cond (v1 == 3) (some (true, true, false, false, false, false, false, false, 0)) (sbind (ο := Bool) (cond (v1 == 4) (some (.inr true)) (cond (v1 == 5) (some (.inr true)) (cond (v1 == 15) (some (.inr true)) (some (.inr false))))) (fun q8 => cond q8 (some (true, false, false, false, false, false, true, false, 0)) (cond (v1 == 6) (some (false, true, true, false, false, false, false, false, 0)) (sbind (ο := Bool) (cond (v1 == 7) (some (.inr true)) (cond (v1 == 16) (some (.inr true)) (cond (v1 == 17) (some (.inr true)) (some (.inr false))))) (fun q17 => cond q17 (some (true, false, false, false, false, false, false, false, 0)) (cond (v1 == 8) (some (true, false, false, true, false, false, false, false, 0)) (cond (v1 == 9) (some (true, true, true, false, false, true, false, false, 0)) (cond (v1 == 10) (some (true, true, false, false, false, true, false, false, 0)) (cond (v1 == 11) (some (false, false, false, false, false, false, false, true, 0)) (cond (v1 == 12) (some (false, false, false, false, true, false, false, false, 0)) (cond (v1 == 13) (some (true, false, false, false, false, false, false, false, 1)) (cond (v1 == 14) (some (false, false, true, false, false, false, false, false, (-1))) (cond (v1 == 18) (some (false, false, false, false, false, false, true, false, 0)) (some (false, false, false, false, false, false, false, false, 0)))))))))))))))))
def C144_table (O : Oracle TT) (m : Int → Option (Bool × Bool × Bool × Bool × Bool × Bool × Bool × Bool × Int)) : Prop :=
 ∀ (v1 : Int) (Q : (Bool × Bool × Bool × Bool × Bool × Bool × Bool × Bool × Int) → Prop) (R : RR) (_ : ∀ (q30 : Bool) (q31 : Bool) (q32 : Bool) (q33 : Bool) (q34 : Bool) (q35 : Bool) (q36 : Bool) (q37 : Bool) (v38 : Int), Q (q30, q31, q32, q33, q34, q35, q36, q37, v38) → R (.agg [.bool q30, .bool q31, .bool q32, .bool q33, .bool q34, .bool q35, .bool q36, .bool q37, ci v38]) []) (_ : sat (m v1) Q), O 144 [iD v1] [] R
def j144_table : Fn TT := ⟨51, [.cell 2 9 true], (.seq (.reg [qo 2 (.alloc 2 [.bool false, .bool false, .bool false, .bool false, .bool false, .bool false, .bool false, .bool false, .int .i64 0])]) (.seq (.seq (.reg [qo 3 (.mv 0)]) (.block 0 (.seq (.reg [qo 5 (.bin .eql .num 3 (iC 1)),qo 4 (.mv 5)]) (.cond 4 (.seq
 (.reg [qo 6 (.build [.bool false, .bool false, .bool false, .bool false, .bool false, .bool false, .bool false, .bool false, .int .i64 0] [((8, 1), (iC (-1)))]),qp (.store 2 6 9)]) .ret) (.seq (.reg [qo 8 (.bin .eql .num 3 (iC 2)),qo 7 (.mv 8)]) (.cond 7 (.seq
 (.reg [qo 9 (.build [.bool false, .bool false, .bool false, .bool false, .bool false, .bool false, .bool false, .bool false, .int .i64 0] [((0, 1), bT), ((8, 1), (iC 1))]),qp (.store 2 9 9)]) .ret) (.seq (.reg [qo 11 (.bin .eql .num 3 (iC 3)),qo 10 (.mv 11)]) (.cond 10 (.seq
 (.reg [qo 12 (.build [.bool false, .bool false, .bool false, .bool false, .bool false, .bool false, .bool false, .bool false, .int .i64 0] [((0, 1), bT), ((1, 1), bT)]),qp (.store 2 12 9)]) .ret) (.cut [2, 3, 13] [(.s 2)] (.seq (.reg [qo 14 (.bin .eql .num 3 (iC 4)),qo 13 (.mv 14)]) (.cond 13 .skip (.seq (.reg [qo 15 (.bin .eql .num 3 (iC 5)),qo 13 (.mv 15)]) (.cond 13 .skip
 (.reg [qo 16 (.bin .eql .num 3 (iC 15)),qo 13 (.mv 16)]))))) (.cond 13 (.seq (.reg [qo 17 (.build [.bool false, .bool false, .bool false, .bool false, .bool false, .bool false, .bool false, .bool false, .int .i64 0] [((0, 1), bT), ((6, 1), bT)]),qp (.store 2 17 9)]) .ret) (.seq (.reg [qo 19 (.bin .eql .num 3 (iC 6)),qo 18 (.mv 19)]) (.cond 18 (.seq
 (.reg [qo 20 (.build [.bool false, .bool false, .bool false, .bool false, .bool false, .bool false, .bool false, .bool false, .int .i64 0] [((2, 1), bT), ((1, 1), bT)]),qp (.store 2 20 9)]) .ret) (.cut [2, 3, 21] [(.s 2)] (.seq (.reg [qo 22 (.bin .eql .num 3 (iC 7)),qo 21 (.mv 22)]) (.cond 21 .skip (.seq (.reg [qo 23 (.bin .eql .num 3 (iC 16)),qo 21 (.mv 23)]) (.cond 21 .skip
 (.reg [qo 24 (.bin .eql .num 3 (iC 17)),qo 21 (.mv 24)]))))) (.cond 21 (.seq (.reg [qo 25 (.build [.bool false, .bool false, .bool false, .bool false, .bool false, .bool false, .bool false, .bool false, .int .i64 0] [((0, 1), bT)]),qp (.store 2 25 9)]) .ret) (.seq (.reg [qo 27 (.bin .eql .num 3 (iC 8)),qo 26 (.mv 27)]) (.cond 26 (.seq
 (.reg [qo 28 (.build [.bool false, .bool false, .bool false, .bool false, .bool false, .bool false, .bool false, .bool false, .int .i64 0] [((0, 1), bT), ((3, 1), bT)]),qp (.store 2 28 9)]) .ret) (.seq (.reg [qo 30 (.bin .eql .num 3 (iC 9)),qo 29 (.mv 30)]) (.cond 29 (.seq
 (.reg [qo 31 (.build [.bool false, .bool false, .bool false, .bool false, .bool false, .bool false, .bool false, .bool false, .int .i64 0] [((0, 1), bT), ((1, 1), bT), ((2, 1), bT), ((5, 1), bT)]),qp (.store 2 31 9)]) .ret) (.seq (.reg [qo 33 (.bin .eql .num 3 (iC 10)),qo 32 (.mv 33)]) (.cond 32 (.seq
 (.reg [qo 34 (.build [.bool false, .bool false, .bool false, .bool false, .bool false, .bool false, .bool false, .bool false, .int .i64 0] [((0, 1), bT), ((1, 1), bT), ((5, 1), bT)]),qp (.store 2 34 9)]) .ret) (.seq (.reg [qo 36 (.bin .eql .num 3 (iC 11)),qo 35 (.mv 36)]) (.cond 35 (.seq
 (.reg [qo 37 (.build [.bool false, .bool false, .bool false, .bool false, .bool false, .bool false, .bool false, .bool false, .int .i64 0] [((7, 1), bT)]),qp (.store 2 37 9)]) .ret) (.seq (.reg [qo 39 (.bin .eql .num 3 (iC 12)),qo 38 (.mv 39)]) (.cond 38 (.seq
 (.reg [qo 40 (.build [.bool false, .bool false, .bool false, .bool false, .bool false, .bool false, .bool false, .bool false, .int .i64 0] [((4, 1), bT)]),qp (.store 2 40 9)]) .ret) (.seq (.reg [qo 42 (.bin .eql .num 3 (iC 13)),qo 41 (.mv 42)]) (.cond 41 (.seq
 (.reg [qo 43 (.build [.bool false, .bool false, .bool false, .bool false, .bool false, .bool false, .bool false, .bool false, .int .i64 0] [((0, 1), bT), ((8, 1), (iC 1))]),qp (.store 2 43 9)]) .ret) (.seq (.reg [qo 45 (.bin .eql .num 3 (iC 14)),qo 44 (.mv 45)]) (.cond 44 (.seq
 (.reg [qo 46 (.build [.bool false, .bool false, .bool false, .bool false, .bool false, .bool false, .bool false, .bool false, .int .i64 0] [((2, 1), bT), ((8, 1), (iC (-1)))]),qp (.store 2 46 9)]) .ret) (.seq (.reg [qo 48 (.bin .eql .num 3 (iC 18)),qo 47 (.mv 48)]) (.cond 47 (.seq
 (.reg [qo 49 (.build [.bool false, .bool false, .bool false, .bool false, .bool false, .bool false, .bool false, .bool false, .int .i64 0] [((6, 1), bT)]),qp (.store 2 49 9)]) .ret) .skip)))))))))))))))))))))))))))))) (.seq (.reg [qo 50 (.build [.bool false, .bool false, .bool false, .bool false, .bool false, .bool false, .bool false, .bool false, .int .i64 0] []),qp (.store 2 50 9)]) .ret)))⟩
theorem w144_table {O : Oracle TT} : C144_table (fun _ => vcF (S := SS) O j144_table) f144_table := by
 intro v1 Q R hQ h
 unfold f144_table at h
 refine ⟨nle rfl, rfl, ?_⟩
 refine kc h (fun h => ?_) fun h => ?_
 refine kc h (fun h => ?_) fun h => ?_
 refine kc h (fun h => ?_) fun h => ?_
 obtain ⟨R9, h, hlR9, hrR9⟩ := sat_sbind h
 refine kX (fun σ => ∃ (q8 : Bool), R9 (.inr q8) ∧ σ = ⟨[(2, pS 2), (3, iD v1), (13, bD q8)], [(.s 2, some (.var [.bool false, .bool false, .bool false, .bool false, .bool false, .bool false, .bool false, .bool false, ci 0]))]⟩) ?_ ?_
 refine kc h (fun h => ?_) fun h => ?_
 refine kc h (fun h => ?_) fun h => ?_
 refine kc h (fun h => ?_) fun h => ?_
 conv => whnf
 exact ⟨false, sat_some h, rfl⟩
 conv => whnf
 exact ⟨true, sat_some h, rfl⟩
 conv => whnf
 exact ⟨true, sat_some h, rfl⟩
 conv => whnf
 exact ⟨true, sat_some h, rfl⟩
 rintro _ ⟨q8, h, rfl⟩
 replace h := hrR9 _ h
 cases q8
 replace h := sat_cf h
 refine kc h (fun h => ?_) fun h => ?_
 obtain ⟨R18, h, hlR18, hrR18⟩ := sat_sbind h
 refine kX (fun σ => ∃ (q17 : Bool), R18 (.inr q17) ∧ σ = ⟨[(2, pS 2), (3, iD v1), (21, bD q17)], [(.s 2, some (.var [.bool false, .bool false, .bool false, .bool false, .bool false, .bool false, .bool false, .bool false, ci 0]))]⟩) ?_ ?_
 refine kc h (fun h => ?_) fun h => ?_
 refine kc h (fun h => ?_) fun h => ?_
 refine kc h (fun h => ?_) fun h => ?_
 conv => whnf
 exact ⟨false, sat_some h, rfl⟩
 conv => whnf
 exact ⟨true, sat_some h, rfl⟩
 conv => whnf
 exact ⟨true, sat_some h, rfl⟩
 conv => whnf
 exact ⟨true, sat_some h, rfl⟩
 rintro _ ⟨q17, h, rfl⟩
 replace h := hrR18 _ h
 cases q17
 replace h := sat_cf h
 refine kc h (fun h => ?_) fun h => ?_
 refine kc h (fun h => ?_) fun h => ?_
 refine kc h (fun h => ?_) fun h => ?_
 refine kc h (fun h => ?_) fun h => ?_
 refine kc h (fun h => ?_) fun h => ?_
 refine kc h (fun h => ?_) fun h => ?_
 refine kc h (fun h => ?_) fun h => ?_
 refine kc h (fun h => ?_) fun h => ?_
 exact kR [] (ND 0) (hQ _ _ _ _ _ _ _ _ _ (sat_some h))
 exact kR [] (ND 0) (hQ _ _ _ _ _ _ _ _ _ (sat_some h))
 exact kR [] (ND 0) (hQ _ _ _ _ _ _ _ _ _ (sat_some h))
 exact kR [] (ND 0) (hQ _ _ _ _ _ _ _ _ _ (sat_some h))
 exact kR [] (ND 0) (hQ _ _ _ _ _ _ _ _ _ (sat_some h))
 exact kR [] (ND 0) (hQ _ _ _ _ _ _ _ _ _ (sat_some h))
 exact kR [] (ND 0) (hQ _ _ _ _ _ _ _ _ _ (sat_some h))
 exact kR [] (ND 0) (hQ _ _ _ _ _ _ _ _ _ (sat_some h))
 exact kR [] (ND 0) (hQ _ _ _ _ _ _ _ _ _ (sat_some h))
 replace h := sat_ct h
 exact kR [] (ND 0) (hQ _ _ _ _ _ _ _ _ _ (sat_some h))
 exact kR [] (ND 0) (hQ _ _ _ _ _ _ _ _ _ (sat_some h))
 replace h := sat_ct h
 exact kR [] (ND 0) (hQ _ _ _ _ _ _ _ _ _ (sat_some h))
 exact kR [] (ND 0) (hQ _ _ _ _ _ _ _ _ _ (sat_some h))
 exact kR [] (ND 0) (hQ _ _ _ _ _ _ _ _ _ (sat_some h))
 exact kR [] (ND 0) (hQ _ _ _ _ _ _ _ _ _ (sat_some h))
theorem c144_table {P : Program} {fid : Nat → FuncId} (mx : MX P) (k144_table : KF P fid 144 j144_table) : C144_table (SP P fid) f144_table :=
 fun a0 Q R hQ h => spec_of_vc mx k144_table (w144_table a0 Q R hQ h)
def f158_Plain : Int → Option (Bool)
 | v1 => sbind (ο := Bool) (cond (v1 == 1) (some (.inr true)) (cond (v1 == 2) (some (.inr true)) (some (.inr false)))) (fun q4 => sbind (ο := Bool) (cond q4 (some (.inr true)) (cond (v1 == 4) (some (.inr true)) (some (.inr false)))) (fun q9 => sbind (ο := Bool) (cond q9 (some (.inr true)) (cond (v1 == 5) (some (.inr true)) (some (.inr false)))) (fun q13 => some q13)))
def C158_Plain (O : Oracle TT) (m : Int → Option (Bool)) : Prop :=
 ∀ (v1 : Int) (Q : Bool → Prop) (R : RR) (_ : ∀ (q16 : Bool), Q q16 → R (bD q16) []) (_ : sat (m v1) Q), O 158 [iD v1] [] R
def j158_Plain : Fn TT := ⟨17, [.t 2], (.seq (.reg [qo 2 (.mv bF)]) (.seq (.regc [([qo 3 (.mv 0),qo 4 (.bin .eql .num 3 (iC 1)),qo 5 (.mv 4),qf 5 6 (.mv 0),qf 5 7 (.bin .eql .num 6 (iC 2)),qo 8 (.pick 5 bT 7)], [0, 8], []), ([qo 9 (.mv 8),qf 9 10 (.mv 0),qf 9 11 (.bin .eql .num 10 (iC 4)),qo 12 (.pick 9 bT 11)], [0, 12], []), ([qo 13 (.mv 12),qf 13 14 (.mv 0),
 qf 13 15 (.bin .eql .num 14 (iC 5)),qo 16 (.pick 13 bT 15)], [16], [])] [qo 2 (.mv 16)]) .ret))⟩
theorem w158_Plain {O : Oracle TT} : C158_Plain (fun _ => vcF (S := SS) O j158_Plain) f158_Plain := by
 intro v1 Q R hQ h
 unfold f158_Plain at h
 refine ⟨nle rfl, rfl, ?_⟩
 obtain ⟨R5, h, hlR5, hrR5⟩ := sat_sbind h
 refine kX (fun σ => ∃ (q4 : Bool), R5 (.inr q4) ∧ σ = ⟨[(0, iD v1), (8, bD q4)], []⟩) ?_ ?_
 refine kc h (fun h => ?_) fun h => ?_
 refine kc h (fun h => ?_) fun h => ?_
 conv => whnf
 exact ⟨false, sat_some h, rfl⟩
 conv => whnf
 exact ⟨true, sat_some h, rfl⟩
 conv => whnf
 exact ⟨true, sat_some h, rfl⟩
 rintro _ ⟨q4, h, rfl⟩
 replace h := hrR5 _ h
 obtain ⟨R10, h, hlR10, hrR10⟩ := sat_sbind h
 refine kX (fun σ => ∃ (q9 : Bool), R10 (.inr q9) ∧ σ = ⟨[(0, iD v1), (12, bD q9)], []⟩) ?_ ?_
 cases q4
 replace h := sat_cf h
 refine kc h (fun h => ?_) fun h => ?_
 conv => whnf
 exact ⟨false, sat_some h, rfl⟩
 conv => whnf
 exact ⟨true, sat_some h, rfl⟩
 replace h := sat_ct h
 conv => whnf
 exact ⟨true, sat_some h, rfl⟩
 rintro _ ⟨q9, h, rfl⟩
 replace h := hrR10 _ h
 obtain ⟨R14, h, hlR14, hrR14⟩ := sat_sbind h
 refine kX (fun σ => ∃ (q13 : Bool), R14 (.inr q13) ∧ σ = ⟨[(16, bD q13)], []⟩) ?_ ?_
 cases q9
 replace h := sat_cf h
 refine kc h (fun h => ?_) fun h => ?_
 conv => whnf
 exact ⟨false, sat_some h, rfl⟩
 conv => whnf
 exact ⟨true, sat_some h, rfl⟩
 replace h := sat_ct h
 conv => whnf
 exact ⟨true, sat_some h, rfl⟩
 rintro _ ⟨q13, h, rfl⟩
 replace h := hrR14 _ h
 exact kR [] (ND 0) (hQ _ (sat_some h))
theorem c158_Plain {P : Program} {fid : Nat → FuncId} (mx : MX P) (k158_Plain : KF P fid 158 j158_Plain) : C158_Plain (SP P fid) f158_Plain :=
 fun a0 Q R hQ h => spec_of_vc mx k158_Plain (w158_Plain a0 Q R hQ h)
def f161_pairs_L73 (fuel : Nat) (k2854 : Int) (n2855 : Int) (s2856 : BA) (f2857 : FV) (k2858 : Int) (n2859 : Int) (s2860 : BA) (f2861 : FV) (v3559 : Int) : LW → Nat → Option (Sum (Sum (Sum (Int) (Unit)) (Unit)) (Unit))
 | [], j3716 => some (.inr ())
 | ((.mk k3721 n3722 s3723 f3724, .mk k3725 n3726 s3727 f3728)) :: tl3718, j3716 => caseI v3559 [(f11_Same fuel (V.mk k2854 n2855 s2856 f2857) (V.mk k3721 n3722 s3723 f3724)).bind fun q3732 => cond q3732 (lft (lft (lft (some 5)))) (f161_pairs_L73 fuel k2854 n2855 s2856 f2857 k2858 n2859 s2860 f2861 v3559 tl3718 (j3716 + 1)), (f11_Same fuel (V.mk k2858 n2859 s2860 f2861) (V.mk k3725 n3726 s3727 f3728)).bind fun q3734 => cond q3734 (lft (lft (lft (some 5)))) (f161_pairs_L73 fuel k2854 n2855 s2856 f2857 k2858 n2859 s2860 f2861 v3559 tl3718 (j3716 + 1))]
def f161_pairs_L74 (fuel : Nat) (k2854 : Int) (n2855 : Int) (s2856 : BA) (f2857 : FV) (k2858 : Int) (n2859 : Int) (s2860 : BA) (f2861 : FV) (v3559 : Int) : LW → Nat → Option (Sum (Sum (Sum (Int) (Unit)) (Unit)) (Unit))
 | [], j3772 => some (.inr ())
 | ((.mk k3777 n3778 s3779 f3780, .mk k3781 n3782 s3783 f3784)) :: tl3774, j3772 => caseI v3559 [(f11_Same fuel (V.mk k2854 n2855 s2856 f2857) (V.mk k3777 n3778 s3779 f3780)).bind fun q3788 => cond q3788 (lft (lft (lft (some 5)))) (f161_pairs_L74 fuel k2854 n2855 s2856 f2857 k2858 n2859 s2860 f2861 v3559 tl3774 (j3772 + 1)), (f11_Same fuel (V.mk k2858 n2859 s2860 f2861) (V.mk k3781 n3782 s3783 f3784)).bind fun q3790 => cond q3790 (lft (lft (lft (some 5)))) (f161_pairs_L74 fuel k2854 n2855 s2856 f2857 k2858 n2859 s2860 f2861 v3559 tl3774 (j3772 + 1))]
def f161_pairs_L70 (fuel : Nat) (l1 : LW) (j2849 : Nat) (k2854 : Int) (n2855 : Int) (s2856 : BA) (f2857 : FV) (k2858 : Int) (n2859 : Int) (s2860 : BA) (f2861 : FV) : Nat → Int → Option (Sum (Sum (Int) (Unit)) (Unit))
 | 0, v3559 => some (.inr ())
 | g3561 + 1, v3559 => sbind (ο := Unit) (caseI v3559 [(f51_Check fuel (V.mk k2854 n2855 s2856 f2857)).bind fun v3679 => cond (v3679 != 0) (lft (lft (lft (some v3679)))) ((f158_Plain k2854).bind fun q3682 => cond q3682 (getL l1 0 fun uu3692 => match uu3692 with | (.mk k3684 n3685 s3686 f3687, .mk k3688 n3689 s3690 f3691) => cond (k2854 != k3684) (lft (lft (lft (some 8)))) (grdP ((0 : Int) ≤ ((j2849 : Nat) : Int) ∧ 0 ≤ ((j2849 : Nat) : Int).toNat ∧ ((j2849 : Nat) : Int).toNat ≤ l1.length) (f161_pairs_L73 fuel k2854 n2855 s2856 f2857 k2858 n2859 s2860 f2861 v3559 ((l1.drop 0).take (((j2849 : Nat) : Int).toNat - 0)) 0))) (lft (lft (lft (some 8))))), (f51_Check fuel (V.mk k2858 n2859 s2860 f2861)).bind fun v3735 => cond (v3735 != 0) (lft (lft (lft (some v3735)))) ((f158_Plain k2858).bind fun q3738 => cond q3738 (getL l1 0 fun uu3748 => match uu3748 with | (.mk k3740 n3741 s3742 f3743, .mk k3744 n3745 s3746 f3747) => cond (k2858 != k3744) (lft (lft (lft (some 8)))) (grdP ((0 : Int) ≤ ((j2849 : Nat) : Int) ∧ 0 ≤ ((j2849 : Nat) : Int).toNat ∧ ((j2849 : Nat) : Int).toNat ≤ l1.length) (f161_pairs_L74 fuel k2854 n2855 s2856 f2857 k2858 n2859 s2860 f2861 v3559 ((l1.drop 0).take (((j2849 : Nat) : Int).toNat - 0)) 0))) (lft (lft (lft (some 8)))))]) (fun () => f161_pairs_L70 fuel l1 j2849 k2854 n2855 s2856 f2857 k2858 n2859 s2860 f2861 g3561 (v3559 + 1))
def f161_pairs_L56 (fuel : Nat) (l1 : LW) : LW → Nat → Option (Sum (Int) (Unit))
 | [], j2849 => some (.inr ())
 | ((.mk k2854 n2855 s2856 f2857, .mk k2858 n2859 s2860 f2861)) :: tl2851, j2849 => sbind (ο := Unit) (grdP ((2 : Int) ≤ 9223372036854775807) (f161_pairs_L70 fuel l1 j2849 k2854 n2855 s2856 f2857 k2858 n2859 s2860 f2861 ((2 : Int) - 0).toNat 0)) (fun () => f161_pairs_L56 fuel l1 tl2851 (j2849 + 1))
def f161_pairs (fuel : Nat) : LW → Option (Int)
 | l1 => cond (((l1.length : Nat) : Int) == 0) (some 3) (cond (decide (((l1.length : Nat) : Int) > 40)) (some 2) (sbind (ο := Unit) (f161_pairs_L56 fuel l1 l1 0) (fun () => some 0)))
def C161_pairs (O : Oracle TT) (m : LW → Option (Int)) : Prop :=
 ∀ (l1 : LW) (Q : Int → Prop) (R : RR) (_ : ∀ (v3791 : Int), Q v3791 → R (iD v3791) []) (_ : sat (m l1) Q), O 161 [.c (.isl .two l1)] [] R
def j161_pairs : Fn TT := ⟨69, [.t 2], (.seq (.reg [qo 2 (.mv (iC 0))]) (.seq (.seq (.reg [qo 9 (.mv 0),qo 10 (.len false 9),qo 11 (.bin .eql .num 10 (iC 0))]) (.cond 11 (.seq (.reg [qo 2 (.mv (iC 3))]) .ret) .skip)) (.seq (.seq (.reg [qo 12 (.mv 0),qo 13 (.len false 12),qo 14 (.bin .gtr .num 13 (iC 40))]) (.cond 14 (.seq (.reg [qo 2 (.mv (iC 2))]) .ret) .skip)) (.cut [] [] (.seq
 (.reg [qo 15 (.mv 0),qo 16 (.len false 15),qo 17 (.mv (iC 0))]) (.block 0 (.loop (.keep [0, 15, 16, 17] [] (.aft (.seq (.reg [qo 18 (.bin .lss .num 17 16)]) (.seq (.cond 18 .skip (.exit 0)) (.cut [0, 15, 16, 17] [] (.block 1 (.seq (.reg [qo 19 (.mv 17),qo 20 (.idxA 15 17 8),qo 21 (.load 20 8 true),qo 4 (.alloc 4 zTw),qo 3 (.mv 19),qp (.store 4 21 8)]) (.seq (.reg [qo 22 (.mv (iC 0))])
 (.block 2 (.loop (.keep [0, 3, 4, 15, 16, 17, 22] [(.s 4)] (.aft (.seq (.reg [qo 23 (.bin .lss .num 22 (iC 2))]) (.seq (.cond 23 .skip (.exit 2)) (.cut [0, 3, 4, 15, 16, 17, 22] [(.s 4)] (.block 3 (.seq (.reg [qo 24 (.mv 22),qo 5 (.mv 24)]) (.seq (.seq (.reg [qo 25 (.mv 5),qo 26 (.idxC 4 25 4 2),qo 27 (.load 26 4 true),qo 28 (.call 28 51 [27]),qo 6 (.mv 28)]) (.seq (.reg [qo 29 (.mv 6),
 qo 30 (.bin .neq .num 29 (iC 0))]) (.cond 30 (.seq (.reg [qo 31 (.mv 6),qo 2 (.mv 31)]) .ret) .skip))) (.seq (.seq (.drw [] (oR 19) [] [0, 1, 2, 3, 5, 6, 7, 8, 9, 10, 11, 12, 13, 14, 15, 16, 17, 18] [qo 32 (.mv 5),qo 33 (.idxC 4 32 4 2),qo 34 (.fa 33 0),qo 35 (.load 34 1 false),qo 36 (.call 36 158 [35]),qo 37 (.un .not 36),qo 38 (.mv 37),qf 38 39 (.mv 5),qf 38 40 (.idxC 4 39 4 2),
 qf 38 41 (.fa 40 0),qf 38 42 (.load 41 1 false),qf 38 43 (.mv 0),qf 38 44 (.mv 5),qf 38 45 (.idxA 43 (iC 0) 8),qf 38 46 (.idxC 45 44 4 2),qf 38 47 (.fa 46 0),qf 38 48 (.load 47 1 false),qf 38 49 (.bin .neq .num 42 48),qo 50 (.pick 38 bT 49)]) (.cond 50 (.seq (.reg [qo 2 (.mv (iC 8))]) .ret) .skip)) (.seq (.reg [qo 51 (.mv 0),qo 52 (.mv 3),qo 53 (.slc 8 51 none (some 52)),
 qo 54 (.len false 53),qo 55 (.mv (iC 0))]) (.block 4 (.loop (.keep [0, 3, 4, 5, 15, 16, 17, 22, 53, 54, 55] [(.s 4)] (.aft (.seq (.reg [qo 56 (.bin .lss .num 55 54)]) (.seq (.cond 56 .skip (.exit 4)) (.seq (.block 5 (.seq (.reg [qo 57 (.idxA 53 55 8),qo 58 (.load 57 8 true),qo 8 (.alloc 8 zTw),qp (.store 8 58 8)]) (.seq (.drw [] (oR 7) [] (List.range 6) [qo 59 (.mv 5),qo 60 (.idxC 4 59 4 2),
 qo 61 (.load 60 4 true),qo 62 (.mv 5),qo 63 (.idxC 8 62 4 2),qo 64 (.load 63 4 true),qo 65 (.call 65 11 [61, 64])]) (.cond 65 (.seq (.reg [qo 2 (.mv (iC 5))]) .ret) .skip)))) (.reg [qo 66 (.bin .add .num 55 (iC 1)),qo 55 (.mv 66)])))) [.keep [0, 3, 4, 5, 15, 16, 17, 22, 53, 54, 55] [(.s 4)]]))))))))) (.reg [qo 67 (.bin .add .num 22 (iC 1)),
 qo 22 (.mv 67)])))) [.keep [0, 3, 4, 15, 16, 17, 22] [(.s 4)]]))))))) (.reg [qo 68 (.bin .add .num 17 (iC 1)),qo 17 (.mv 68)])))) [.keep [0, 15, 16, 17] []]))))) (.seq (.reg [qo 2 (.mv (iC 0))]) .ret)))))⟩
theorem w161_pairs {O : Oracle TT} (fuel : Nat) (h11_Same : C11_Same O (f11_Same fuel)) (h51_Check : C51_Check O (f51_Check fuel)) (h158_Plain : C158_Plain O f158_Plain) : C161_pairs (fun _ => vcF (S := SS) O j161_pairs) (f161_pairs fuel) := by
 intro l1 Q R hQ h
 unfold f161_pairs at h
 refine ⟨nle rfl, rfl, ?_⟩
 intro hl2
 refine kc h (fun h => ?_) fun h => ?_
 intro hl4
 refine kc h (fun h => ?_) fun h => ?_
 obtain ⟨R1898, h, hlR1898, hrR1898⟩ := sat_sbind h
 refine kX (fun σ => R1898 (.inr ()) ∧ σ = ⟨[], []⟩) ?_ ?_
 intro hl1899
 refine kX (fun σ n => ∃ (rem2850 : LW) (j2849 : Nat) (z : Int), n = rem2850.length ∧ l1.drop j2849 = rem2850 ∧ z = ((j2849 : Nat) : Int) ∧ sat (f161_pairs_L56 fuel l1 rem2850 j2849) R1898 ∧ σ.keep [0, 15, 16, 17] [] = ⟨[(0, .c (.isl .two l1)), (15, .c (.isl .two l1)), (16, iD ((l1.length : Nat) : Int)), (17, iD z)], []⟩) ⟨_, l1, 0, _, rfl, rfl, rfl, h, rfl⟩ ?_
 rintro σ n ⟨rem2850, j2849, _, rfl, hrem2850, rfl, h, hσ⟩
 refine kk hσ ?_
 intro t2853 (ht2853 : t2853 = decide (((j2849 : Nat) : Int) < ((l1.length : Nat) : Int)))
 cases t2853
 obtain rfl := ll_nil hrem2850 ht2853
 rw [f161_pairs_L56] at h
 conv => whnf
 exact ⟨sat_some h, rfl⟩
 obtain ⟨x2852, tl2851, rfl, hx2852, htl2851⟩ := ll_cons hrem2850 ht2853
 obtain ⟨⟨k2854, n2855, s2856, f2857⟩, ⟨k2858, n2859, s2860, f2861⟩⟩ := x2852
 rw [f161_pairs_L56] at h
 obtain ⟨R3326, h, hlR3326, hrR3326⟩ := sat_sbind h
 refine kX (fun σ => R3326 (.inr ()) ∧ σ = ⟨[(0, .c (.isl .two l1)), (15, .c (.isl .two l1)), (16, iD ((l1.length : Nat) : Int)), (17, iD ((j2849 : Nat) : Int))], []⟩) ?_ ?_
 conv => whnf
 refine ⟨lx_bd hx2852, fun uu3327 huu3327 => ?_⟩
 obtain rfl := lx_eq hx2852 huu3327
 obtain ⟨hN3562, h⟩ := sat_grdP h
 refine kX (fun σ n => ∃ (f3560 : Nat) (v3559 : Int) (z : Int), f3560 = n ∧ f3560 = (2 - v3559).toNat ∧ 0 ≤ v3559 ∧ v3559 = z ∧ sat (f161_pairs_L70 fuel l1 j2849 k2854 n2855 s2856 f2857 k2858 n2859 s2860 f2861 f3560 v3559) R3326 ∧ σ.keep [0, 3, 4, 15, 16, 17, 22] [(.s 4)] = ⟨[(0, .c (.isl .two l1)), (3, iD ((j2849 : Nat) : Int)), (4, pS 4), (15, .c (.isl .two l1)), (16, iD ((l1.length : Nat) : Int)), (17, iD ((j2849 : Nat) : Int)), (22, iD z)], [(.s 4, some (.var [ci k2854, ci n2855, .str s2856, .isl .fld f2857, ci k2858, ci n2859, .str s2860, .isl .fld f2861]))]⟩) ⟨_, _, 0, _, rfl, rfl, (by decide), rfl, h, rfl⟩ ?_
 rintro σ n ⟨f3560, v3559, _, rfl, hf3560, hpf3560, rfl, h, hσ⟩
 refine kk hσ ?_
 intro t3563 (ht3563 : t3563 = decide (v3559 < 2))
 cases t3563
 obtain rfl := il_nil hf3560 ht3563
 rw [f161_pairs_L70] at h
 conv => whnf
 exact ⟨sat_some h, rfl⟩
 obtain ⟨g3561, rfl, hwg3561, hpg3561, hfg3561⟩ := il_cons hf3560 hpf3560 ht3563 hN3562
 rw [f161_pairs_L70] at h
 obtain ⟨R3677, h, hlR3677, hrR3677⟩ := sat_sbind h
 refine kX (fun σ => R3677 (.inr ()) ∧ σ = ⟨[(0, .c (.isl .two l1)), (3, iD ((j2849 : Nat) : Int)), (4, pS 4), (15, .c (.isl .two l1)), (16, iD ((l1.length : Nat) : Int)), (17, iD ((j2849 : Nat) : Int)), (22, iD v3559)], [(.s 4, some (.var [ci k2854, ci n2855, .str s2856, .isl .fld f2857, ci k2858, ci n2859, .str s2860, .isl .fld f2861]))]⟩) ?_ ?_
 conv => whnf
 obtain ⟨hbj3678, h⟩ := sat_caseI h
 refine ⟨hbj3678, fun j3678 hj3678 => ?_⟩
 replace h := h j3678 hj3678
 replace hbj3678 : (0 : Int) ≤ v3559 ∧ v3559 < 2 := hbj3678
 have hcj3678 : j3678 = 0 ∨ j3678 = 1 := by omega
 rcases hcj3678 with rfl | rfl
 replace h := sat_j0 h
 refine kL [] (h51_Check _ _ _ _ _ _ ?_ (sat_bind h))
 rintro v3679 h
 refine kc h (fun h => ?_) fun h => ?_
 conv => whnf
 refine ⟨⟨by omega, by omega⟩, fun j3681 hj3681 => ?_⟩
 obtain rfl : j3681 = 0 := by omega
 refine kL [] (h158_Plain _ _ _ ?_ (sat_bind h))
 rintro q3682 h
 cases q3682
 replace h := sat_cf h
 replace h := sat_lft hlR3677 h
 replace h := sat_lft hlR3326 h
 replace h := sat_lft hlR1898 h
 exact kR [] (ND 0) (hQ _ (sat_some h))
 replace h := sat_ct h
 conv => whnf
 refine ⟨⟨by omega, by omega⟩, fun j3683 hj3683 => ?_⟩
 obtain rfl : j3683 = 0 := by omega
 refine kg (sat_getL h) fun uu3692 huu3692 h => ?_
 obtain ⟨⟨k3684, n3685, s3686, f3687⟩, ⟨k3688, n3689, s3690, f3691⟩⟩ := uu3692
 conv => whnf
 refine ⟨⟨by omega, by omega⟩, fun j3693 hj3693 => ?_⟩
 obtain rfl : j3693 = 0 := by omega
 refine kc h (fun h => ?_) fun h => ?_
 conv => whnf
 obtain ⟨⟨hb3695, hb3696⟩, h⟩ := sat_grdP h
 refine ⟨hb3695, ?_⟩
 conv => whnf
 refine ⟨hb3696, ?_⟩
 intro hl3697
 refine kX (fun σ n => ∃ (rem3717 : LW) (j3716 : Nat) (z : Int), n = rem3717.length ∧ ((l1.drop 0).take (((j2849 : Nat) : Int).toNat - 0)).drop j3716 = rem3717 ∧ z = ((j3716 : Nat) : Int) ∧ sat (f161_pairs_L73 fuel k2854 n2855 s2856 f2857 k2858 n2859 s2860 f2861 v3559 rem3717 j3716) R3677 ∧ σ.keep [0, 3, 4, 5, 15, 16, 17, 22, 53, 54, 55] [(.s 4)] = ⟨[(0, .c (.isl .two l1)), (3, iD ((j2849 : Nat) : Int)), (4, pS 4), (5, iD v3559), (15, .c (.isl .two l1)), (16, iD ((l1.length : Nat) : Int)), (17, iD ((j2849 : Nat) : Int)), (22, iD v3559), (53, .c (.isl .two ((l1.drop 0).take (((j2849 : Nat) : Int).toNat - 0)))), (54, iD ((((l1.drop 0).take (((j2849 : Nat) : Int).toNat - 0)).length : Nat) : Int)), (55, iD z)], [(.s 4, some (.var [ci k2854, ci n2855, .str s2856, .isl .fld f2857, ci k2858, ci n2859, .str s2860, .isl .fld f2861]))]⟩) ⟨_, ((l1.drop 0).take (((j2849 : Nat) : Int).toNat - 0)), 0, _, rfl, rfl, rfl, h, rfl⟩ ?_
 rintro σ n ⟨rem3717, j3716, _, rfl, hrem3717, rfl, h, hσ⟩
 refine kk hσ ?_
 intro t3720 (ht3720 : t3720 = decide (((j3716 : Nat) : Int) < ((((l1.drop 0).take (((j2849 : Nat) : Int).toNat - 0)).length : Nat) : Int)))
 cases t3720
 obtain rfl := ll_nil hrem3717 ht3720
 rw [f161_pairs_L73] at h
 conv => whnf
 exact ⟨sat_some h, rfl⟩
 obtain ⟨x3719, tl3718, rfl, hx3719, htl3718⟩ := ll_cons hrem3717 ht3720
 obtain ⟨⟨k3721, n3722, s3723, f3724⟩, ⟨k3725, n3726, s3727, f3728⟩⟩ := x3719
 rw [f161_pairs_L73] at h
 conv => whnf
 refine ⟨lx_bd hx3719, fun uu3729 huu3729 => ?_⟩
 obtain rfl := lx_eq hx3719 huu3729
 conv => whnf
 obtain ⟨hbj3730, h⟩ := sat_caseI h
 refine ⟨hbj3730, fun j3730 hj3730 => ?_⟩
 replace h := h j3730 hj3730
 replace hbj3730 : (0 : Int) ≤ v3559 ∧ v3559 < 2 := hbj3730
 have hcj3730 : j3730 = 0 ∨ j3730 = 1 := by omega
 rcases hcj3730 with rfl | rfl
 replace h := sat_j0 h
 conv => whnf
 refine ⟨⟨by omega, by omega⟩, fun j3731 hj3731 => ?_⟩
 obtain rfl : j3731 = 0 := by omega
 refine kL [] (h11_Same _ _ _ _ _ _ _ _ _ _ ?_ (sat_bind h))
 rintro q3732 h
 cases q3732
 replace h := sat_cf h
 conv => whnf
 exact ⟨tl3718.length, nls, tl3718, j3716 + 1, _, rfl, htl3718, lx_wr hx3719 hl3697, h, rfl⟩
 replace h := sat_ct h
 replace h := sat_lft hlR3677 h
 replace h := sat_lft hlR3326 h
 replace h := sat_lft hlR1898 h
 exact kR [] (ND 0) (hQ _ (sat_some h))
 replace h := sat_j1 h
 conv => whnf
 refine ⟨⟨by omega, by omega⟩, fun j3733 hj3733 => ?_⟩
 obtain rfl : j3733 = 1 := by omega
 refine kL [] (h11_Same _ _ _ _ _ _ _ _ _ _ ?_ (sat_bind h))
 rintro q3734 h
 cases q3734
 replace h := sat_cf h
 conv => whnf
 exact ⟨tl3718.length, nls, tl3718, j3716 + 1, _, rfl, htl3718, lx_wr hx3719 hl3697, h, rfl⟩
 replace h := sat_ct h
 replace h := sat_lft hlR3677 h
 replace h := sat_lft hlR3326 h
 replace h := sat_lft hlR1898 h
 exact kR [] (ND 0) (hQ _ (sat_some h))
 replace h := sat_lft hlR3677 h
 replace h := sat_lft hlR3326 h
 replace h := sat_lft hlR1898 h
 exact kR [] (ND 0) (hQ _ (sat_some h))
 replace h := sat_lft hlR3677 h
 replace h := sat_lft hlR3326 h
 replace h := sat_lft hlR1898 h
 exact kR [] (ND 0) (hQ _ (sat_some h))
 replace h := sat_j1 h
 refine kL [] (h51_Check _ _ _ _ _ _ ?_ (sat_bind h))
 rintro v3735 h
 refine kc h (fun h => ?_) fun h => ?_
 conv => whnf
 refine ⟨⟨by omega, by omega⟩, fun j3737 hj3737 => ?_⟩
 obtain rfl : j3737 = 1 := by omega
 refine kL [] (h158_Plain _ _ _ ?_ (sat_bind h))
 rintro q3738 h
 cases q3738
 replace h := sat_cf h
 replace h := sat_lft hlR3677 h
 replace h := sat_lft hlR3326 h
 replace h := sat_lft hlR1898 h
 exact kR [] (ND 0) (hQ _ (sat_some h))
 replace h := sat_ct h
 conv => whnf
 refine ⟨⟨by omega, by omega⟩, fun j3739 hj3739 => ?_⟩
 obtain rfl : j3739 = 1 := by omega
 refine kg (sat_getL h) fun uu3748 huu3748 h => ?_
 obtain ⟨⟨k3740, n3741, s3742, f3743⟩, ⟨k3744, n3745, s3746, f3747⟩⟩ := uu3748
 conv => whnf
 refine ⟨⟨by omega, by omega⟩, fun j3749 hj3749 => ?_⟩
 obtain rfl : j3749 = 1 := by omega
 refine kc h (fun h => ?_) fun h => ?_
 conv => whnf
 obtain ⟨⟨hb3751, hb3752⟩, h⟩ := sat_grdP h
 refine ⟨hb3751, ?_⟩
 conv => whnf
 refine ⟨hb3752, ?_⟩
 intro hl3753
 refine kX (fun σ n => ∃ (rem3773 : LW) (j3772 : Nat) (z : Int), n = rem3773.length ∧ ((l1.drop 0).take (((j2849 : Nat) : Int).toNat - 0)).drop j3772 = rem3773 ∧ z = ((j3772 : Nat) : Int) ∧ sat (f161_pairs_L74 fuel k2854 n2855 s2856 f2857 k2858 n2859 s2860 f2861 v3559 rem3773 j3772) R3677 ∧ σ.keep [0, 3, 4, 5, 15, 16, 17, 22, 53, 54, 55] [(.s 4)] = ⟨[(0, .c (.isl .two l1)), (3, iD ((j2849 : Nat) : Int)), (4, pS 4), (5, iD v3559), (15, .c (.isl .two l1)), (16, iD ((l1.length : Nat) : Int)), (17, iD ((j2849 : Nat) : Int)), (22, iD v3559), (53, .c (.isl .two ((l1.drop 0).take (((j2849 : Nat) : Int).toNat - 0)))), (54, iD ((((l1.drop 0).take (((j2849 : Nat) : Int).toNat - 0)).length : Nat) : Int)), (55, iD z)], [(.s 4, some (.var [ci k2854, ci n2855, .str s2856, .isl .fld f2857, ci k2858, ci n2859, .str s2860, .isl .fld f2861]))]⟩) ⟨_, ((l1.drop 0).take (((j2849 : Nat) : Int).toNat - 0)), 0, _, rfl, rfl, rfl, h, rfl⟩ ?_
 rintro σ n ⟨rem3773, j3772, _, rfl, hrem3773, rfl, h, hσ⟩
 refine kk hσ ?_
 intro t3776 (ht3776 : t3776 = decide (((j3772 : Nat) : Int) < ((((l1.drop 0).take (((j2849 : Nat) : Int).toNat - 0)).length : Nat) : Int)))
 cases t3776
 obtain rfl := ll_nil hrem3773 ht3776
 rw [f161_pairs_L74] at h
 conv => whnf
 exact ⟨sat_some h, rfl⟩
 obtain ⟨x3775, tl3774, rfl, hx3775, htl3774⟩ := ll_cons hrem3773 ht3776
 obtain ⟨⟨k3777, n3778, s3779, f3780⟩, ⟨k3781, n3782, s3783, f3784⟩⟩ := x3775
 rw [f161_pairs_L74] at h
 conv => whnf
 refine ⟨lx_bd hx3775, fun uu3785 huu3785 => ?_⟩
 obtain rfl := lx_eq hx3775 huu3785
 conv => whnf
 obtain ⟨hbj3786, h⟩ := sat_caseI h
 refine ⟨hbj3786, fun j3786 hj3786 => ?_⟩
 replace h := h j3786 hj3786
 replace hbj3786 : (0 : Int) ≤ v3559 ∧ v3559 < 2 := hbj3786
 have hcj3786 : j3786 = 0 ∨ j3786 = 1 := by omega
 rcases hcj3786 with rfl | rfl
 replace h := sat_j0 h
 conv => whnf
 refine ⟨⟨by omega, by omega⟩, fun j3787 hj3787 => ?_⟩
 obtain rfl : j3787 = 0 := by omega
 refine kL [] (h11_Same _ _ _ _ _ _ _ _ _ _ ?_ (sat_bind h))
 rintro q3788 h
 cases q3788
 replace h := sat_cf h
 conv => whnf
 exact ⟨tl3774.length, nls, tl3774, j3772 + 1, _, rfl, htl3774, lx_wr hx3775 hl3753, h, rfl⟩
 replace h := sat_ct h
 replace h := sat_lft hlR3677 h
 replace h := sat_lft hlR3326 h
 replace h := sat_lft hlR1898 h
 exact kR [] (ND 0) (hQ _ (sat_some h))
 replace h := sat_j1 h
 conv => whnf
 refine ⟨⟨by omega, by omega⟩, fun j3789 hj3789 => ?_⟩
 obtain rfl : j3789 = 1 := by omega
 refine kL [] (h11_Same _ _ _ _ _ _ _ _ _ _ ?_ (sat_bind h))
 rintro q3790 h
 cases q3790
 replace h := sat_cf h
 conv => whnf
 exact ⟨tl3774.length, nls, tl3774, j3772 + 1, _, rfl, htl3774, lx_wr hx3775 hl3753, h, rfl⟩
 replace h := sat_ct h
 replace h := sat_lft hlR3677 h
 replace h := sat_lft hlR3326 h
 replace h := sat_lft hlR1898 h
 exact kR [] (ND 0) (hQ _ (sat_some h))
 replace h := sat_lft hlR3677 h
 replace h := sat_lft hlR3326 h
 replace h := sat_lft hlR1898 h
 exact kR [] (ND 0) (hQ _ (sat_some h))
 replace h := sat_lft hlR3677 h
 replace h := sat_lft hlR3326 h
 replace h := sat_lft hlR1898 h
 exact kR [] (ND 0) (hQ _ (sat_some h))
 rintro _ ⟨h, rfl⟩
 replace h := hrR3677 _ h
 conv => whnf
 exact ⟨g3561, nls, g3561, v3559 + 1, _, rfl, hfg3561, hpg3561, hwg3561.symm, h, rfl⟩
 rintro _ ⟨h, rfl⟩
 replace h := hrR3326 _ h
 conv => whnf
 exact ⟨tl2851.length, nls, tl2851, j2849 + 1, _, rfl, htl2851, lx_wr hx2852 hl1899, h, rfl⟩
 rintro _ ⟨h, rfl⟩
 replace h := hrR1898 _ h
 exact kR [] (ND 0) (hQ _ (sat_some h))
 exact kR [] (ND 0) (hQ _ (sat_some h))
 exact kR [] (ND 0) (hQ _ (sat_some h))
theorem c161_pairs {P : Program} {fid : Nat → FuncId} (mx : MX P) (k161_pairs : KF P fid 161 j161_pairs) (h11_Same : ∀ n, C11_Same (SP P fid) (f11_Same n)) (h51_Check : ∀ n, C51_Check (SP P fid) (f51_Check n)) (h158_Plain : C158_Plain (SP P fid) f158_Plain) : ∀ n, C161_pairs (SP P fid) (f161_pairs n) :=
 fun n => fun a0 Q R hQ h => spec_of_vc mx k161_pairs (w161_pairs n (h11_Same n) (h51_Check n) h158_Plain a0 Q R hQ h)
def f174_Index_L2 (s2 : BA) : LB → Nat → Option (Sum (Int) (Unit))
 | [], j28 => some (.inr ())
 | w33 :: tl30, j28 => cond (s2.toList == w33.toList) (lft (some ((j28 : Nat) : Int))) (f174_Index_L2 s2 tl30 (j28 + 1))
def f174_Index : LB → BA → Option (Int)
 | l1, s2 => sbind (ο := Unit) (f174_Index_L2 s2 l1 0) (fun () => some (-1))
def C174_Index (O : Oracle TT) (m : LB → BA → Option (Int)) : Prop :=
 ∀ (l1 : LB) (s2 : BA) (Q : Int → Prop) (R : RR) (_ : ∀ (v36 : Int), Q v36 → R (iD v36) []) (_ : sat (m l1 s2) Q), O 174 [.c (.isl .str l1), sD s2] [] R
def j174_Index : Fn TT := ⟨19, [.t 4], (.seq (.reg [qo 4 (.mv (iC 0))]) (.cut [] [] (.seq (.reg [qo 6 (.mv 0),qo 7 (.len false 6),qo 8 (.mv (iC 0))]) (.block 0 (.loop (.keep [0, 1, 7, 8] [] (.aft (.seq (.reg [qo 9 (.bin .lss .num 8 7)]) (.seq (.cond 9 .skip (.exit 0)) (.seq (.block 1 (.seq (.reg [qo 10 (.mv 8),qo 5 (.mv 10)]) (.seq (.reg [qo 11 (.mv 1),qo 12 (.mv 0),qo 13 (.mv 5),
 qo 14 (.idxA 12 13 1),qo 15 (.load 14 1 false),qo 16 (.bin .eql .str 11 15)]) (.cond 16 (.seq (.reg [qo 17 (.mv 5),qo 4 (.mv 17)]) .ret) .skip)))) (.reg [qo 18 (.bin .add .num 8 (iC 1)),qo 8 (.mv 18)])))) [.keep [0, 1, 7, 8] []]))))) (.seq (.reg [qo 4 (.mv (iC (-1)))]) .ret)))⟩
theorem w174_Index {O : Oracle TT} : C174_Index (fun _ => vcF (S := SS) O j174_Index) f174_Index := by
 intro l1 s2 Q R hQ h
 unfold f174_Index at h
 refine ⟨nle rfl, rfl, ?_⟩
 obtain ⟨R19, h, hlR19, hrR19⟩ := sat_sbind h
 refine kX (fun σ => R19 (.inr ()) ∧ σ = ⟨[], []⟩) ?_ ?_
 intro hl20
 refine kX (fun σ n => ∃ (rem29 : LB) (j28 : Nat) (z : Int), n = rem29.length ∧ l1.drop j28 = rem29 ∧ z = ((j28 : Nat) : Int) ∧ sat (f174_Index_L2 s2 rem29 j28) R19 ∧ σ.keep [0, 1, 7, 8] [] = ⟨[(0, .c (.isl .str l1)), (1, sD s2), (7, iD ((l1.length : Nat) : Int)), (8, iD z)], []⟩) ⟨_, l1, 0, _, rfl, rfl, rfl, h, rfl⟩ ?_
 rintro σ n ⟨rem29, j28, _, rfl, hrem29, rfl, h, hσ⟩
 refine kk hσ ?_
 intro t32 (ht32 : t32 = decide (((j28 : Nat) : Int) < ((l1.length : Nat) : Int)))
 cases t32
 obtain rfl := ll_nil hrem29 ht32
 rw [f174_Index_L2] at h
 conv => whnf
 exact ⟨sat_some h, rfl⟩
 obtain ⟨w33, tl30, rfl, hx31, htl30⟩ := ll_cons hrem29 ht32
 rw [f174_Index_L2] at h
 conv => whnf
 refine ⟨lx_bd hx31, fun uu34 huu34 => ?_⟩
 obtain rfl := lx_eq hx31 huu34
 refine kc h (fun h => ?_) fun h => ?_
 conv => whnf
 exact ⟨tl30.length, nls, tl30, j28 + 1, _, rfl, htl30, lx_wr hx31 hl20, h, rfl⟩
 replace h := sat_lft hlR19 h
 exact kR [] (ND 0) (hQ _ (sat_some h))
 rintro _ ⟨h, rfl⟩
 replace h := hrR19 _ h
 exact kR [] (ND 0) (hQ _ (sat_some h))
theorem c174_Index {P : Program} {fid : Nat → FuncId} (mx : MX P) (k174_Index : KF P fid 174 j174_Index) : C174_Index (SP P fid) f174_Index :=
 fun a0 a1 Q R hQ h => spec_of_vc mx k174_Index (w174_Index a0 a1 Q R hQ h)
def f170_Contains : LB → BA → Option (Bool)
 | l1, s2 => (f174_Index l1 s2).bind fun v3 => cond (decide (v3 ≥ 0)) (some true) (some false)
def C170_Contains (O : Oracle TT) (m : LB → BA → Option (Bool)) : Prop :=
 ∀ (l1 : LB) (s2 : BA) (Q : Bool → Prop) (R : RR) (_ : ∀ (q5 : Bool), Q q5 → R (bD q5) []) (_ : sat (m l1 s2) Q), O 170 [.c (.isl .str l1), sD s2] [] R
def j170_Contains : Fn TT := ⟨9, [.t 4], (.seq (.reg [qo 4 (.mv bF)]) (.seq (.reg [qo 5 (.mv 0),qo 6 (.mv 1),qo 7 (.call 7 174 [5, 6]),qo 8 (.bin .geq .num 7 (iC 0)),qo 4 (.mv 8)]) .ret))⟩
theorem w170_Contains {O : Oracle TT} (h174_Index : C174_Index O f174_Index) : C170_Contains (fun _ => vcF (S := SS) O j170_Contains) f170_Contains := by
 intro l1 s2 Q R hQ h
 unfold f170_Contains at h
 refine ⟨nle rfl, rfl, ?_⟩
 refine kL [] (h174_Index _ _ _ _ ?_ (sat_bind h))
 rintro v3 h
 refine kc h (fun h => ?_) fun h => ?_
 exact kR [] (ND 0) (hQ _ (sat_some h))
 exact kR [] (ND 0) (hQ _ (sat_some h))
theorem c170_Contains {P : Program} {fid : Nat → FuncId} (mx : MX P) (k170_Contains : KF P fid 170 j170_Contains) (h174_Index : C174_Index (SP P fid) f174_Index) : C170_Contains (SP P fid) f170_Contains :=
 fun a0 a1 Q R hQ h => spec_of_vc mx k170_Contains (w170_Contains h174_Index a0 a1 Q R hQ h)
def f159_names_L2 (l1 : LB) : LB → Nat → Option (Sum (Int) (Unit))
 | [], j38 => some (.inr ())
 | w43 :: tl40, j38 => (f132_Name w43).bind fun q45 => cond q45 (grdP ((0 : Int) ≤ ((j38 : Nat) : Int) ∧ 0 ≤ ((j38 : Nat) : Int).toNat ∧ ((j38 : Nat) : Int).toNat ≤ l1.length) ((f170_Contains ((l1.drop 0).take (((j38 : Nat) : Int).toNat - 0)) w43).bind fun q48 => cond q48 (lft (some 5)) (f159_names_L2 l1 tl40 (j38 + 1)))) (lft (some 15))
def f159_names : LB → Option (Int)
 | l1 => cond (((l1.length : Nat) : Int) == 0) (some 3) (sbind (ο := Unit) (f159_names_L2 l1 l1 0) (fun () => some 0))
def C159_names (O : Oracle TT) (m : LB → Option (Int)) : Prop :=
 ∀ (l1 : LB) (Q : Int → Prop) (R : RR) (_ : ∀ (v49 : Int), Q v49 → R (iD v49) []) (_ : sat (m l1) Q), O 159 [.c (.isl .str l1)] [] R
def j159_names : Fn TT := ⟨24, [.t 2], (.seq (.reg [qo 2 (.mv (iC 0))]) (.seq (.seq (.reg [qo 5 (.mv 0),qo 6 (.len false 5),qo 7 (.bin .eql .num 6 (iC 0))]) (.cond 7 (.seq (.reg [qo 2 (.mv (iC 3))]) .ret) .skip)) (.cut [] [] (.seq (.reg [qo 8 (.mv 0),qo 9 (.len false 8),qo 10 (.mv (iC 0))]) (.block 0 (.loop (.keep [0, 8, 9, 10] [] (.aft (.seq (.reg [qo 11 (.bin .lss .num 10 9)]) (.seq
 (.cond 11 .skip (.exit 0)) (.seq (.block 1 (.seq (.reg [qo 12 (.mv 10),qo 13 (.idxA 8 10 1),qo 14 (.load 13 1 false),qo 3 (.mv 12),qo 4 (.mv 14)]) (.seq (.seq (.reg [qo 15 (.mv 4),qo 16 (.call 16 132 [15]),qo 17 (.un .not 16)]) (.cond 17 (.seq (.reg [qo 2 (.mv (iC 15))]) .ret) .skip)) (.seq (.reg [qo 18 (.mv 0),qo 19 (.mv 3),qo 20 (.slc 1 18 none (some 19)),qo 21 (.mv 4),
 qo 22 (.call 22 170 [20, 21])]) (.cond 22 (.seq (.reg [qo 2 (.mv (iC 5))]) .ret) .skip))))) (.reg [qo 23 (.bin .add .num 10 (iC 1)),qo 10 (.mv 23)])))) [.keep [0, 8, 9, 10] []]))))) (.seq (.reg [qo 2 (.mv (iC 0))]) .ret))))⟩
theorem w159_names {O : Oracle TT} (h132_Name : C132_Name O f132_Name) (h170_Contains : C170_Contains O f170_Contains) : C159_names (fun _ => vcF (S := SS) O j159_names) f159_names := by
 intro l1 Q R hQ h
 unfold f159_names at h
 refine ⟨nle rfl, rfl, ?_⟩
 intro hl2
 refine kc h (fun h => ?_) fun h => ?_
 obtain ⟨R26, h, hlR26, hrR26⟩ := sat_sbind h
 refine kX (fun σ => R26 (.inr ()) ∧ σ = ⟨[], []⟩) ?_ ?_
 intro hl27
 refine kX (fun σ n => ∃ (rem39 : LB) (j38 : Nat) (z : Int), n = rem39.length ∧ l1.drop j38 = rem39 ∧ z = ((j38 : Nat) : Int) ∧ sat (f159_names_L2 l1 rem39 j38) R26 ∧ σ.keep [0, 8, 9, 10] [] = ⟨[(0, .c (.isl .str l1)), (8, .c (.isl .str l1)), (9, iD ((l1.length : Nat) : Int)), (10, iD z)], []⟩) ⟨_, l1, 0, _, rfl, rfl, rfl, h, rfl⟩ ?_
 rintro σ n ⟨rem39, j38, _, rfl, hrem39, rfl, h, hσ⟩
 refine kk hσ ?_
 intro t42 (ht42 : t42 = decide (((j38 : Nat) : Int) < ((l1.length : Nat) : Int)))
 cases t42
 obtain rfl := ll_nil hrem39 ht42
 rw [f159_names_L2] at h
 conv => whnf
 exact ⟨sat_some h, rfl⟩
 obtain ⟨w43, tl40, rfl, hx41, htl40⟩ := ll_cons hrem39 ht42
 rw [f159_names_L2] at h
 conv => whnf
 refine ⟨lx_bd hx41, fun uu44 huu44 => ?_⟩
 obtain rfl := lx_eq hx41 huu44
 refine kL [] (h132_Name _ _ _ ?_ (sat_bind h))
 rintro q45 h
 cases q45
 replace h := sat_cf h
 replace h := sat_lft hlR26 h
 exact kR [] (ND 0) (hQ _ (sat_some h))
 replace h := sat_ct h
 conv => whnf
 obtain ⟨⟨hb46, hb47⟩, h⟩ := sat_grdP h
 refine ⟨hb46, ?_⟩
 conv => whnf
 refine ⟨hb47, ?_⟩
 refine kL [] (h170_Contains _ _ _ _ ?_ (sat_bind h))
 rintro q48 h
 cases q48
 replace h := sat_cf h
 conv => whnf
 exact ⟨tl40.length, nls, tl40, j38 + 1, _, rfl, htl40, lx_wr hx41 hl27, h, rfl⟩
 replace h := sat_ct h
 replace h := sat_lft hlR26 h
 exact kR [] (ND 0) (hQ _ (sat_some h))
 rintro _ ⟨h, rfl⟩
 replace h := hrR26 _ h
 exact kR [] (ND 0) (hQ _ (sat_some h))
 exact kR [] (ND 0) (hQ _ (sat_some h))
theorem c159_names {P : Program} {fid : Nat → FuncId} (mx : MX P) (k159_names : KF P fid 159 j159_names) (h132_Name : C132_Name (SP P fid) f132_Name) (h170_Contains : C170_Contains (SP P fid) f170_Contains) : C159_names (SP P fid) f159_names :=
 fun a0 Q R hQ h => spec_of_vc mx k159_names (w159_names h132_Name h170_Contains a0 Q R hQ h)
def f145_special_L2 (fuel : Nat) : LB → Nat → Option (Sum (Int) (Unit))
 | [], j77 => some (.inr ())
 | w82 :: tl79, j77 => (f160_Check fuel w82).bind fun v84 => cond (v84 != 0) (lft (some v84)) (f145_special_L2 fuel tl79 (j77 + 1))
def f145_special (fuel : Nat) : Ln → Option (Int)
 | .mk op1 nm2 to3 ns4 n5 lo6 hi7 sep8 (.mk k9 n10 s11 f12) prs13 ks14 => sbind (ο := Unit) (cond (op1 == 5) (cond (k9 != 0) ((f158_Plain k9).bind fun q93 => cond q93 (some (.inr ())) (lft (some 8))) (some (.inr ()))) (cond (op1 == 15) ((f158_Plain k9).bind fun q91 => cond q91 (some (.inr ())) (lft (some 8))) (cond (op1 == 6) ((f159_names ns4).bind fun v90 => lft (some v90)) (cond (op1 == 14) (cond (((ns4.length : Nat) : Int) != ((ks14.length : Nat) : Int)) (lft (some 3)) ((f159_names ns4).bind fun v89 => lft (some v89))) (cond (op1 == 9) (cond (((ns4.length : Nat) : Int) != 2) (lft (some 3)) (f145_special_L2 fuel ns4 0)) (cond (op1 == 11) ((f161_pairs fuel prs13).bind fun v65 => lft (some v65)) (cond (op1 == 12) (cond (decide (lo6 < 0)) (lft (some 11)) (cond (decide (hi7 < lo6)) (lft (some 11)) (cond (decide (hi7 > 999999999)) (lft (some 11)) (some (.inr ()))))) (some (.inr ()))))))))) (fun () => some 0)
def C145_special (O : Oracle TT) (m : Ln → Option (Int)) : Prop :=
 ∀ (op1 : Int) (nm2 : BA) (to3 : BA) (ns4 : LB) (n5 : Int) (lo6 : Int) (hi7 : Int) (sep8 : Int) (k9 : Int) (n10 : Int) (s11 : BA) (f12 : FV) (prs13 : LW) (ks14 : List Ln) (Q : Int → Prop) (R : RR) (_ : ∀ (v94 : Int), Q v94 → R (iD v94) []) (_ : sat (m (Ln.mk op1 nm2 to3 ns4 n5 lo6 hi7 sep8 (V.mk k9 n10 s11 f12) prs13 ks14)) Q), O 145 [.agg [ci op1, .str nm2, .str to3, .isl .str ns4, ci n5, ci lo6, ci hi7, .int .u8 sep8, ci k9, ci n10, .str s11, .isl .fld f12, .isl .two prs13, .isl .lens ks14]] [] R
def j145_special : Fn TT := ⟨86, [.t 2], (.seq (.reg [qo 1 (.box 1 0),qo 2 (.mv (iC 0))]) (.cut [] [] (.seq (.reg [qo 6 (.fa 1 0),qo 7 (.load 6 1 false)]) (.block 0 (.seq (.reg [qo 9 (.bin .eql .num 7 (iC 5)),qo 8 (.mv 9)]) (.cond 8 (.seq (.reg [qo 10 (.fa 1 8),qo 11 (.fa 10 0),qo 12 (.load 11 1 false),qo 13 (.bin .neq .num 12 (iC 0)),qo 14 (.mv 13),qg 14 15 (.fa 1 8),qg 14 16 (.fa 15 0),
 qg 14 17 (.load 16 1 false),qg 14 18 (.call 18 158 [17]),qg 14 19 (.un .not 18),qo 20 (.pick 14 19 bF)]) (.cond 20 (.seq (.reg [qo 2 (.mv (iC 8))]) .ret) .skip)) (.seq (.reg [qo 22 (.bin .eql .num 7 (iC 15)),qo 21 (.mv 22)]) (.cond 21 (.seq (.reg [qo 23 (.fa 1 8),qo 24 (.fa 23 0),qo 25 (.load 24 1 false),qo 26 (.call 26 158 [25]),qo 27 (.un .not 26)]) (.cond 27 (.seq
 (.reg [qo 2 (.mv (iC 8))]) .ret) .skip)) (.seq (.reg [qo 29 (.bin .eql .num 7 (iC 6)),qo 28 (.mv 29)]) (.cond 28 (.seq (.reg [qo 30 (.fa 1 3),qo 31 (.load 30 1 false),qo 32 (.call 32 159 [31]),qo 2 (.mv 32)]) .ret) (.seq (.reg [qo 34 (.bin .eql .num 7 (iC 14)),qo 33 (.mv 34)]) (.cond 33 (.seq (.seq (.reg [qo 35 (.fa 1 3),qo 36 (.load 35 1 false),qo 37 (.len false 36),qo 38 (.fa 1 13),
 qo 39 (.load 38 1 false),qo 40 (.len false 39),qo 41 (.bin .neq .num 37 40)]) (.cond 41 (.seq (.reg [qo 2 (.mv (iC 3))]) .ret) .skip)) (.seq (.reg [qo 42 (.fa 1 3),qo 43 (.load 42 1 false),qo 44 (.call 44 159 [43]),qo 2 (.mv 44)]) .ret)) (.seq (.reg [qo 46 (.bin .eql .num 7 (iC 9)),qo 45 (.mv 46)]) (.cond 45 (.seq (.seq (.reg [qo 47 (.fa 1 3),qo 48 (.load 47 1 false),qo 49 (.len false 48),
 qo 50 (.bin .neq .num 49 (iC 2))]) (.cond 50 (.seq (.reg [qo 2 (.mv (iC 3))]) .ret) .skip)) (.seq (.reg [qo 51 (.fa 1 3),qo 52 (.load 51 1 false),qo 53 (.len false 52),qo 54 (.mv (iC 0))]) (.block 1 (.loop (.keep [52, 53, 54] [] (.aft (.seq (.reg [qo 55 (.bin .lss .num 54 53)]) (.seq (.cond 55 .skip (.exit 1)) (.seq (.block 2 (.seq (.reg [qo 56 (.idxA 52 54 1),qo 57 (.load 56 1 false),
 qo 4 (.mv 57)]) (.seq (.reg [qo 58 (.mv 4),qo 59 (.call 59 160 [58]),qo 5 (.mv 59)]) (.seq (.reg [qo 60 (.mv 5),qo 61 (.bin .neq .num 60 (iC 0))]) (.cond 61 (.seq (.reg [qo 62 (.mv 5),qo 2 (.mv 62)]) .ret) .skip))))) (.reg [qo 63 (.bin .add .num 54 (iC 1)),qo 54 (.mv 63)])))) [.keep [52, 53, 54] []])))))) (.seq (.reg [qo 65 (.bin .eql .num 7 (iC 11)),qo 64 (.mv 65)]) (.cond 64 (.seq
 (.reg [qo 66 (.fa 1 12),qo 67 (.load 66 1 false),qo 68 (.call 68 161 [67]),qo 2 (.mv 68)]) .ret) (.seq (.reg [qo 70 (.bin .eql .num 7 (iC 12)),qo 69 (.mv 70)]) (.cond 69 (.seq (.reg [qo 71 (.fa 1 5),qo 72 (.load 71 1 false),qo 73 (.bin .lss .num 72 (iC 0)),qo 74 (.mv 73),qf 74 75 (.fa 1 6),qf 74 76 (.load 75 1 false),qf 74 77 (.fa 1 5),qf 74 78 (.load 77 1 false),
 qf 74 79 (.bin .lss .num 76 78),qo 80 (.pick 74 bT 79),qo 81 (.mv 80),qf 81 82 (.fa 1 6),qf 81 83 (.load 82 1 false),qf 81 84 (.bin .gtr .num 83 (iC 999999999)),qo 85 (.pick 81 bT 84)]) (.cond 85 (.seq (.reg [qo 2 (.mv (iC 11))]) .ret) .skip)) .skip)))))))))))))))) (.seq (.reg [qo 2 (.mv (iC 0))]) .ret)))⟩
theorem w145_special {O : Oracle TT} (fuel : Nat) (h160_Check : C160_Check O (f160_Check fuel)) (h161_pairs : C161_pairs O (f161_pairs fuel)) (h158_Plain : C158_Plain O f158_Plain) (h159_names : C159_names O f159_names) : C145_special (fun _ => vcF (S := SS) O j145_special) (f145_special fuel) := by
 intro op1 nm2 to3 ns4 n5 lo6 hi7 sep8 k9 n10 s11 f12 prs13 ks14 Q R hQ h
 unfold f145_special at h
 refine ⟨nle rfl, rfl, ?_⟩
 obtain ⟨R54, h, hlR54, hrR54⟩ := sat_sbind h
 refine kX (fun σ => R54 (.inr ()) ∧ σ = ⟨[], []⟩) ?_ ?_
 refine kc h (fun h => ?_) fun h => ?_
 refine kc h (fun h => ?_) fun h => ?_
 refine kc h (fun h => ?_) fun h => ?_
 refine kc h (fun h => ?_) fun h => ?_
 refine kc h (fun h => ?_) fun h => ?_
 refine kc h (fun h => ?_) fun h => ?_
 refine kc h (fun h => ?_) fun h => ?_
 conv => whnf
 exact ⟨sat_some h, rfl⟩
 refine kc h (fun h => ?_) fun h => ?_
 refine kc h (fun h => ?_) fun h => ?_
 refine kc h (fun h => ?_) fun h => ?_
 conv => whnf
 exact ⟨sat_some h, rfl⟩
 replace h := sat_lft hlR54 h
 exact kR [] (ND 0) (hQ _ (sat_some h))
 replace h := sat_lft hlR54 h
 exact kR [] (ND 0) (hQ _ (sat_some h))
 replace h := sat_lft hlR54 h
 exact kR [] (ND 0) (hQ _ (sat_some h))
 refine kL [] (h161_pairs _ _ _ ?_ (sat_bind h))
 rintro v65 h
 replace h := sat_lft hlR54 h
 exact kR [] (ND 0) (hQ _ (sat_some h))
 intro hl66
 refine kc h (fun h => ?_) fun h => ?_
 intro hl68
 refine kX (fun σ n => ∃ (rem78 : LB) (j77 : Nat) (z : Int), n = rem78.length ∧ ns4.drop j77 = rem78 ∧ z = ((j77 : Nat) : Int) ∧ sat (f145_special_L2 fuel rem78 j77) R54 ∧ σ.keep [52, 53, 54] [] = ⟨[(52, .c (.isl .str ns4)), (53, iD ((ns4.length : Nat) : Int)), (54, iD z)], []⟩) ⟨_, ns4, 0, _, rfl, rfl, rfl, h, rfl⟩ ?_
 rintro σ n ⟨rem78, j77, _, rfl, hrem78, rfl, h, hσ⟩
 refine kk hσ ?_
 intro t81 (ht81 : t81 = decide (((j77 : Nat) : Int) < ((ns4.length : Nat) : Int)))
 cases t81
 obtain rfl := ll_nil hrem78 ht81
 rw [f145_special_L2] at h
 conv => whnf
 exact ⟨sat_some h, rfl⟩
 obtain ⟨w82, tl79, rfl, hx80, htl79⟩ := ll_cons hrem78 ht81
 rw [f145_special_L2] at h
 conv => whnf
 refine ⟨lx_bd hx80, fun uu83 huu83 => ?_⟩
 obtain rfl := lx_eq hx80 huu83
 refine kL [] (h160_Check _ _ _ ?_ (sat_bind h))
 rintro v84 h
 refine kc h (fun h => ?_) fun h => ?_
 conv => whnf
 exact ⟨tl79.length, nls, tl79, j77 + 1, _, rfl, htl79, lx_wr hx80 hl68, h, rfl⟩
 replace h := sat_lft hlR54 h
 exact kR [] (ND 0) (hQ _ (sat_some h))
 replace h := sat_lft hlR54 h
 exact kR [] (ND 0) (hQ _ (sat_some h))
 intro hl86
 intro hl87
 refine kc h (fun h => ?_) fun h => ?_
 refine kL [] (h159_names _ _ _ ?_ (sat_bind h))
 rintro v89 h
 replace h := sat_lft hlR54 h
 exact kR [] (ND 0) (hQ _ (sat_some h))
 replace h := sat_lft hlR54 h
 exact kR [] (ND 0) (hQ _ (sat_some h))
 refine kL [] (h159_names _ _ _ ?_ (sat_bind h))
 rintro v90 h
 replace h := sat_lft hlR54 h
 exact kR [] (ND 0) (hQ _ (sat_some h))
 refine kL [] (h158_Plain _ _ _ ?_ (sat_bind h))
 rintro q91 h
 cases q91
 replace h := sat_cf h
 replace h := sat_lft hlR54 h
 exact kR [] (ND 0) (hQ _ (sat_some h))
 replace h := sat_ct h
 conv => whnf
 exact ⟨sat_some h, rfl⟩
 refine kc h (fun h => ?_) fun h => ?_
 conv => whnf
 exact ⟨sat_some h, rfl⟩
 refine kL [] (h158_Plain _ _ _ ?_ (sat_bind h))
 rintro q93 h
 cases q93
 replace h := sat_cf h
 replace h := sat_lft hlR54 h
 exact kR [] (ND 0) (hQ _ (sat_some h))
 replace h := sat_ct h
 conv => whnf
 exact ⟨sat_some h, rfl⟩
 rintro _ ⟨h, rfl⟩
 replace h := hrR54 _ h
 exact kR [] (ND 0) (hQ _ (sat_some h))
theorem c145_special {P : Program} {fid : Nat → FuncId} (mx : MX P) (k145_special : KF P fid 145 j145_special) (h160_Check : ∀ n, C160_Check (SP P fid) (f160_Check n)) (h161_pairs : ∀ n, C161_pairs (SP P fid) (f161_pairs n)) (h158_Plain : C158_Plain (SP P fid) f158_Plain) (h159_names : C159_names (SP P fid) f159_names) : ∀ n, C145_special (SP P fid) (f145_special n) :=
 fun n => fun a0 a1 a2 a3 a4 a5 a6 a7 a8 a9 a10 a11 a12 a13 Q R hQ h => spec_of_vc mx k145_special (w145_special n (h160_Check n) (h161_pairs n) h158_Plain h159_names a0 a1 a2 a3 a4 a5 a6 a7 a8 a9 a10 a11 a12 a13 Q R hQ h)
def f116_Node (fuel : Nat) : Ln → Option (Int)
 | .mk op1 nm2 to3 ns4 n5 lo6 hi7 sep8 (.mk k9 n10 s11 f12) prs13 ks14 => sbind (ο := Unit) (cond (decide (op1 < 0)) (lft (some 1)) (cond (decide (op1 ≥ 19)) (lft (some 1)) (some (.inr ())))) (fun () => (f144_table op1).bind fun (q20, q21, q22, q23, q24, q25, q26, q27, v28) => sbind (ο := Bool × Bool × Bool × Bool × Bool × Bool × Bool × Bool) (sbind (ο := Bool × Bool) (cond (!(nm2.toList == (⟨#[]⟩ : BA).toList)) (cond q20 (some (.inr (false, true))) (some (.inr (true, false)))) (some (.inr (false, q20)))) (fun (q81, q82) => sbind (ο := Bool × Bool) (cond q81 (some (.inr (true, q21))) (cond (!(to3.toList == (⟨#[]⟩ : BA).toList)) (cond q21 (some (.inr (false, true))) (some (.inr (true, false)))) (some (.inr (false, q21))))) (fun (q86, q87) => sbind (ο := Bool × Bool) (cond q86 (some (.inr (true, q22))) (cond (decide (((ns4.length : Nat) : Int) > 0)) (cond q22 (some (.inr (false, true))) (some (.inr (true, false)))) (some (.inr (false, q22))))) (fun (q92, q93) => sbind (ο := Bool × Bool) (cond q92 (some (.inr (true, q23))) (cond (n5 != 0) (cond q23 (some (.inr (false, true))) (some (.inr (true, false)))) (some (.inr (false, q23))))) (fun (q98, q99) => sbind (ο := Bool × Bool) (cond q98 (some (.inr (true, q24))) (cond (lo6 != 0) (cond q24 (some (.inr (false, true))) (some (.inr (true, false)))) (cond (hi7 != 0) (cond q24 (some (.inr (false, true))) (some (.inr (true, false)))) (some (.inr (false, q24)))))) (fun (q104, q105) => sbind (ο := Bool × Bool) (cond q104 (some (.inr (true, q25))) (cond (sep8 != 0) (cond q25 (some (.inr (false, true))) (some (.inr (true, false)))) (some (.inr (false, q25))))) (fun (q110, q111) => sbind (ο := Bool × Bool) (cond q110 (some (.inr (true, q27))) (cond (decide (((prs13.length : Nat) : Int) > 0)) (cond q27 (some (.inr (false, true))) (some (.inr (true, false)))) (some (.inr (false, q27))))) (fun (q116, q117) => cond q116 (lft (some 3)) (cond q26 (some (.inr (q82, q87, q93, q99, q105, q111, true, q117))) ((f11_Same fuel (V.mk k9 n10 s11 f12) (V.mk 0 0 (⟨#[]⟩ : BA) [])).bind fun q121 => cond q121 (some (.inr (q82, q87, q93, q99, q105, q111, false, q117))) (lft (some 3)))))))))))) (fun (q71, q72, q73, q74, q75, q76, q77, q78) => sbind (ο := Unit) (cond (decide (v28 ≥ 0)) (cond (((ks14.length : Nat) : Int) != v28) (lft (some 3)) (cond (decide (v28 < 0)) (cond (((ks14.length : Nat) : Int) == 0) (lft (some 3)) (some (.inr ()))) (some (.inr ())))) (cond (decide (v28 < 0)) (cond (((ks14.length : Nat) : Int) == 0) (lft (some 3)) (some (.inr ()))) (some (.inr ())))) (fun () => sbind (ο := Bool × Bool) (cond q71 ((f132_Name nm2).bind fun q151 => cond q151 (cond q72 ((f132_Name to3).bind fun q155 => cond q155 (some (.inr (true, true))) (lft (some 15))) (some (.inr (true, false)))) (cond (op1 == 13) (cond (nm2.toList == (⟨#[]⟩ : BA).toList) (cond q72 ((f132_Name to3).bind fun q154 => cond q154 (some (.inr (true, true))) (lft (some 15))) (some (.inr (true, false)))) (lft (some 15))) (lft (some 15)))) (cond q72 ((f132_Name to3).bind fun q150 => cond q150 (some (.inr (false, true))) (lft (some 15))) (some (.inr (false, false))))) (fun (q147, q148) => cond q77 ((f51_Check fuel (V.mk k9 n10 s11 f12)).bind fun v157 => cond (v157 != 0) (some v157) ((f145_special fuel (Ln.mk op1 nm2 to3 ns4 n5 lo6 hi7 sep8 (V.mk k9 n10 s11 f12) prs13 ks14)).bind fun v159 => some v159)) ((f145_special fuel (Ln.mk op1 nm2 to3 ns4 n5 lo6 hi7 sep8 (V.mk k9 n10 s11 f12) prs13 ks14)).bind fun v156 => some v156)))))
def C116_Node (O : Oracle TT) (m : Ln → Option (Int)) : Prop :=
 ∀ (op1 : Int) (nm2 : BA) (to3 : BA) (ns4 : LB) (n5 : Int) (lo6 : Int) (hi7 : Int) (sep8 : Int) (k9 : Int) (n10 : Int) (s11 : BA) (f12 : FV) (prs13 : LW) (ks14 : List Ln) (Q : Int → Prop) (R : RR) (_ : ∀ (v160 : Int), Q v160 → R (iD v160) []) (_ : sat (m (Ln.mk op1 nm2 to3 ns4 n5 lo6 hi7 sep8 (V.mk k9 n10 s11 f12) prs13 ks14)) Q), O 116 [.agg [ci op1, .str nm2, .str to3, .isl .str ns4, ci n5, ci lo6, ci hi7, .int .u8 sep8, ci k9, ci n10, .str s11, .isl .fld f12, .isl .two prs13, .isl .lens ks14]] [] R
def j116_Node : Fn TT := ⟨164, [.t 2], (.seq (.reg [qo 1 (.box 1 0),qo 2 (.mv (iC 0))]) (.cut [1] [(.s 1)] (.seq (.reg [qo 5 (.fa 1 0),qo 6 (.load 5 1 false),qo 7 (.bin .lss .num 6 (iC 0)),qo 8 (.mv 7),qf 8 9 (.fa 1 0),qf 8 10 (.load 9 1 false),qf 8 11 (.bin .geq .num 10 (iC 19)),qo 12 (.pick 8 bT 11)]) (.cond 12 (.seq (.reg [qo 2 (.mv (iC 1))]) .ret) .skip)) (.seq (.reg [qo 13 (.fa 1 0),
 qo 14 (.load 13 1 false),qo 15 (.call 15 144 [14]),qo 3 (.alloc 3 [.bool false, .bool false, .bool false, .bool false, .bool false, .bool false, .bool false, .bool false, .int .i64 0]),qp (.store 3 15 9)]) (.cut [1, 3] [(.s 1), (.s 3)] (.seq (.regc [([qo 16 (.fa 1 1),qo 17 (.load 16 1 false),qo 18 (.bin .neq .str 17 sE),qo 19 (.mv 18),qg 19 20 (.fa 3 0),qg 19 21 (.load 20 1 false),
 qg 19 22 (.un .not 21),qo 23 (.pick 19 22 bF)], [1, 3, 23], [(.s 1), (.s 3)]), ([qo 24 (.mv 23),qf 24 25 (.fa 1 2),qf 24 26 (.load 25 1 false),qf 24 27 (.bin .neq .str 26 sE),qf 24 28 (.mv 27),qg 28 29 (.fa 3 1),qg 28 30 (.load 29 1 false),qg 28 31 (.un .not 30),qf 24 32 (.pick 28 31 bF),qo 33 (.pick 24 bT 32)], [1, 3, 33], [(.s 1), (.s 3)]), ([qo 34 (.mv 33),qf 34 35 (.fa 1 3),
 qf 34 36 (.load 35 1 false),qf 34 37 (.len false 36),qf 34 38 (.bin .gtr .num 37 (iC 0)),qf 34 39 (.mv 38),qg 39 40 (.fa 3 2),qg 39 41 (.load 40 1 false),qg 39 42 (.un .not 41),qf 34 43 (.pick 39 42 bF),qo 44 (.pick 34 bT 43)], [1, 3, 44], [(.s 1), (.s 3)]), ([qo 45 (.mv 44),qf 45 46 (.fa 1 4),qf 45 47 (.load 46 1 false),qf 45 48 (.bin .neq .num 47 (iC 0)),qf 45 49 (.mv 48),
 qg 49 50 (.fa 3 3),qg 49 51 (.load 50 1 false),qg 49 52 (.un .not 51),qf 45 53 (.pick 49 52 bF),qo 54 (.pick 45 bT 53)], [1, 3, 54], [(.s 1), (.s 3)]), ([qo 55 (.mv 54),qf 55 56 (.fa 1 5),qf 55 57 (.load 56 1 false),qf 55 58 (.bin .neq .num 57 (iC 0)),qf 55 59 (.mv 58),qf 59 60 (.fa 1 6),qf 59 61 (.load 60 1 false),qf 59 62 (.bin .neq .num 61 (iC 0)),qf 55 63 (.pick 59 bT 62),
 qf 55 64 (.mv 63),qg 64 65 (.fa 3 4),qg 64 66 (.load 65 1 false),qg 64 67 (.un .not 66),qf 55 68 (.pick 64 67 bF),qo 69 (.pick 55 bT 68)], [1, 3, 69], [(.s 1), (.s 3)]), ([qo 70 (.mv 69),qf 70 71 (.fa 1 7),qf 70 72 (.load 71 1 false),qf 70 73 (.bin .neq .num 72 (.c (.int .u8 0))),qf 70 74 (.mv 73),qg 74 75 (.fa 3 5),qg 74 76 (.load 75 1 false),qg 74 77 (.un .not 76),
 qf 70 78 (.pick 74 77 bF),qo 79 (.pick 70 bT 78)], [1, 3, 79], [(.s 1), (.s 3)]), ([qo 80 (.mv 79),qf 80 81 (.fa 1 12),qf 80 82 (.load 81 1 false),qf 80 83 (.len false 82),qf 80 84 (.bin .gtr .num 83 (iC 0)),qf 80 85 (.mv 84),qg 85 86 (.fa 3 7),qg 85 87 (.load 86 1 false),qg 85 88 (.un .not 87),qf 80 89 (.pick 85 88 bF),qo 90 (.pick 80 bT 89)], [1, 3, 90], [(.s 1), (.s 3)])]
 [qo 91 (.mv 90),qf 91 92 (.fa 3 6),qf 91 93 (.load 92 1 false),qf 91 94 (.un .not 93),qf 91 95 (.mv 94),qg 95 96 (.fa 1 8),qg 95 97 (.load 96 4 true),qg 95 98 (.build zV []),qg 95 99 (.call 99 11 [97, 98]),qg 95 100 (.un .not 99),qf 91 101 (.pick 95 100 bF),qo 102 (.pick 91 bT 101)]) (.cond 102 (.seq (.reg [qo 2 (.mv (iC 3))]) .ret) .skip)) (.cut [1, 3] [(.s 1), (.s 3)] (.seq
 (.reg [qo 103 (.fa 3 8),qo 104 (.load 103 1 false),qo 105 (.bin .geq .num 104 (iC 0)),qo 106 (.mv 105),qg 106 107 (.fa 1 13),qg 106 108 (.load 107 1 false),qg 106 109 (.len false 108),qg 106 110 (.fa 3 8),qg 106 111 (.load 110 1 false),qg 106 112 (.bin .neq .num 109 111),qo 113 (.pick 106 112 bF),qo 114 (.mv 113),qf 114 115 (.fa 3 8),qf 114 116 (.load 115 1 false),
 qf 114 117 (.bin .lss .num 116 (iC 0)),qf 114 118 (.mv 117),qg 118 119 (.fa 1 13),qg 118 120 (.load 119 1 false),qg 118 121 (.len false 120),qg 118 122 (.bin .eql .num 121 (iC 0)),qf 114 123 (.pick 118 122 bF),qo 124 (.pick 114 bT 123)]) (.cond 124 (.seq (.reg [qo 2 (.mv (iC 3))]) .ret) .skip)) (.cut [1, 3] [(.s 1), (.s 3)] (.seq (.reg [qo 125 (.fa 3 0),qo 126 (.load 125 1 false),
 qo 127 (.mv 126),qg 127 128 (.fa 1 1),qg 127 129 (.load 128 1 false),qg 127 130 (.call 130 132 [129]),qg 127 131 (.un .not 130),qo 132 (.pick 127 131 bF),qo 133 (.mv 132),qg 133 134 (.fa 1 0),qg 133 135 (.load 134 1 false),qg 133 136 (.bin .eql .num 135 (iC 13)),qg 133 137 (.mv 136),qg 137 138 (.fa 1 1),qg 137 139 (.load 138 1 false),qg 137 140 (.bin .eql .str 139 sE),
 qg 133 141 (.pick 137 140 bF),qg 133 142 (.un .not 141),qo 143 (.pick 133 142 bF),qo 144 (.mv 143),qf 144 145 (.fa 3 1),qf 144 146 (.load 145 1 false),qf 144 147 (.mv 146),qg 147 148 (.fa 1 2),qg 147 149 (.load 148 1 false),qg 147 150 (.call 150 132 [149]),qg 147 151 (.un .not 150),qf 144 152 (.pick 147 151 bF),qo 153 (.pick 144 bT 152)]) (.cond 153 (.seq (.reg [qo 2 (.mv (iC 15))])
 .ret) .skip)) (.seq (.seq (.reg [qo 154 (.fa 3 6),qo 155 (.load 154 1 false)]) (.cond 155 (.seq (.reg [qo 156 (.fa 1 8),qo 157 (.load 156 4 true),qo 158 (.call 158 51 [157]),qo 4 (.mv 158)]) (.seq (.reg [qo 159 (.mv 4),qo 160 (.bin .neq .num 159 (iC 0))]) (.cond 160 (.seq (.reg [qo 161 (.mv 4),qo 2 (.mv 161)]) .ret) .skip))) .skip)) (.seq (.reg [qo 162 (.load 1 14 true),
 qo 163 (.call 163 145 [162]),qo 2 (.mv 163)]) .ret))))))))⟩
theorem w116_Node {O : Oracle TT} (fuel : Nat) (h11_Same : C11_Same O (f11_Same fuel)) (h51_Check : C51_Check O (f51_Check fuel)) (h132_Name : C132_Name O f132_Name) (h144_table : C144_table O f144_table) (h145_special : C145_special O (f145_special fuel)) : C116_Node (fun _ => vcF (S := SS) O j116_Node) (f116_Node fuel) := by
 intro op1 nm2 to3 ns4 n5 lo6 hi7 sep8 k9 n10 s11 f12 prs13 ks14 Q R hQ h
 unfold f116_Node at h
 refine ⟨nle rfl, rfl, ?_⟩
 obtain ⟨R17, h, hlR17, hrR17⟩ := sat_sbind h
 refine kX (fun σ => R17 (.inr ()) ∧ σ = ⟨[(1, pS 1)], [(.s 1, some (.var [ci op1, .str nm2, .str to3, .isl .str ns4, ci n5, ci lo6, ci hi7, .int .u8 sep8, ci k9, ci n10, .str s11, .isl .fld f12, .isl .two prs13, .isl .lens ks14]))]⟩) ?_ ?_
 refine kc h (fun h => ?_) fun h => ?_
 refine kc h (fun h => ?_) fun h => ?_
 conv => whnf
 exact ⟨sat_some h, rfl⟩
 replace h := sat_lft hlR17 h
 exact kR [] (ND 0) (hQ _ (sat_some h))
 replace h := sat_lft hlR17 h
 exact kR [] (ND 0) (hQ _ (sat_some h))
 rintro _ ⟨h, rfl⟩
 replace h := hrR17 _ h
 refine kL [] (h144_table _ _ _ ?_ (sat_bind h))
 rintro q20 q21 q22 q23 q24 q25 q26 q27 v28 h
 obtain ⟨R79, h, hlR79, hrR79⟩ := sat_sbind h
 refine kX (fun σ => ∃ (q71 : Bool) (q72 : Bool) (q73 : Bool) (q74 : Bool) (q75 : Bool) (q76 : Bool) (q77 : Bool) (q78 : Bool), R79 (.inr (q71, q72, q73, q74, q75, q76, q77, q78)) ∧ σ = ⟨[(1, pS 1), (3, pS 3)], [(.s 1, some (.var [ci op1, .str nm2, .str to3, .isl .str ns4, ci n5, ci lo6, ci hi7, .int .u8 sep8, ci k9, ci n10, .str s11, .isl .fld f12, .isl .two prs13, .isl .lens ks14])), (.s 3, some (.var [.bool q71, .bool q72, .bool q73, .bool q74, .bool q75, .bool q76, .bool q77, .bool q78, ci v28]))]⟩) ?_ ?_
 obtain ⟨R83, h, hlR83, hrR83⟩ := sat_sbind h
 refine kX (fun σ => ∃ (q81 : Bool) (q82 : Bool), R83 (.inr (q81, q82)) ∧ σ = ⟨[(1, pS 1), (3, pS 3), (23, bD q81)], [(.s 1, some (.var [ci op1, .str nm2, .str to3, .isl .str ns4, ci n5, ci lo6, ci hi7, .int .u8 sep8, ci k9, ci n10, .str s11, .isl .fld f12, .isl .two prs13, .isl .lens ks14])), (.s 3, some (.var [.bool q82, .bool q21, .bool q22, .bool q23, .bool q24, .bool q25, .bool q26, .bool q27, ci v28]))]⟩) ?_ ?_
 refine kc h (fun h => ?_) fun h => ?_
 conv => whnf
 exact ⟨false, q20, sat_some h, rfl⟩
 cases q20
 replace h := sat_cf h
 conv => whnf
 exact ⟨true, false, sat_some h, rfl⟩
 replace h := sat_ct h
 conv => whnf
 exact ⟨false, true, sat_some h, rfl⟩
 rintro _ ⟨q81, q82, h, rfl⟩
 replace h := hrR83 _ h
 obtain ⟨R88, h, hlR88, hrR88⟩ := sat_sbind h
 refine kX (fun σ => ∃ (q86 : Bool) (q87 : Bool), R88 (.inr (q86, q87)) ∧ σ = ⟨[(1, pS 1), (3, pS 3), (33, bD q86)], [(.s 1, some (.var [ci op1, .str nm2, .str to3, .isl .str ns4, ci n5, ci lo6, ci hi7, .int .u8 sep8, ci k9, ci n10, .str s11, .isl .fld f12, .isl .two prs13, .isl .lens ks14])), (.s 3, some (.var [.bool q82, .bool q87, .bool q22, .bool q23, .bool q24, .bool q25, .bool q26, .bool q27, ci v28]))]⟩) ?_ ?_
 cases q81
 replace h := sat_cf h
 refine kc h (fun h => ?_) fun h => ?_
 conv => whnf
 exact ⟨false, q21, sat_some h, rfl⟩
 cases q21
 replace h := sat_cf h
 conv => whnf
 exact ⟨true, false, sat_some h, rfl⟩
 replace h := sat_ct h
 conv => whnf
 exact ⟨false, true, sat_some h, rfl⟩
 replace h := sat_ct h
 conv => whnf
 exact ⟨true, q21, sat_some h, rfl⟩
 rintro _ ⟨q86, q87, h, rfl⟩
 replace h := hrR88 _ h
 obtain ⟨R94, h, hlR94, hrR94⟩ := sat_sbind h
 refine kX (fun σ => ∃ (q92 : Bool) (q93 : Bool), R94 (.inr (q92, q93)) ∧ σ = ⟨[(1, pS 1), (3, pS 3), (44, bD q92)], [(.s 1, some (.var [ci op1, .str nm2, .str to3, .isl .str ns4, ci n5, ci lo6, ci hi7, .int .u8 sep8, ci k9, ci n10, .str s11, .isl .fld f12, .isl .two prs13, .isl .lens ks14])), (.s 3, some (.var [.bool q82, .bool q87, .bool q93, .bool q23, .bool q24, .bool q25, .bool q26, .bool q27, ci v28]))]⟩) ?_ ?_
 cases q86
 replace h := sat_cf h
 intro hl95
 refine kc h (fun h => ?_) fun h => ?_
 conv => whnf
 exact ⟨false, q22, sat_some h, rfl⟩
 cases q22
 replace h := sat_cf h
 conv => whnf
 exact ⟨true, false, sat_some h, rfl⟩
 replace h := sat_ct h
 conv => whnf
 exact ⟨false, true, sat_some h, rfl⟩
 replace h := sat_ct h
 conv => whnf
 exact ⟨true, q22, sat_some h, rfl⟩
 rintro _ ⟨q92, q93, h, rfl⟩
 replace h := hrR94 _ h
 obtain ⟨R100, h, hlR100, hrR100⟩ := sat_sbind h
 refine kX (fun σ => ∃ (q98 : Bool) (q99 : Bool), R100 (.inr (q98, q99)) ∧ σ = ⟨[(1, pS 1), (3, pS 3), (54, bD q98)], [(.s 1, some (.var [ci op1, .str nm2, .str to3, .isl .str ns4, ci n5, ci lo6, ci hi7, .int .u8 sep8, ci k9, ci n10, .str s11, .isl .fld f12, .isl .two prs13, .isl .lens ks14])), (.s 3, some (.var [.bool q82, .bool q87, .bool q93, .bool q99, .bool q24, .bool q25, .bool q26, .bool q27, ci v28]))]⟩) ?_ ?_
 cases q92
 replace h := sat_cf h
 refine kc h (fun h => ?_) fun h => ?_
 conv => whnf
 exact ⟨false, q23, sat_some h, rfl⟩
 cases q23
 replace h := sat_cf h
 conv => whnf
 exact ⟨true, false, sat_some h, rfl⟩
 replace h := sat_ct h
 conv => whnf
 exact ⟨false, true, sat_some h, rfl⟩
 replace h := sat_ct h
 conv => whnf
 exact ⟨true, q23, sat_some h, rfl⟩
 rintro _ ⟨q98, q99, h, rfl⟩
 replace h := hrR100 _ h
 obtain ⟨R106, h, hlR106, hrR106⟩ := sat_sbind h
 refine kX (fun σ => ∃ (q104 : Bool) (q105 : Bool), R106 (.inr (q104, q105)) ∧ σ = ⟨[(1, pS 1), (3, pS 3), (69, bD q104)], [(.s 1, some (.var [ci op1, .str nm2, .str to3, .isl .str ns4, ci n5, ci lo6, ci hi7, .int .u8 sep8, ci k9, ci n10, .str s11, .isl .fld f12, .isl .two prs13, .isl .lens ks14])), (.s 3, some (.var [.bool q82, .bool q87, .bool q93, .bool q99, .bool q105, .bool q25, .bool q26, .bool q27, ci v28]))]⟩) ?_ ?_
 cases q98
 replace h := sat_cf h
 refine kc h (fun h => ?_) fun h => ?_
 refine kc h (fun h => ?_) fun h => ?_
 conv => whnf
 exact ⟨false, q24, sat_some h, rfl⟩
 cases q24
 replace h := sat_cf h
 conv => whnf
 exact ⟨true, false, sat_some h, rfl⟩
 replace h := sat_ct h
 conv => whnf
 exact ⟨false, true, sat_some h, rfl⟩
 cases q24
 replace h := sat_cf h
 conv => whnf
 exact ⟨true, false, sat_some h, rfl⟩
 replace h := sat_ct h
 conv => whnf
 exact ⟨false, true, sat_some h, rfl⟩
 replace h := sat_ct h
 conv => whnf
 exact ⟨true, q24, sat_some h, rfl⟩
 rintro _ ⟨q104, q105, h, rfl⟩
 replace h := hrR106 _ h
 obtain ⟨R112, h, hlR112, hrR112⟩ := sat_sbind h
 refine kX (fun σ => ∃ (q110 : Bool) (q111 : Bool), R112 (.inr (q110, q111)) ∧ σ = ⟨[(1, pS 1), (3, pS 3), (79, bD q110)], [(.s 1, some (.var [ci op1, .str nm2, .str to3, .isl .str ns4, ci n5, ci lo6, ci hi7, .int .u8 sep8, ci k9, ci n10, .str s11, .isl .fld f12, .isl .two prs13, .isl .lens ks14])), (.s 3, some (.var [.bool q82, .bool q87, .bool q93, .bool q99, .bool q105, .bool q111, .bool q26, .bool q27, ci v28]))]⟩) ?_ ?_
 cases q104
 replace h := sat_cf h
 refine kc h (fun h => ?_) fun h => ?_
 conv => whnf
 exact ⟨false, q25, sat_some h, rfl⟩
 cases q25
 replace h := sat_cf h
 conv => whnf
 exact ⟨true, false, sat_some h, rfl⟩
 replace h := sat_ct h
 conv => whnf
 exact ⟨false, true, sat_some h, rfl⟩
 replace h := sat_ct h
 conv => whnf
 exact ⟨true, q25, sat_some h, rfl⟩
 rintro _ ⟨q110, q111, h, rfl⟩
 replace h := hrR112 _ h
 obtain ⟨R118, h, hlR118, hrR118⟩ := sat_sbind h
 refine kX (fun σ => ∃ (q116 : Bool) (q117 : Bool), R118 (.inr (q116, q117)) ∧ σ = ⟨[(1, pS 1), (3, pS 3), (90, bD q116)], [(.s 1, some (.var [ci op1, .str nm2, .str to3, .isl .str ns4, ci n5, ci lo6, ci hi7, .int .u8 sep8, ci k9, ci n10, .str s11, .isl .fld f12, .isl .two prs13, .isl .lens ks14])), (.s 3, some (.var [.bool q82, .bool q87, .bool q93, .bool q99, .bool q105, .bool q111, .bool q26, .bool q117, ci v28]))]⟩) ?_ ?_
 cases q110
 replace h := sat_cf h
 intro hl119
 refine kc h (fun h => ?_) fun h => ?_
 conv => whnf
 exact ⟨false, q27, sat_some h, rfl⟩
 cases q27
 replace h := sat_cf h
 conv => whnf
 exact ⟨true, false, sat_some h, rfl⟩
 replace h := sat_ct h
 conv => whnf
 exact ⟨false, true, sat_some h, rfl⟩
 replace h := sat_ct h
 conv => whnf
 exact ⟨true, q27, sat_some h, rfl⟩
 rintro _ ⟨q116, q117, h, rfl⟩
 replace h := hrR118 _ h
 cases q116
 replace h := sat_cf h
 cases q26
 replace h := sat_cf h
 refine kL [] (h11_Same _ _ _ _ _ _ _ _ _ _ ?_ (sat_bind h))
 rintro q121 h
 cases q121
 replace h := sat_cf h
 replace h := sat_lft hlR79 h
 exact kR [] (ND 0) (hQ _ (sat_some h))
 replace h := sat_ct h
 conv => whnf
 exact ⟨q82, q87, q93, q99, q105, q111, false, q117, sat_some h, rfl⟩
 replace h := sat_ct h
 conv => whnf
 exact ⟨q82, q87, q93, q99, q105, q111, true, q117, sat_some h, rfl⟩
 replace h := sat_ct h
 replace h := sat_lft hlR79 h
 exact kR [] (ND 0) (hQ _ (sat_some h))
 rintro _ ⟨q71, q72, q73, q74, q75, q76, q77, q78, h, rfl⟩
 replace h := hrR79 _ h
 obtain ⟨R131, h, hlR131, hrR131⟩ := sat_sbind h
 refine kX (fun σ => R131 (.inr ()) ∧ σ = ⟨[(1, pS 1), (3, pS 3)], [(.s 1, some (.var [ci op1, .str nm2, .str to3, .isl .str ns4, ci n5, ci lo6, ci hi7, .int .u8 sep8, ci k9, ci n10, .str s11, .isl .fld f12, .isl .two prs13, .isl .lens ks14])), (.s 3, some (.var [.bool q71, .bool q72, .bool q73, .bool q74, .bool q75, .bool q76, .bool q77, .bool q78, ci v28]))]⟩) ?_ ?_
 refine kc h (fun h => ?_) fun h => ?_
 refine kc h (fun h => ?_) fun h => ?_
 conv => whnf
 exact ⟨sat_some h, rfl⟩
 intro hl134
 refine kc h (fun h => ?_) fun h => ?_
 conv => whnf
 exact ⟨sat_some h, rfl⟩
 replace h := sat_lft hlR131 h
 exact kR [] (ND 0) (hQ _ (sat_some h))
 intro hl136
 refine kc h (fun h => ?_) fun h => ?_
 refine kc h (fun h => ?_) fun h => ?_
 conv => whnf
 exact ⟨sat_some h, rfl⟩
 intro hl139
 refine kc h (fun h => ?_) fun h => ?_
 conv => whnf
 exact ⟨sat_some h, rfl⟩
 replace h := sat_lft hlR131 h
 exact kR [] (ND 0) (hQ _ (sat_some h))
 replace h := sat_lft hlR131 h
 exact kR [] (ND 0) (hQ _ (sat_some h))
 rintro _ ⟨h, rfl⟩
 replace h := hrR131 _ h
 obtain ⟨R149, h, hlR149, hrR149⟩ := sat_sbind h
 refine kX (fun σ => ∃ (q147 : Bool) (q148 : Bool), R149 (.inr (q147, q148)) ∧ σ = ⟨[(1, pS 1), (3, pS 3)], [(.s 1, some (.var [ci op1, .str nm2, .str to3, .isl .str ns4, ci n5, ci lo6, ci hi7, .int .u8 sep8, ci k9, ci n10, .str s11, .isl .fld f12, .isl .two prs13, .isl .lens ks14])), (.s 3, some (.var [.bool q147, .bool q148, .bool q73, .bool q74, .bool q75, .bool q76, .bool q77, .bool q78, ci v28]))]⟩) ?_ ?_
 cases q71
 replace h := sat_cf h
 cases q72
 replace h := sat_cf h
 conv => whnf
 exact ⟨false, false, sat_some h, rfl⟩
 replace h := sat_ct h
 refine kL [] (h132_Name _ _ _ ?_ (sat_bind h))
 rintro q150 h
 cases q150
 replace h := sat_cf h
 replace h := sat_lft hlR149 h
 exact kR [] (ND 0) (hQ _ (sat_some h))
 replace h := sat_ct h
 conv => whnf
 exact ⟨false, true, sat_some h, rfl⟩
 replace h := sat_ct h
 refine kL [] (h132_Name _ _ _ ?_ (sat_bind h))
 rintro q151 h
 cases q151
 replace h := sat_cf h
 refine kc h (fun h => ?_) fun h => ?_
 replace h := sat_lft hlR149 h
 exact kR [] (ND 0) (hQ _ (sat_some h))
 refine kc h (fun h => ?_) fun h => ?_
 replace h := sat_lft hlR149 h
 exact kR [] (ND 0) (hQ _ (sat_some h))
 cases q72
 replace h := sat_cf h
 conv => whnf
 exact ⟨true, false, sat_some h, rfl⟩
 replace h := sat_ct h
 refine kL [] (h132_Name _ _ _ ?_ (sat_bind h))
 rintro q154 h
 cases q154
 replace h := sat_cf h
 replace h := sat_lft hlR149 h
 exact kR [] (ND 0) (hQ _ (sat_some h))
 replace h := sat_ct h
 conv => whnf
 exact ⟨true, true, sat_some h, rfl⟩
 replace h := sat_ct h
 cases q72
 replace h := sat_cf h
 conv => whnf
 exact ⟨true, false, sat_some h, rfl⟩
 replace h := sat_ct h
 refine kL [] (h132_Name _ _ _ ?_ (sat_bind h))
 rintro q155 h
 cases q155
 replace h := sat_cf h
 replace h := sat_lft hlR149 h
 exact kR [] (ND 0) (hQ _ (sat_some h))
 replace h := sat_ct h
 conv => whnf
 exact ⟨true, true, sat_some h, rfl⟩
 rintro _ ⟨q147, q148, h, rfl⟩
 replace h := hrR149 _ h
 cases q77
 replace h := sat_cf h
 refine kL [] (h145_special _ _ _ _ _ _ _ _ _ _ _ _ _ _ _ _ ?_ (sat_bind h))
 rintro v156 h
 exact kR [] (ND 0) (hQ _ (sat_some h))
 replace h := sat_ct h
 refine kL [] (h51_Check _ _ _ _ _ _ ?_ (sat_bind h))
 rintro v157 h
 refine kc h (fun h => ?_) fun h => ?_
 refine kL [] (h145_special _ _ _ _ _ _ _ _ _ _ _ _ _ _ _ _ ?_ (sat_bind h))
 rintro v159 h
 exact kR [] (ND 0) (hQ _ (sat_some h))
 exact kR [] (ND 0) (hQ _ (sat_some h))
theorem c116_Node {P : Program} {fid : Nat → FuncId} (mx : MX P) (k116_Node : KF P fid 116 j116_Node) (h11_Same : ∀ n, C11_Same (SP P fid) (f11_Same n)) (h51_Check : ∀ n, C51_Check (SP P fid) (f51_Check n)) (h132_Name : C132_Name (SP P fid) f132_Name) (h144_table : C144_table (SP P fid) f144_table) (h145_special : ∀ n, C145_special (SP P fid) (f145_special n)) : ∀ n, C116_Node (SP P fid) (f116_Node n) :=
 fun n => fun a0 a1 a2 a3 a4 a5 a6 a7 a8 a9 a10 a11 a12 a13 Q R hQ h => spec_of_vc mx k116_Node (w116_Node n (h11_Same n) (h51_Check n) h132_Name h144_table (h145_special n) a0 a1 a2 a3 a4 a5 a6 a7 a8 a9 a10 a11 a12 a13 Q R hQ h)
def f96_walk_L2 (self96_walk : Ln → Option (Int)) : List Ln → Nat → Option (Sum (Int) (Unit))
 | [], j84 => some (.inr ())
 | (.mk op89 nm90 to91 ns92 n93 lo94 hi95 sep96 (.mk k97 n98 s99 f100) prs101 ks102) :: tl86, j84 => (self96_walk (Ln.mk op89 nm90 to91 ns92 n93 lo94 hi95 sep96 (V.mk k97 n98 s99 f100) prs101 ks102)).bind fun v104 => cond (v104 != 0) (lft (some v104)) (f96_walk_L2 self96_walk tl86 (j84 + 1))
def b96_walk (fuel : Nat) (self96_walk : Ln → Option (Int)) : Ln → Option (Int)
 | .mk op1 nm2 to3 ns4 n5 lo6 hi7 sep8 (.mk k9 n10 s11 f12) prs13 ks14 => (f116_Node fuel (Ln.mk op1 nm2 to3 ns4 n5 lo6 hi7 sep8 (V.mk k9 n10 s11 f12) prs13 ks14)).bind fun v15 => cond (v15 != 0) (some v15) (sbind (ο := Unit) (f96_walk_L2 self96_walk ks14 0) (fun () => some 0))
def f96_walk : Nat → Ln → Option (Int)
 | 0 => fun _ => none
 | n + 1 => b96_walk n (f96_walk n)
def C96_walk (O : Oracle TT) (m : Ln → Option (Int)) : Prop :=
 ∀ (op1 : Int) (nm2 : BA) (to3 : BA) (ns4 : LB) (n5 : Int) (lo6 : Int) (hi7 : Int) (sep8 : Int) (k9 : Int) (n10 : Int) (s11 : BA) (f12 : FV) (prs13 : LW) (ks14 : List Ln) (Q : Int → Prop) (R : RR) (_ : ∀ (v106 : Int), Q v106 → R (iD v106) []) (_ : sat (m (Ln.mk op1 nm2 to3 ns4 n5 lo6 hi7 sep8 (V.mk k9 n10 s11 f12) prs13 ks14)) Q), O 96 [.agg [ci op1, .str nm2, .str to3, .isl .str ns4, ci n5, ci lo6, ci hi7, .int .u8 sep8, ci k9, ci n10, .str s11, .isl .fld f12, .isl .two prs13, .isl .lens ks14]] [] R
def j96_walk : Fn TT := ⟨25, [.t 2], (.seq (.reg [qo 1 (.box 1 0),qo 2 (.mv (iC 0))]) (.seq (.seq (.reg [qo 7 (.load 1 14 true),qo 8 (.call 8 116 [7]),qo 3 (.mv 8)]) (.seq (.reg [qo 9 (.mv 3),qo 10 (.bin .neq .num 9 (iC 0))]) (.cond 10 (.seq (.reg [qo 11 (.mv 3),qo 2 (.mv 11)]) .ret) .skip))) (.cut [] [] (.seq (.reg [qo 12 (.fa 1 13),qo 13 (.load 12 1 false),qo 14 (.len false 13),
 qo 15 (.mv (iC 0))]) (.block 0 (.loop (.keep [13, 14, 15] [] (.aft (.seq (.reg [qo 16 (.bin .lss .num 15 14)]) (.seq (.cond 16 .skip (.exit 0)) (.seq (.block 1 (.seq (.reg [qo 17 (.idxA 13 15 14),qo 18 (.load 17 14 true),qo 5 (.alloc 5 zLn),qp (.store 5 18 14)]) (.seq (.reg [qo 19 (.load 5 14 true),qo 20 (.call 20 96 [19]),qo 6 (.mv 20)]) (.seq (.reg [qo 21 (.mv 6),
 qo 22 (.bin .neq .num 21 (iC 0))]) (.cond 22 (.seq (.reg [qo 23 (.mv 6),qo 2 (.mv 23)]) .ret) .skip))))) (.reg [qo 24 (.bin .add .num 15 (iC 1)),qo 15 (.mv 24)])))) [.keep [13, 14, 15] []]))))) (.seq (.reg [qo 2 (.mv (iC 0))]) .ret))))⟩
theorem w96_walk {O : Oracle TT} (fuel : Nat) (self96_walk : Ln → Option (Int)) (h96_walk : C96_walk O self96_walk) (h116_Node : C116_Node O (f116_Node fuel)) : C96_walk (fun _ => vcF (S := SS) O j96_walk) (b96_walk fuel self96_walk) := by
 intro op1 nm2 to3 ns4 n5 lo6 hi7 sep8 k9 n10 s11 f12 prs13 ks14 Q R hQ h
 unfold b96_walk at h
 refine ⟨nle rfl, rfl, ?_⟩
 refine kL [] (h116_Node _ _ _ _ _ _ _ _ _ _ _ _ _ _ _ _ ?_ (sat_bind h))
 rintro v15 h
 refine kc h (fun h => ?_) fun h => ?_
 obtain ⟨R61, h, hlR61, hrR61⟩ := sat_sbind h
 refine kX (fun σ => R61 (.inr ()) ∧ σ = ⟨[], []⟩) ?_ ?_
 intro hl62
 refine kX (fun σ n => ∃ (rem85 : List Ln) (j84 : Nat) (z : Int), n = rem85.length ∧ ks14.drop j84 = rem85 ∧ z = ((j84 : Nat) : Int) ∧ sat (f96_walk_L2 self96_walk rem85 j84) R61 ∧ σ.keep [13, 14, 15] [] = ⟨[(13, .c (.isl .lens ks14)), (14, iD ((ks14.length : Nat) : Int)), (15, iD z)], []⟩) ⟨_, ks14, 0, _, rfl, rfl, rfl, h, rfl⟩ ?_
 rintro σ n ⟨rem85, j84, _, rfl, hrem85, rfl, h, hσ⟩
 refine kk hσ ?_
 intro t88 (ht88 : t88 = decide (((j84 : Nat) : Int) < ((ks14.length : Nat) : Int)))
 cases t88
 obtain rfl := ll_nil hrem85 ht88
 rw [f96_walk_L2] at h
 conv => whnf
 exact ⟨sat_some h, rfl⟩
 obtain ⟨x87, tl86, rfl, hx87, htl86⟩ := ll_cons hrem85 ht88
 obtain ⟨op89, nm90, to91, ns92, n93, lo94, hi95, sep96, ⟨k97, n98, s99, f100⟩, prs101, ks102⟩ := x87
 rw [f96_walk_L2] at h
 conv => whnf
 refine ⟨lx_bd hx87, fun uu103 huu103 => ?_⟩
 obtain rfl := lx_eq hx87 huu103
 refine kL [] (h96_walk _ _ _ _ _ _ _ _ _ _ _ _ _ _ _ _ ?_ (sat_bind h))
 rintro v104 h
 refine kc h (fun h => ?_) fun h => ?_
 conv => whnf
 exact ⟨tl86.length, nls, tl86, j84 + 1, _, rfl, htl86, lx_wr hx87 hl62, h, rfl⟩
 replace h := sat_lft hlR61 h
 exact kR [] (ND 0) (hQ _ (sat_some h))
 rintro _ ⟨h, rfl⟩
 replace h := hrR61 _ h
 exact kR [] (ND 0) (hQ _ (sat_some h))
 exact kR [] (ND 0) (hQ _ (sat_some h))
theorem cg96_walk {P : Program} {fid : Nat → FuncId} (mx : MX P) (k96_walk : KF P fid 96 j96_walk) (h116_Node : ∀ n, C116_Node (SP P fid) (f116_Node n)) : ∀ n, C96_walk (SP P fid) (f96_walk n) := by
 intro n
 induction n with
 | zero => exact fun a0 a1 a2 a3 a4 a5 a6 a7 a8 a9 a10 a11 a12 a13 Q R hQ h => (sat_none h).elim
 | succ n ih =>
  have ih0 := ih
  exact fun a0 a1 a2 a3 a4 a5 a6 a7 a8 a9 a10 a11 a12 a13 Q R hQ h => spec_of_vc mx k96_walk (w96_walk n (f96_walk n) ih0 (h116_Node n) a0 a1 a2 a3 a4 a5 a6 a7 a8 a9 a10 a11 a12 a13 Q R hQ h)
theorem c96_walk {P : Program} {fid : Nat → FuncId} (mx : MX P) (k96_walk : KF P fid 96 j96_walk) (h116_Node : ∀ n, C116_Node (SP P fid) (f116_Node n)) : ∀ n, C96_walk (SP P fid) (f96_walk n) := fun n => (cg96_walk mx k96_walk h116_Node n)
def f70_Check (fuel : Nat) : Ln → Option (Int)
 | .mk op1 nm2 to3 ns4 n5 lo6 hi7 sep8 (.mk k9 n10 s11 f12) prs13 ks14 => (f94_Size fuel (Ln.mk op1 nm2 to3 ns4 n5 lo6 hi7 sep8 (V.mk k9 n10 s11 f12) prs13 ks14)).bind fun v15 => cond (decide (v15 > 120)) (some 2) ((f95_Deep fuel (Ln.mk op1 nm2 to3 ns4 n5 lo6 hi7 sep8 (V.mk k9 n10 s11 f12) prs13 ks14)).bind fun v17 => cond (decide (v17 > 40)) (some 2) ((f96_walk fuel (Ln.mk op1 nm2 to3 ns4 n5 lo6 hi7 sep8 (V.mk k9 n10 s11 f12) prs13 ks14)).bind fun v19 => some v19))
def C70_Check (O : Oracle TT) (m : Ln → Option (Int)) : Prop :=
 ∀ (op1 : Int) (nm2 : BA) (to3 : BA) (ns4 : LB) (n5 : Int) (lo6 : Int) (hi7 : Int) (sep8 : Int) (k9 : Int) (n10 : Int) (s11 : BA) (f12 : FV) (prs13 : LW) (ks14 : List Ln) (Q : Int → Prop) (R : RR) (_ : ∀ (v20 : Int), Q v20 → R (iD v20) []) (_ : sat (m (Ln.mk op1 nm2 to3 ns4 n5 lo6 hi7 sep8 (V.mk k9 n10 s11 f12) prs13 ks14)) Q), O 70 [.agg [ci op1, .str nm2, .str to3, .isl .str ns4, ci n5, ci lo6, ci hi7, .int .u8 sep8, ci k9, ci n10, .str s11, .isl .fld f12, .isl .two prs13, .isl .lens ks14]] [] R
def j70_Check : Fn TT := ⟨13, [.t 2], (.seq (.reg [qo 1 (.box 1 0),qo 2 (.mv (iC 0))]) (.seq (.seq (.reg [qo 3 (.load 1 14 true),qo 4 (.call 4 94 [3]),qo 5 (.bin .gtr .num 4 (iC 120)),qo 6 (.mv 5),qf 6 7 (.load 1 14 true),qf 6 8 (.call 8 95 [7]),qf 6 9 (.bin .gtr .num 8 (iC 40)),qo 10 (.pick 6 bT 9)]) (.cond 10 (.seq (.reg [qo 2 (.mv (iC 2))]) .ret) .skip)) (.seq
 (.reg [qo 11 (.load 1 14 true),qo 12 (.call 12 96 [11]),qo 2 (.mv 12)]) .ret)))⟩
theorem w70_Check {O : Oracle TT} (fuel : Nat) (h94_Size : C94_Size O (f94_Size fuel)) (h95_Deep : C95_Deep O (f95_Deep fuel)) (h96_walk : C96_walk O (f96_walk fuel)) : C70_Check (fun _ => vcF (S := SS) O j70_Check) (f70_Check fuel) := by
 intro op1 nm2 to3 ns4 n5 lo6 hi7 sep8 k9 n10 s11 f12 prs13 ks14 Q R hQ h
 unfold f70_Check at h
 refine ⟨nle rfl, rfl, ?_⟩
 refine kL [] (h94_Size _ _ _ _ _ _ _ _ _ _ _ _ _ _ _ _ ?_ (sat_bind h))
 rintro v15 h
 refine kc h (fun h => ?_) fun h => ?_
 refine kL [] (h95_Deep _ _ _ _ _ _ _ _ _ _ _ _ _ _ _ _ ?_ (sat_bind h))
 rintro v17 h
 refine kc h (fun h => ?_) fun h => ?_
 refine kL [] (h96_walk _ _ _ _ _ _ _ _ _ _ _ _ _ _ _ _ ?_ (sat_bind h))
 rintro v19 h
 exact kR [] (ND 0) (hQ _ (sat_some h))
 exact kR [] (ND 0) (hQ _ (sat_some h))
 exact kR [] (ND 0) (hQ _ (sat_some h))
theorem c70_Check {P : Program} {fid : Nat → FuncId} (mx : MX P) (k70_Check : KF P fid 70 j70_Check) (h94_Size : ∀ n, C94_Size (SP P fid) (f94_Size n)) (h95_Deep : ∀ n, C95_Deep (SP P fid) (f95_Deep n)) (h96_walk : ∀ n, C96_walk (SP P fid) (f96_walk n)) : ∀ n, C70_Check (SP P fid) (f70_Check n) :=
 fun n => fun a0 a1 a2 a3 a4 a5 a6 a7 a8 a9 a10 a11 a12 a13 Q R hQ h => spec_of_vc mx k70_Check (w70_Check n (h94_Size n) (h95_Deep n) (h96_walk n) a0 a1 a2 a3 a4 a5 a6 a7 a8 a9 a10 a11 a12 a13 Q R hQ h)
end Go.Clap
