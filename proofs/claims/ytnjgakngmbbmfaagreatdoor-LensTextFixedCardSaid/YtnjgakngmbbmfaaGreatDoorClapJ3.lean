/- The checks of the small code against the loaded functions. -/
import Derived.Test.YtnjgakngmbbmfaaGreatDoorClapJ2
set_option linter.unusedVariables false
set_option linter.unusedSimpArgs false
set_option maxHeartbeats 4000000
set_option maxRecDepth 100000
namespace Go.Clap
open Go.IntKind (wrap)
def f1005_put_L1 : LB → Nat → LI → Option (LI)
 | [], j16, l20 => some l20
 | w23 :: tl18, j16, l20 => cond (decide (((l20.length : Nat) : Int) > 0)) (grdP (l20.length + ([32] : LI).length ≤ 68719476736) (grdP ((l20 ++ ([32] : LI)).length + (bytesJ w23).length ≤ 68719476736) (f1005_put_L1 tl18 (j16 + 1) ((l20 ++ ([32] : LI)) ++ (bytesJ w23))))) (grdP (l20.length + (bytesJ w23).length ≤ 68719476736) (f1005_put_L1 tl18 (j16 + 1) (l20 ++ (bytesJ w23))))
def f1005_put : LB → Option (LI)
 | l1 => f1005_put_L1 l1 0 []
def C1005_put (O : Oracle TT) (m : LB → Option (LI)) : Prop :=
 ∀ (l1 : LB) (Q : LI → Prop) (R : RR) (_ : ∀ (l30 : LI) (n0r : Nat) (_ : n0r = l30.length), Q l30 → R (.tup []) [(.x 0, some (.var [.osl (.x 1) 0 n0r])), (.x 1, some (.row false .u8 l30))]) (_ : sat (m l1) Q), O 1005 [pX 0, .c (.isl .str l1)] [(.x 0, some (.var [.nils]))] R
def j1005_put : Fn TT := ⟨37, [], (.seq (.reg [qo 6 (.mv 1),qo 7 (.len false 6),qo 8 (.mv (iC 0))]) (.block 0 (.pre [.ownc (.x 0) 0 .u8 (.sub (.sub (.x 0) 600) 0)] (.loop (.keep [0, 6, 7, 8] [(.x 0), (.sub (.sub (.x 0) 600) 0)] (.aft (.seq (.reg [qo 9 (.bin .lss .num 8 7)]) (.seq (.cond 9 .skip (.exit 0)) (.seq (.block 1 (.seq (.reg [qo 10 (.idxA 6 8 1),qo 11 (.load 10 1 false),qo 5 (.mv 11)])
 (.seq (.seq (.reg [qo 12 (.mv 0),qo 13 (.nilck 12),qo 14 (.fa 13 0),qo 15 (.load 14 1 false),qo 16 (.len false 15),qo 17 (.bin .gtr .num 16 (iC 0))]) (.cond 17 (.reg [qo 18 (.mv 0),qo 19 (.mv 0),qo 20 (.nilck 19),qo 21 (.fa 20 0),qo 22 (.load 21 1 false),qo 23 (.bsl .u8 [(.c (.int .u8 32))]),qo 24 (.app 24 .u8 68719476736 22 23),qo 25 (.nilck 18),qo 26 (.fa 25 0),
 qp (.store 26 24 1)]) .skip)) (.reg [qo 27 (.mv 0),qo 28 (.mv 0),qo 29 (.nilck 28),qo 30 (.fa 29 0),qo 31 (.load 30 1 false),qo 32 (.mv 5),qo 33 (.apps 33 .u8 68719476736 31 32),qo 34 (.nilck 27),qo 35 (.fa 34 0),qp (.store 35 33 1)])))) (.reg [qo 36 (.bin .add .num 8 (iC 1)),qo 8 (.mv 36)])))) [.keep [0, 6, 7, 8] [(.x 0), (.s 33)], .ownc (.x 0) 0 .u8 (.sub (.sub (.x 0) 600) 0)]))))))⟩
theorem w1005_put {O : Oracle TT} : C1005_put (fun _ => vcF (S := SS) O j1005_put) f1005_put := by
 intro l1 Q R hQ h
 unfold f1005_put at h
 refine ⟨nle rfl, rfl, ?_⟩
 intro hl2
 refine kX (fun σ n => ∃ (rem17 : LB) (j16 : Nat) (z : Int) (l20 : LI) (n21 : Nat), n = rem17.length ∧ l1.drop j16 = rem17 ∧ z = ((j16 : Nat) : Int) ∧ n21 = l20.length ∧ sat (f1005_put_L1 rem17 j16 l20) Q ∧ σ.keep [0, 6, 7, 8] [(.x 0), (.sub (.sub (.x 0) 600) 0)] = ⟨[(0, pX 0), (6, .c (.isl .str l1)), (7, iD ((l1.length : Nat) : Int)), (8, iD z)], [(.x 0, some (.var [.osl (.sub (.sub (.x 0) 600) 0) 0 n21])), (.sub (.sub (.x 0) 600) 0, some (.row false .u8 l20))]⟩) ⟨_, l1, 0, _, [], _, rfl, rfl, rfl, LN, h, rfl⟩ ?_
 rintro σ n ⟨rem17, j16, _, l20, _, rfl, hrem17, rfl, rfl, h, hσ⟩
 refine kk hσ ?_
 intro t22 (ht22 : t22 = decide (((j16 : Nat) : Int) < ((l1.length : Nat) : Int)))
 cases t22
 obtain rfl := ll_nil hrem17 ht22
 rw [f1005_put_L1] at h
 exact kR [(.sub (.sub (.x 0) 600) 0)] (ND 1) (hQ _ _ LN (sat_some h))
 obtain ⟨w23, tl18, rfl, hx19, htl18⟩ := ll_cons hrem17 ht22
 rw [f1005_put_L1] at h
 conv => whnf
 refine ⟨lx_bd hx19, fun uu24 huu24 => ?_⟩
 obtain rfl := lx_eq hx19 huu24
 intro hl25
 refine kc h (fun h => ?_) fun h => ?_
 conv => whnf
 refine ⟨LN, rfl, ?_⟩
 conv => whnf
 refine ⟨bytesJ w23, row_bytesJ _, ?_⟩
 refine kp h fun hb27 h => ?_
 conv => whnf
 exact ⟨tl18.length, nls, tl18, j16 + 1, _, (l20 ++ (bytesJ w23)), _, rfl, htl18, lx_wr hx19 hl2, LN, h, rfl⟩
 conv => whnf
 refine ⟨LN, rfl, ?_⟩
 conv => whnf
 refine ⟨rfl, ?_⟩
 refine kp h fun hb29 h => ?_
 conv => whnf
 refine ⟨LN, rfl, ?_⟩
 conv => whnf
 refine ⟨bytesJ w23, row_bytesJ _, ?_⟩
 refine kp h fun hb28 h => ?_
 conv => whnf
 exact ⟨tl18.length, nls, tl18, j16 + 1, _, ((l20 ++ ([32] : LI)) ++ (bytesJ w23)), _, rfl, htl18, lx_wr hx19 hl2, (by first | exact LN | (simp only [List.length_append, List.length_cons, List.length_nil] at * <;> omega)), h, rfl⟩
theorem c1005_put {P : Program} {fid : Nat → FuncId} (mx : MX P) (k1005_put : KF P fid 1005 j1005_put) : C1005_put (SP P fid) f1005_put :=
 fun a0 Q R hQ h => spec_of_vc mx k1005_put (w1005_put a0 Q R hQ h)
def f1005a_put_L1 : LB → Nat → LI → Option (LI)
 | [], j17, l21 => some l21
 | w24 :: tl19, j17, l21 => cond (decide (((l21.length : Nat) : Int) > 0)) (grdP (l21.length + ([32] : LI).length ≤ 68719476736) (grdP ((l21 ++ ([32] : LI)).length + (bytesJ w24).length ≤ 68719476736) (f1005a_put_L1 tl19 (j17 + 1) ((l21 ++ ([32] : LI)) ++ (bytesJ w24))))) (grdP (l21.length + (bytesJ w24).length ≤ 68719476736) (f1005a_put_L1 tl19 (j17 + 1) (l21 ++ (bytesJ w24))))
def f1005a_put : LB → LI → Option (LI)
 | l1, r2 => f1005a_put_L1 l1 0 r2
def C1005a_put (O : Oracle TT) (m : LB → LI → Option (LI)) : Prop :=
 ∀ (l1 : LB) (r2 : LI) (n0 : Nat) (en0 : n0 = r2.length) (Q : LI → Prop) (R : RR) (_ : ∀ (l31 : LI) (n0r : Nat) (_ : n0r = l31.length), Q l31 → R (.tup []) [(.x 0, some (.var [.osl (.x 2) 0 n0r])), (.x 1, none), (.x 2, some (.row false .u8 l31))]) (_ : sat (m l1 r2) Q), O 1005 [pX 0, .c (.isl .str l1)] [(.x 0, some (.var [.osl (.x 1) 0 n0])), (.x 1, some (.row false .u8 r2))] R
def j1005a_put : Fn TT := ⟨37, [], (.seq (.reg [qo 6 (.mv 1),qo 7 (.len false 6),qo 8 (.mv (iC 0))]) (.block 0 (.pre [.ownc (.x 0) 0 .u8 (.sub (.sub (.x 0) 600) 0)] (.loop (.keep [0, 6, 7, 8] [(.x 0), (.sub (.sub (.x 0) 600) 0)] (.aft (.seq (.reg [qo 9 (.bin .lss .num 8 7)]) (.seq (.cond 9 .skip (.exit 0)) (.seq (.block 1 (.seq (.reg [qo 10 (.idxA 6 8 1),qo 11 (.load 10 1 false),
 qo 5 (.mv 11)]) (.seq (.seq (.reg [qo 12 (.mv 0),qo 13 (.nilck 12),qo 14 (.fa 13 0),qo 15 (.load 14 1 false),qo 16 (.len false 15),qo 17 (.bin .gtr .num 16 (iC 0))]) (.cond 17 (.reg [qo 18 (.mv 0),qo 19 (.mv 0),qo 20 (.nilck 19),qo 21 (.fa 20 0),qo 22 (.load 21 1 false),qo 23 (.bsl .u8 [(.c (.int .u8 32))]),qo 24 (.app 24 .u8 68719476736 22 23),qo 25 (.nilck 18),qo 26 (.fa 25 0),
 qp (.store 26 24 1)]) .skip)) (.reg [qo 27 (.mv 0),qo 28 (.mv 0),qo 29 (.nilck 28),qo 30 (.fa 29 0),qo 31 (.load 30 1 false),qo 32 (.mv 5),qo 33 (.apps 33 .u8 68719476736 31 32),qo 34 (.nilck 27),qo 35 (.fa 34 0),qp (.store 35 33 1)])))) (.reg [qo 36 (.bin .add .num 8 (iC 1)),qo 8 (.mv 36)])))) [.keep [0, 6, 7, 8] [(.x 0), (.s 33)], .ownc (.x 0) 0 .u8 (.sub (.sub (.x 0) 600) 0)]))))))⟩
theorem w1005a_put {O : Oracle TT} : C1005a_put (fun _ => vcF (S := SS) O j1005a_put) f1005a_put := by
 intro l1 r2 n0 en0 Q R hQ h
 subst en0
 unfold f1005a_put at h
 refine ⟨nle rfl, rfl, ?_⟩
 intro hl3
 refine kX (fun σ n => ∃ (rem18 : LB) (j17 : Nat) (z : Int) (l21 : LI) (n22 : Nat), n = rem18.length ∧ l1.drop j17 = rem18 ∧ z = ((j17 : Nat) : Int) ∧ n22 = l21.length ∧ sat (f1005a_put_L1 rem18 j17 l21) Q ∧ σ.keep [0, 6, 7, 8] [(.x 0), (.sub (.sub (.x 0) 600) 0)] = ⟨[(0, pX 0), (6, .c (.isl .str l1)), (7, iD ((l1.length : Nat) : Int)), (8, iD z)], [(.x 0, some (.var [.osl (.sub (.sub (.x 0) 600) 0) 0 n22])), (.sub (.sub (.x 0) 600) 0, some (.row false .u8 l21))]⟩) ⟨_, l1, 0, _, r2, _, rfl, rfl, rfl, LN, h, rfl⟩ ?_
 rintro σ n ⟨rem18, j17, _, l21, _, rfl, hrem18, rfl, rfl, h, hσ⟩
 refine kk hσ ?_
 intro t23 (ht23 : t23 = decide (((j17 : Nat) : Int) < ((l1.length : Nat) : Int)))
 cases t23
 obtain rfl := ll_nil hrem18 ht23
 rw [f1005a_put_L1] at h
 exact kR [(.sub (.sub (.x 0) 600) 0)] (ND 2) (hQ _ _ LN (sat_some h))
 obtain ⟨w24, tl19, rfl, hx20, htl19⟩ := ll_cons hrem18 ht23
 rw [f1005a_put_L1] at h
 conv => whnf
 refine ⟨lx_bd hx20, fun uu25 huu25 => ?_⟩
 obtain rfl := lx_eq hx20 huu25
 intro hl26
 refine kc h (fun h => ?_) fun h => ?_
 conv => whnf
 refine ⟨LN, rfl, ?_⟩
 conv => whnf
 refine ⟨bytesJ w24, row_bytesJ _, ?_⟩
 refine kp h fun hb28 h => ?_
 conv => whnf
 exact ⟨tl19.length, nls, tl19, j17 + 1, _, (l21 ++ (bytesJ w24)), _, rfl, htl19, lx_wr hx20 hl3, LN, h, rfl⟩
 conv => whnf
 refine ⟨LN, rfl, ?_⟩
 conv => whnf
 refine ⟨rfl, ?_⟩
 refine kp h fun hb30 h => ?_
 conv => whnf
 refine ⟨LN, rfl, ?_⟩
 conv => whnf
 refine ⟨bytesJ w24, row_bytesJ _, ?_⟩
 refine kp h fun hb29 h => ?_
 conv => whnf
 exact ⟨tl19.length, nls, tl19, j17 + 1, _, ((l21 ++ ([32] : LI)) ++ (bytesJ w24)), _, rfl, htl19, lx_wr hx20 hl3, (by first | exact LN | (simp only [List.length_append, List.length_cons, List.length_nil] at * <;> omega)), h, rfl⟩
theorem c1005a_put {P : Program} {fid : Nat → FuncId} (mx : MX P) (k1005a_put : KF P fid 1005 j1005a_put) : C1005a_put (SP P fid) f1005a_put :=
 fun a0 a1 n0 e0 Q R hQ h => spec_of_vc mx k1005a_put (w1005a_put a0 a1 n0 e0 Q R hQ h)
def f1104_value_L2 (self1104_value : V → LI → Option (LI)) (k1 : Int) : FV → Nat → LI → Option (Sum (LI) (LI))
 | [], j103, l107 => some (.inr l107)
 | ((a110, .mk k111 n112 s113 f114)) :: tl105, j103, l107 => sbind (ο := Bool) (cond (k1 == 6) (some (.inr true)) (cond (k1 == 7) (some (.inr true)) (some (.inr false)))) (fun q118 => cond q118 ((f1005a_put ([a110] : LB) l107).bind fun l127 => (self1104_value (V.mk k111 n112 s113 f114) l127).bind fun l128 => f1104_value_L2 self1104_value k1 tl105 (j103 + 1) l128) (cond (k1 == 9) ((f1006_quote a110).bind fun s124 => (f1005a_put ([s124] : LB) l107).bind fun l125 => (self1104_value (V.mk k111 n112 s113 f114) l125).bind fun l126 => f1104_value_L2 self1104_value k1 tl105 (j103 + 1) l126) ((self1104_value (V.mk k111 n112 s113 f114) l107).bind fun l123 => f1104_value_L2 self1104_value k1 tl105 (j103 + 1) l123)))
def f1104_value_L4 (n2 : Int) : Nat → Int → LI → Option (Sum (LI) (LI))
 | 0, v172, l176 => some (.inr l176)
 | g174 + 1, v172, l176 => grdP (0 ≤ (wrap .i64 ((60 : Int) - (wrap .i64 ((4 : Int) * v172))))) (getB (⟨#[48, 49, 50, 51, 52, 53, 54, 55, 56, 57, 97, 98, 99, 100, 101, 102]⟩ : BA) (bAnd .u64 (bShr .u64 (wrap .u64 n2) (wrap .i64 ((60 : Int) - (wrap .i64 ((4 : Int) * v172))))) 15) fun c179 => grdP ((0 : Int) ≤ v172 ∧ v172 < ((l176.length : Nat) : Int)) (getN l176 (0 + v172.toNat) fun c181 => f1104_value_L4 n2 g174 (v172 + 1) (l176.set (0 + v172.toNat) (c179.toNat : Int))))
def b1104_value (self1104_value : V → LI → Option (LI)) : V → LI → Option (LI)
 | .mk k1 n2 s3 f4, r5 => cond (k1 == 0) ((f1005a_put ([(⟨#[117, 110, 105, 116]⟩ : BA)] : LB) r5).bind fun l189 => some l189) (sbind (ο := Bool) (cond (k1 == 1) (some (.inr true)) (cond (k1 == 2) (some (.inr true)) (cond (k1 == 4) (some (.inr true)) (cond (k1 == 11) (some (.inr true)) (some (.inr false)))))) (fun q11 => cond q11 (getL ([(⟨#[]⟩ : BA), (⟨#[98, 111, 111, 108]⟩ : BA), (⟨#[105, 110, 116]⟩ : BA), (⟨#[]⟩ : BA), (⟨#[100, 97, 121]⟩ : BA), (⟨#[]⟩ : BA), (⟨#[]⟩ : BA), (⟨#[]⟩ : BA), (⟨#[]⟩ : BA), (⟨#[]⟩ : BA), (⟨#[]⟩ : BA), (⟨#[109, 97, 114, 107]⟩ : BA)] : LB) k1 fun w185 => (f1022_Itoa n2).bind fun s187 => (f1005a_put ([w185, s187] : LB) r5).bind fun l188 => some l188) (cond (k1 == 3) (grdP ((0 : Int) ≤ 16 ∧ 16 ≤ 68719476736) (sbind (ο := LI) (grdP ((((16 : Int).toNat : Nat) : Int) ≤ 9223372036854775807) (f1104_value_L4 n2 ((((16 : Int).toNat : Nat) : Int) - 0).toNat 0 (List.replicate (16 : Int).toNat (0 : Int)))) (fun l157 => (f1005a_put ([(⟨#[102, 108, 111, 97, 116]⟩ : BA), (strOfNums l157)] : LB) r5).bind fun l184 => some l184))) (cond (k1 == 5) ((f1006_quote s3).bind fun s130 => (f1005a_put ([(⟨#[116, 101, 120, 116]⟩ : BA), s130] : LB) r5).bind fun l131 => some l131) (getL ([(⟨#[]⟩ : BA), (⟨#[]⟩ : BA), (⟨#[]⟩ : BA), (⟨#[]⟩ : BA), (⟨#[]⟩ : BA), (⟨#[]⟩ : BA), (⟨#[114, 101, 99, 111, 114, 100]⟩ : BA), (⟨#[99, 104, 111, 105, 99, 101]⟩ : BA), (⟨#[108, 105, 115, 116]⟩ : BA), (⟨#[109, 97, 112]⟩ : BA)] : LB) k1 fun w19 => (f1005a_put ([w19, (⟨#[40]⟩ : BA)] : LB) r5).bind fun l21 => sbind (ο := LI) (f1104_value_L2 self1104_value k1 f4 0 l21) (fun l74 => (f1005a_put ([(⟨#[41]⟩ : BA)] : LB) l74).bind fun l129 => some l129))))))
def f1104_value : Nat → V → LI → Option (LI)
 | 0 => fun _ _ => none
 | n + 1 => b1104_value (f1104_value n)
def C1104_value (O : Oracle TT) (m : V → LI → Option (LI)) : Prop :=
 ∀ (k1 : Int) (n2 : Int) (s3 : BA) (f4 : FV) (r5 : LI) (n0 : Nat) (en0 : n0 = r5.length) (Q : LI → Prop) (R : RR) (_ : ∀ (l190 : LI) (n0r : Nat) (_ : n0r = l190.length), Q l190 → R (.tup []) [(.x 0, some (.var [.osl (.x 2) 0 n0r])), (.x 1, none), (.x 2, some (.row false .u8 l190))]) (_ : sat (m (V.mk k1 n2 s3 f4) r5) Q), O 1104 [pX 0, .agg [ci k1, ci n2, .str s3, .isl .fld f4]] [(.x 0, some (.var [.osl (.x 1) 0 n0])), (.x 1, some (.row false .u8 r5))] R
def j1104_value : Fn TT := ⟨104, [], (.seq (.reg [qo 3 (.box 3 1)]) (.seq (.reg [qo 8 (.fa 3 0),qo 9 (.load 8 1 false)]) (.block 0 (.seq (.reg [qo 51 (.bin .eql .num 9 (iC 0)),qo 50 (.mv 51)]) (.cond 50 (.reg [qo 52 (.mv 0),qo 53 (.bsl .str [(.c (.str (⟨#[117, 110, 105, 116]⟩ : BA)))]),qo 54 (.call 54 1005 [52, 53])]) (.cut [0, 3, 9, 55] [(.x 0), (.s 3), (.x 1)] (.seq
 (.reg [qo 56 (.bin .eql .num 9 (iC 1)),qo 55 (.mv 56)]) (.cond 55 .skip (.seq (.reg [qo 57 (.bin .eql .num 9 (iC 2)),qo 55 (.mv 57)]) (.cond 55 .skip (.seq (.reg [qo 58 (.bin .eql .num 9 (iC 4)),qo 55 (.mv 58)]) (.cond 55 .skip (.reg [qo 59 (.bin .eql .num 9 (iC 11)),qo 55 (.mv 59)]))))))) (.cond 55 (.drw [(.x 0), (.x 1)] (oR 10) [] (List.range 7) [qo 60 (.mv 0),
 qo 61 (.build [.str eB, .str eB, .str eB, .str eB, .str eB, .str eB, .str eB, .str eB, .str eB, .str eB, .str eB, .str eB] [((1, 1), (.c (.str (⟨#[98, 111, 111, 108]⟩ : BA)))), ((2, 1), (.c (.str (⟨#[105, 110, 116]⟩ : BA)))), ((4, 1), (.c (.str (⟨#[100, 97, 121]⟩ : BA)))), ((11, 1), (.c (.str (⟨#[109, 97, 114, 107]⟩ : BA))))]),qo 62 (.fa 3 0),qo 63 (.load 62 1 false),
 qo 64 (.idxG 61 63 12),qo 65 (.fa 3 1),qo 66 (.load 65 1 false),qo 67 (.call 67 1022 [66]),qo 68 (.bsl .str [64, 67]),qo 69 (.call 69 1005 [60, 68])]) (.seq (.reg [qo 71 (.bin .eql .num 9 (iC 3)),qo 70 (.mv 71)]) (.cond 70 (.seq (.reg [qo 72 (.mk 72 .u8 (0 : Int) 68719476736 (iC 16)),qo 4 (.mv 72)]) (.cut [0, 4] [(.x 0), (.s 72), (.x 1)] (.seq (.reg [qo 73 (.mv 4),qo 74 (.len false 73),
 qo 75 (.mv (iC 0))]) (.block 4 (.loop (.keep [0, 3, 4, 74, 75] [(.x 0), (.s 3), (.s 72), (.x 1)] (.aft (.seq (.reg [qo 76 (.bin .lss .num 75 74)]) (.seq (.cond 76 .skip (.exit 4)) (.seq (.block 5 (.seq (.reg [qo 77 (.mv 75),qo 5 (.mv 77)]) (.reg [qo 78 (.mv 4),qo 79 (.mv 5),qo 80 (.fa 3 1),qo 81 (.load 80 1 false),qo 82 (.conv .u64 81),qo 83 (.mv 5),qo 84 (.bin .mul .num (iC 4) 83),
 qo 85 (.bin .sub .num (iC 60) 84),qo 86 (.bin .shr .num 82 85),qo 87 (.bin .and .num 86 (.c (.int .u64 15))),qo 88 (.idxS (.c (.str (⟨#[48, 49, 50, 51, 52, 53, 54, 55, 56, 57, 97, 98, 99, 100, 101, 102]⟩ : BA))) 87),qo 89 (.idxA 78 79 1),qp (.store 89 88 1)]))) (.reg [qo 90 (.bin .add .num 75 (iC 1)),qo 75 (.mv 90)])))) [.keep [0, 3, 4, 74, 75] [(.x 0), (.s 3), (.s 72), (.x 1)]])))))
 (.pre [.frz 4 0 .u8] (.reg [qo 91 (.mv 0),qo 92 (.mv 4),qo 93 (.b2s 92),qo 94 (.bsl .str [(.c (.str (⟨#[102, 108, 111, 97, 116]⟩ : BA))), 93]),qo 95 (.call 95 1005 [91, 94])])))) (.seq (.reg [qo 97 (.bin .eql .num 9 (iC 5)),qo 96 (.mv 97)]) (.cond 96 (.reg [qo 98 (.mv 0),qo 99 (.fa 3 2),qo 100 (.load 99 1 false),qo 101 (.call 101 1006 [100]),
 qo 102 (.bsl .str [(.c (.str (⟨#[116, 101, 120, 116]⟩ : BA))), 101]),qo 103 (.call 103 1005 [98, 102])]) (.seq (.reg [qo 10 (.mv 0),
 qo 11 (.build [.str eB, .str eB, .str eB, .str eB, .str eB, .str eB, .str eB, .str eB, .str eB, .str eB] [((6, 1), (.c (.str (⟨#[114, 101, 99, 111, 114, 100]⟩ : BA)))), ((7, 1), (.c (.str (⟨#[99, 104, 111, 105, 99, 101]⟩ : BA)))), ((8, 1), (.c (.str (⟨#[108, 105, 115, 116]⟩ : BA)))), ((9, 1), (.c (.str (⟨#[109, 97, 112]⟩ : BA))))]),qo 12 (.fa 3 0),
 qo 13 (.load 12 1 false),qo 14 (.idxG 11 13 10),qo 15 (.bsl .str [14, (.c (.str (⟨#[40]⟩ : BA)))]),qo 16 (.call 16 1005 [10, 15])]) (.cut [0] [(.x 0), (.sub (.sub (.x 0) 601) 0)] (.seq (.reg [qo 17 (.fa 3 3),qo 18 (.load 17 1 false),qo 19 (.len false 18),qo 20 (.mv (iC 0))]) (.block 1 (.pre [.ownc (.x 0) 0 .u8 (.sub (.sub (.x 0) 601) 0)]
 (.loop (.keep [0, 3, 18, 19, 20] [(.x 0), (.s 3), (.sub (.sub (.x 0) 601) 0)] (.aft (.seq (.reg [qo 21 (.bin .lss .num 20 19)]) (.seq (.cond 21 .skip (.exit 1)) (.seq (.block 2 (.seq (.reg [qo 22 (.idxA 18 20 5),qo 23 (.load 22 5 true),qo 7 (.alloc 7 zFd),qp (.store 7 23 5)]) (.seq (.seq (.reg [qo 24 (.fa 3 0),qo 25 (.load 24 1 false)]) (.block 3
 (.cut [0, 3, 7, 18, 19, 20, 25, 26] [(.x 0), (.s 3), (.s 7), (.sub (.sub (.x 0) 601) 0)] (.seq (.reg [qo 27 (.bin .eql .num 25 (iC 6)),qo 26 (.mv 27)]) (.cond 26 .skip (.reg [qo 28 (.bin .eql .num 25 (iC 7)),qo 26 (.mv 28)]))) (.cond 26 (.reg [qo 29 (.mv 0),qo 30 (.fa 7 0),qo 31 (.load 30 1 false),qo 32 (.bsl .str [31]),qo 33 (.call 33 1005 [29, 32])]) (.seq
 (.reg [qo 35 (.bin .eql .num 25 (iC 9)),qo 34 (.mv 35)]) (.cond 34 (.reg [qo 36 (.mv 0),qo 37 (.fa 7 0),qo 38 (.load 37 1 false),qo 39 (.call 39 1006 [38]),qo 40 (.bsl .str [39]),qo 41 (.call 41 1005 [36, 40])]) .skip)))))) (.reg [qo 42 (.mv 0),qo 43 (.fa 7 1),qo 44 (.load 43 4 true),qo 45 (.call 45 1104 [42, 44])])))) (.reg [qo 46 (.bin .add .num 20 (iC 1)),
 qo 20 (.mv 46)])))) [.keep [0, 3, 18, 19, 20] [(.x 0), (.s 3), (.sub (.s 45) 0)], .ownc (.x 0) 0 .u8 (.sub (.sub (.x 0) 601) 0)])))))) (.reg [qo 47 (.mv 0),qo 48 (.bsl .str [(.c (.str (⟨#[41]⟩ : BA)))]),qo 49 (.call 49 1005 [47, 48])]))))))))))))))⟩
theorem w1104_value {O : Oracle TT} (self1104_value : V → LI → Option (LI)) (h1006_quote : C1006_quote O f1006_quote) (h1022_Itoa : C1022_Itoa O f1022_Itoa) (h1005a_put : C1005a_put O f1005a_put) (h1104_value : C1104_value O self1104_value) : C1104_value (fun _ => vcF (S := SS) O j1104_value) (b1104_value self1104_value) := by
 intro k1 n2 s3 f4 r5 n0 en0 Q R hQ h
 subst en0
 unfold b1104_value at h
 refine ⟨nle rfl, rfl, ?_⟩
 refine kc h (fun h => ?_) fun h => ?_
 obtain ⟨R12, h, hlR12, hrR12⟩ := sat_sbind h
 refine kX (fun σ => ∃ (q11 : Bool), R12 (.inr q11) ∧ σ = ⟨[(0, pX 0), (3, pS 3), (9, iD k1), (55, bD q11)], [(.x 0, some (.var [.osl (.x 1) 0 r5.length])), (.s 3, some (.var [ci k1, ci n2, .str s3, .isl .fld f4])), (.x 1, some (.row false .u8 r5))]⟩) ?_ ?_
 refine kc h (fun h => ?_) fun h => ?_
 refine kc h (fun h => ?_) fun h => ?_
 refine kc h (fun h => ?_) fun h => ?_
 refine kc h (fun h => ?_) fun h => ?_
 conv => whnf
 exact ⟨false, sat_some h, rfl⟩
 conv => whnf
 exact ⟨true, sat_some h, rfl⟩
 conv => whnf
 exact ⟨true, sat_some h, rfl⟩
 conv => whnf
 exact ⟨true, sat_some h, rfl⟩
 conv => whnf
 exact ⟨true, sat_some h, rfl⟩
 rintro _ ⟨q11, h, rfl⟩
 replace h := hrR12 _ h
 cases q11
 replace h := sat_cf h
 refine kc h (fun h => ?_) fun h => ?_
 refine kc h (fun h => ?_) fun h => ?_
 conv => whnf
 obtain ⟨hbw19, h⟩ := sat_getL h
 refine ⟨hbw19, by decide, fun c20 hc20 => ?_⟩
 obtain ⟨w19, hw19, rfl⟩ := map_get (f := (C.str : _ → C TT)) (xs := ([(⟨#[]⟩ : BA), (⟨#[]⟩ : BA), (⟨#[]⟩ : BA), (⟨#[]⟩ : BA), (⟨#[]⟩ : BA), (⟨#[]⟩ : BA), (⟨#[114, 101, 99, 111, 114, 100]⟩ : BA), (⟨#[99, 104, 111, 105, 99, 101]⟩ : BA), (⟨#[108, 105, 115, 116]⟩ : BA), (⟨#[109, 97, 112]⟩ : BA)] : LB)) hc20
 replace h := h _ hw19
 refine kL [(.x 0), (.x 1)] (h1005a_put _ _ _ LN _ _ ?_ (sat_bind h))
 rintro l21 _ rfl h
 obtain ⟨R76, h, hlR76, hrR76⟩ := sat_sbind h
 refine kX (fun σ => ∃ (l74 : LI) (n75 : Nat), n75 = l74.length ∧ R76 (.inr l74) ∧ σ = ⟨[(0, pX 0)], [(.x 0, some (.var [.osl (.sub (.sub (.x 0) 601) 0) 0 n75])), (.sub (.sub (.x 0) 601) 0, some (.row false .u8 l74))]⟩) ?_ ?_
 intro hl77
 refine kX (fun σ n => ∃ (rem104 : FV) (j103 : Nat) (z : Int) (l107 : LI) (n108 : Nat), n = rem104.length ∧ f4.drop j103 = rem104 ∧ z = ((j103 : Nat) : Int) ∧ n108 = l107.length ∧ sat (f1104_value_L2 self1104_value k1 rem104 j103 l107) R76 ∧ σ.keep [0, 3, 18, 19, 20] [(.x 0), (.s 3), (.sub (.sub (.x 0) 601) 0)] = ⟨[(0, pX 0), (3, pS 3), (18, .c (.isl .fld f4)), (19, iD ((f4.length : Nat) : Int)), (20, iD z)], [(.x 0, some (.var [.osl (.sub (.sub (.x 0) 601) 0) 0 n108])), (.s 3, some (.var [ci k1, ci n2, .str s3, .isl .fld f4])), (.sub (.sub (.x 0) 601) 0, some (.row false .u8 l107))]⟩) ⟨_, f4, 0, _, l21, _, rfl, rfl, rfl, LN, h, rfl⟩ ?_
 rintro σ n ⟨rem104, j103, _, l107, _, rfl, hrem104, rfl, rfl, h, hσ⟩
 refine kk hσ ?_
 intro t109 (ht109 : t109 = decide (((j103 : Nat) : Int) < ((f4.length : Nat) : Int)))
 cases t109
 obtain rfl := ll_nil hrem104 ht109
 rw [f1104_value_L2] at h
 conv => whnf
 exact ⟨l107, _, LN, sat_some h, rfl⟩
 obtain ⟨x106, tl105, rfl, hx106, htl105⟩ := ll_cons hrem104 ht109
 obtain ⟨a110, ⟨k111, n112, s113, f114⟩⟩ := x106
 rw [f1104_value_L2] at h
 conv => whnf
 refine ⟨lx_bd hx106, fun uu115 huu115 => ?_⟩
 obtain rfl := lx_eq hx106 huu115
 obtain ⟨R119, h, hlR119, hrR119⟩ := sat_sbind h
 refine kX (fun σ => ∃ (q118 : Bool), R119 (.inr q118) ∧ σ = ⟨[(0, pX 0), (3, pS 3), (7, pS 7), (18, .c (.isl .fld f4)), (19, iD ((f4.length : Nat) : Int)), (20, iD ((j103 : Nat) : Int)), (25, iD k1), (26, bD q118)], [(.x 0, some (.var [.osl (.sub (.sub (.x 0) 601) 0) 0 l107.length])), (.s 3, some (.var [ci k1, ci n2, .str s3, .isl .fld f4])), (.s 7, some (.var [.str a110, ci k111, ci n112, .str s113, .isl .fld f114])), (.sub (.sub (.x 0) 601) 0, some (.row false .u8 l107))]⟩) ?_ ?_
 refine kc h (fun h => ?_) fun h => ?_
 refine kc h (fun h => ?_) fun h => ?_
 conv => whnf
 exact ⟨false, sat_some h, rfl⟩
 conv => whnf
 exact ⟨true, sat_some h, rfl⟩
 conv => whnf
 exact ⟨true, sat_some h, rfl⟩
 rintro _ ⟨q118, h, rfl⟩
 replace h := hrR119 _ h
 cases q118
 replace h := sat_cf h
 refine kc h (fun h => ?_) fun h => ?_
 refine kL [(.x 0), (.sub (.sub (.x 0) 601) 0)] (h1104_value _ _ _ _ _ _ LN _ _ ?_ (sat_bind h))
 rintro l123 _ rfl h
 conv => whnf
 exact ⟨tl105.length, nls, tl105, j103 + 1, _, l123, _, rfl, htl105, lx_wr hx106 hl77, LN, h, rfl⟩
 refine kL [] (h1006_quote _ _ _ ?_ (sat_bind h))
 rintro s124 h
 refine kL [(.x 0), (.sub (.sub (.x 0) 601) 0)] (h1005a_put _ _ _ LN _ _ ?_ (sat_bind h))
 rintro l125 _ rfl h
 refine kL [(.x 0), (.sub (.s 41) 0)] (h1104_value _ _ _ _ _ _ LN _ _ ?_ (sat_bind h))
 rintro l126 _ rfl h
 conv => whnf
 exact ⟨tl105.length, nls, tl105, j103 + 1, _, l126, _, rfl, htl105, lx_wr hx106 hl77, LN, h, rfl⟩
 replace h := sat_ct h
 refine kL [(.x 0), (.sub (.sub (.x 0) 601) 0)] (h1005a_put _ _ _ LN _ _ ?_ (sat_bind h))
 rintro l127 _ rfl h
 refine kL [(.x 0), (.sub (.s 33) 0)] (h1104_value _ _ _ _ _ _ LN _ _ ?_ (sat_bind h))
 rintro l128 _ rfl h
 conv => whnf
 exact ⟨tl105.length, nls, tl105, j103 + 1, _, l128, _, rfl, htl105, lx_wr hx106 hl77, LN, h, rfl⟩
 rintro _ ⟨l74, _, rfl, h, rfl⟩
 replace h := hrR76 _ h
 refine kL [(.x 0), (.sub (.sub (.x 0) 601) 0)] (h1005a_put _ _ _ LN _ _ ?_ (sat_bind h))
 rintro l129 _ rfl h
 exact kR [(.sub (.s 49) 0)] (ND 2) (hQ _ _ LN (sat_some h))
 refine kL [] (h1006_quote _ _ _ ?_ (sat_bind h))
 rintro s130 h
 refine kL [(.x 0), (.x 1)] (h1005a_put _ _ _ LN _ _ ?_ (sat_bind h))
 rintro l131 _ rfl h
 exact kR [(.sub (.s 103) 0)] (ND 2) (hQ _ _ LN (sat_some h))
 refine kp h fun hb132 h => ?_
 obtain ⟨R159, h, hlR159, hrR159⟩ := sat_sbind h
 refine kX (fun σ => ∃ (l157 : LI) (n158 : Nat), n158 = l157.length ∧ R159 (.inr l157) ∧ σ = ⟨[(0, pX 0), (4, .c (.osl (.s 72) 0 n158))], [(.x 0, some (.var [.osl (.x 1) 0 r5.length])), (.s 72, some (.row false .u8 l157)), (.x 1, some (.row false .u8 r5))]⟩) ?_ ?_
 intro hl160
 obtain ⟨hN175, h⟩ := sat_grdP h
 refine kX (fun σ n => ∃ (f173 : Nat) (v172 : Int) (z : Int) (l176 : LI) (n177 : Nat), f173 = n ∧ f173 = ((((16 : Int).toNat : Nat) : Int) - v172).toNat ∧ 0 ≤ v172 ∧ v172 = z ∧ n177 = l176.length ∧ sat (f1104_value_L4 n2 f173 v172 l176) R159 ∧ σ.keep [0, 3, 4, 74, 75] [(.x 0), (.s 3), (.s 72), (.x 1)] = ⟨[(0, pX 0), (3, pS 3), (4, .c (.osl (.s 72) 0 n177)), (74, iD (((16 : Int).toNat : Nat) : Int)), (75, iD z)], [(.x 0, some (.var [.osl (.x 1) 0 r5.length])), (.s 3, some (.var [ci k1, ci n2, .str s3, .isl .fld f4])), (.s 72, some (.row false .u8 l176)), (.x 1, some (.row false .u8 r5))]⟩) ⟨_, _, 0, _, (List.replicate (16 : Int).toNat (0 : Int)), _, rfl, rfl, (by decide), rfl, LN, h, rfl⟩ ?_
 rintro σ n ⟨f173, v172, _, l176, _, rfl, hf173, hpf173, rfl, rfl, h, hσ⟩
 refine kk hσ ?_
 intro t178 (ht178 : t178 = decide (v172 < (((16 : Int).toNat : Nat) : Int)))
 cases t178
 obtain rfl := il_nil hf173 ht178
 rw [f1104_value_L4] at h
 conv => whnf
 exact ⟨l176, _, LN, sat_some h, rfl⟩
 obtain ⟨g174, rfl, hwg174, hpg174, hfg174⟩ := il_cons hf173 hpf173 ht178 hN175
 rw [f1104_value_L4] at h
 refine kp h fun hb183 h => ?_
 refine kg (sat_getB h) fun c179 hc179 h => ?_
 refine kp h fun hb180 h => ?_
 refine kg (sat_getN h) fun c181 huu182 h => ?_
 refine ⟨(c179.toNat : Int), rfl, ?_⟩
 conv => whnf
 exact ⟨g174, nls, g174, v172 + 1, _, (l176.set (0 + v172.toNat) (c179.toNat : Int)), _, rfl, hfg174, hpg174, hwg174.symm, LN, h, rfl⟩
 rintro _ ⟨l157, _, rfl, h, rfl⟩
 replace h := hrR159 _ h
 conv => whnf
 refine ⟨LN, ?_⟩
 conv => whnf
 refine ⟨l157, rfl, ?_⟩
 refine kL [(.x 0), (.x 1)] (h1005a_put _ _ _ LN _ _ ?_ (sat_bind h))
 rintro l184 _ rfl h
 exact kR [(.sub (.s 95) 0)] (ND 2) (hQ _ _ LN (sat_some h))
 replace h := sat_ct h
 conv => whnf
 obtain ⟨hbw185, h⟩ := sat_getL h
 refine ⟨hbw185, by decide, fun c186 hc186 => ?_⟩
 obtain ⟨w185, hw185, rfl⟩ := map_get (f := (C.str : _ → C TT)) (xs := ([(⟨#[]⟩ : BA), (⟨#[98, 111, 111, 108]⟩ : BA), (⟨#[105, 110, 116]⟩ : BA), (⟨#[]⟩ : BA), (⟨#[100, 97, 121]⟩ : BA), (⟨#[]⟩ : BA), (⟨#[]⟩ : BA), (⟨#[]⟩ : BA), (⟨#[]⟩ : BA), (⟨#[]⟩ : BA), (⟨#[]⟩ : BA), (⟨#[109, 97, 114, 107]⟩ : BA)] : LB)) hc186
 replace h := h _ hw185
 refine kL [] (h1022_Itoa _ _ _ ?_ (sat_bind h))
 rintro s187 h
 refine kL [(.x 0), (.x 1)] (h1005a_put _ _ _ LN _ _ ?_ (sat_bind h))
 rintro l188 _ rfl h
 exact kR [(.sub (.s 69) 0)] (ND 2) (hQ _ _ LN (sat_some h))
 refine kL [(.x 0), (.x 1)] (h1005a_put _ _ _ LN _ _ ?_ (sat_bind h))
 rintro l189 _ rfl h
 exact kR [(.sub (.s 54) 0)] (ND 2) (hQ _ _ LN (sat_some h))
theorem cg1104_value {P : Program} {fid : Nat → FuncId} (mx : MX P) (k1104_value : KF P fid 1104 j1104_value) (h1006_quote : C1006_quote (SP P fid) f1006_quote) (h1022_Itoa : C1022_Itoa (SP P fid) f1022_Itoa) (h1005a_put : C1005a_put (SP P fid) f1005a_put) : ∀ n, C1104_value (SP P fid) (f1104_value n) := by
 intro n
 induction n with
 | zero => exact fun a0 a1 a2 a3 a4 n0 e0 Q R hQ h => (sat_none h).elim
 | succ n ih =>
  have ih0 := ih
  exact fun a0 a1 a2 a3 a4 n0 e0 Q R hQ h => spec_of_vc mx k1104_value (w1104_value (f1104_value n) h1006_quote h1022_Itoa h1005a_put ih0 a0 a1 a2 a3 a4 n0 e0 Q R hQ h)
theorem c1104_value {P : Program} {fid : Nat → FuncId} (mx : MX P) (k1104_value : KF P fid 1104 j1104_value) (h1006_quote : C1006_quote (SP P fid) f1006_quote) (h1022_Itoa : C1022_Itoa (SP P fid) f1022_Itoa) (h1005a_put : C1005a_put (SP P fid) f1005a_put) : ∀ n, C1104_value (SP P fid) (f1104_value n) := fun n => (cg1104_value mx k1104_value h1006_quote h1022_Itoa h1005a_put n)
def f1103_rest_L4 (op1 : Int) : LB → Nat → LI → Option (Sum (Sum (LI) (Bool × LI)) (LI))
 | [], j129, l133 => some (.inr l133)
 | w136 :: tl131, j129, l133 => cond (op1 == 9) ((f1006_quote w136).bind fun s140 => (f1005a_put ([s140] : LB) l133).bind fun l141 => f1103_rest_L4 op1 tl131 (j129 + 1) l141) ((f1005a_put ([w136] : LB) l133).bind fun l139 => f1103_rest_L4 op1 tl131 (j129 + 1) l139)
def f1103_rest_L8 (fuel : Nat) : LW → Nat → LI → Option (Sum (Sum (LI) (Bool × LI)) (LI))
 | [], j288, l292 => some (.inr l292)
 | ((.mk k295 n296 s297 f298, .mk k299 n300 s301 f302)) :: tl290, j288, l292 => (f1104_value fuel (V.mk k295 n296 s297 f298) l292).bind fun l304 => (f1104_value fuel (V.mk k299 n300 s301 f302) l304).bind fun l305 => f1103_rest_L8 fuel tl290 (j288 + 1) l305
def f1103_rest_L10 (self1018a_lens : Ln → LI → Option (LI)) : List Ln → Nat → LI → Option (Sum (LI) (LI))
 | [], j381, l385 => some (.inr l385)
 | (.mk op388 nm389 to390 ns391 n392 lo393 hi394 sep395 (.mk k396 n397 s398 f399) prs400 ks401) :: tl383, j381, l385 => (self1018a_lens (Ln.mk op388 nm389 to390 ns391 n392 lo393 hi394 sep395 (V.mk k396 n397 s398 f399) prs400 ks401) l385).bind fun l403 => f1103_rest_L10 self1018a_lens tl383 (j381 + 1) l403
def b1103_rest (fuel : Nat) (self1018a_lens : Ln → LI → Option (LI)) : Ln → Bool → Bool → Bool → Bool → Bool → Bool → Bool → Bool → Int → LI → Option (LI)
 | .mk op1 nm2 to3 ns4 n5 lo6 hi7 sep8 (.mk k9 n10 s11 f12) prs13 ks14, q15, q16, q17, q18, q19, q20, q21, q22, v23, r24 => sbind (ο := Bool × LI) (cond q17 ((f1005a_put ([(⟨#[40]⟩ : BA)] : LB) r24).bind fun l86 => sbind (ο := LI) (f1103_rest_L4 op1 ns4 0 l86) (fun l113 => (f1005a_put ([(⟨#[41]⟩ : BA)] : LB) l113).bind fun l142 => some (.inr (true, l142)))) (some (.inr (false, r24)))) (fun (q82, l83) => sbind (ο := Bool × LI) (cond q21 ((f1104_value fuel (V.mk k9 n10 s11 f12) l83).bind fun l148 => some (.inr (true, l148))) (some (.inr (false, l83)))) (fun (q144, l145) => sbind (ο := Bool × LI) (cond q22 ((f1005a_put ([(⟨#[40]⟩ : BA)] : LB) l145).bind fun l230 => sbind (ο := LI) (f1103_rest_L8 fuel prs13 0 l230) (fun l267 => (f1005a_put ([(⟨#[41]⟩ : BA)] : LB) l267).bind fun l306 => some (.inr (true, l306)))) (some (.inr (false, l145)))) (fun (q226, l227) => cond (v23 != 0) ((f1005a_put ([(⟨#[40]⟩ : BA)] : LB) l227).bind fun l308 => sbind (ο := LI) (f1103_rest_L10 self1018a_lens ks14 0 l308) (fun l355 => (f1005a_put ([(⟨#[41]⟩ : BA)] : LB) l355).bind fun l404 => some l404)) (some l227))))
def b1018a_lens (self1103_rest : Ln → Bool → Bool → Bool → Bool → Bool → Bool → Bool → Bool → Int → LI → Option (LI)) : Ln → LI → Option (LI)
 | .mk op1 nm2 to3 ns4 n5 lo6 hi7 sep8 (.mk k9 n10 s11 f12) prs13 ks14, r15 => (f1019_word op1).bind fun s16 => (f1005a_put ([s16] : LB) r15).bind fun l17 => (f144_table op1).bind fun (q18, q19, q20, q21, q22, q23, q24, q25, v26) => sbind (ο := Bool × LI) (cond q18 (cond (nm2.toList == (⟨#[]⟩ : BA).toList) ((f1005a_put ([(⟨#[45]⟩ : BA)] : LB) l17).bind fun l36 => some (.inr (true, l36))) ((f1005a_put ([nm2] : LB) l17).bind fun l35 => some (.inr (true, l35)))) (some (.inr (false, l17)))) (fun (q30, l31) => sbind (ο := Bool × LI) (cond q19 ((f1005a_put ([to3] : LB) l31).bind fun l42 => some (.inr (true, l42))) (some (.inr (false, l31)))) (fun (q38, l39) => sbind (ο := Bool × LI) (cond q21 ((f1022_Itoa n5).bind fun s49 => (f1005a_put ([s49] : LB) l39).bind fun l50 => some (.inr (true, l50))) (some (.inr (false, l39)))) (fun (q45, l46) => sbind (ο := Bool × LI) (cond q22 ((f1022_Itoa lo6).bind fun s58 => (f1022_Itoa hi7).bind fun s59 => (f1005a_put ([s58, s59] : LB) l46).bind fun l60 => some (.inr (true, l60))) (some (.inr (false, l46)))) (fun (q54, l55) => cond q23 ((f1022_Itoa (wrap .i64 sep8)).bind fun s62 => (f1005a_put ([s62] : LB) l55).bind fun l63 => (self1103_rest (Ln.mk op1 nm2 to3 ns4 n5 lo6 hi7 sep8 (V.mk k9 n10 s11 f12) prs13 ks14) q30 q38 q20 q45 q54 true q24 q25 v26 l63).bind fun l64 => some l64) ((self1103_rest (Ln.mk op1 nm2 to3 ns4 n5 lo6 hi7 sep8 (V.mk k9 n10 s11 f12) prs13 ks14) q30 q38 q20 q45 q54 false q24 q25 v26 l55).bind fun l61 => some l61)))))
def S1103_rest : Nat → (Ln → Bool → Bool → Bool → Bool → Bool → Bool → Bool → Bool → Int → LI → Option (LI)) × (Ln → LI → Option (LI))
 | 0 => (fun _ _ _ _ _ _ _ _ _ _ _ => none, fun _ _ => none)
 | n + 1 => (b1103_rest n (S1103_rest n).2, b1018a_lens (S1103_rest n).1)
def f1103_rest (n : Nat) : Ln → Bool → Bool → Bool → Bool → Bool → Bool → Bool → Bool → Int → LI → Option (LI) := (S1103_rest n).1
def f1018a_lens (n : Nat) : Ln → LI → Option (LI) := (S1103_rest n).2
def C1103_rest (O : Oracle TT) (m : Ln → Bool → Bool → Bool → Bool → Bool → Bool → Bool → Bool → Int → LI → Option (LI)) : Prop :=
 ∀ (op1 : Int) (nm2 : BA) (to3 : BA) (ns4 : LB) (n5 : Int) (lo6 : Int) (hi7 : Int) (sep8 : Int) (k9 : Int) (n10 : Int) (s11 : BA) (f12 : FV) (prs13 : LW) (ks14 : List Ln) (q15 : Bool) (q16 : Bool) (q17 : Bool) (q18 : Bool) (q19 : Bool) (q20 : Bool) (q21 : Bool) (q22 : Bool) (v23 : Int) (r24 : LI) (n0 : Nat) (en0 : n0 = r24.length) (Q : LI → Prop) (R : RR) (_ : ∀ (l405 : LI) (n0r : Nat) (_ : n0r = l405.length), Q l405 → R (.tup []) [(.x 0, some (.var [.osl (.x 2) 0 n0r])), (.x 1, none), (.x 2, some (.row false .u8 l405))]) (_ : sat (m (Ln.mk op1 nm2 to3 ns4 n5 lo6 hi7 sep8 (V.mk k9 n10 s11 f12) prs13 ks14) q15 q16 q17 q18 q19 q20 q21 q22 v23 r24) Q), O 1103 [pX 0, .agg [ci op1, .str nm2, .str to3, .isl .str ns4, ci n5, ci lo6, ci hi7, .int .u8 sep8, ci k9, ci n10, .str s11, .isl .fld f12, .isl .two prs13, .isl .lens ks14], .agg [.bool q15, .bool q16, .bool q17, .bool q18, .bool q19, .bool q20, .bool q21, .bool q22, ci v23]] [(.x 0, some (.var [.osl (.x 1) 0 n0])), (.x 1, some (.row false .u8 r24))] R
def j1103_rest : Fn TT := ⟨90, [], (.seq (.reg [qo 4 (.box 4 1),qo 5 (.box 5 2)]) (.cut [0, 4, 5] [(.x 0), (.s 4), (.s 5), (.sub (.sub (.x 0) 5213) 0)] (.aft (.seq (.reg [qo 12 (.fa 5 2),qo 13 (.load 12 1 false)]) (.cond 13 (.seq (.reg [qo 14 (.mv 0),qo 15 (.bsl .str [(.c (.str (⟨#[40]⟩ : BA)))]),qo 16 (.call 16 1005 [14, 15])])
 (.cut [0, 4, 5] [(.x 0), (.s 4), (.s 5), (.sub (.sub (.x 0) 600) 0)] (.seq (.reg [qo 17 (.fa 4 3),qo 18 (.load 17 1 false),qo 19 (.len false 18),qo 20 (.mv (iC 0))]) (.block 0 (.pre [.ownc (.x 0) 0 .u8 (.sub (.sub (.x 0) 600) 0)] (.loop (.keep [0, 4, 5, 18, 19, 20] [(.x 0), (.s 4), (.s 5), (.sub (.sub (.x 0) 600) 0)] (.aft (.seq (.reg [qo 21 (.bin .lss .num 20 19)]) (.seq (.cond 21 .skip
 (.exit 0)) (.seq (.block 1 (.seq (.reg [qo 22 (.idxA 18 20 1),qo 23 (.load 22 1 false),qo 7 (.mv 23)]) (.seq (.reg [qo 24 (.fa 4 0),qo 25 (.load 24 1 false),qo 26 (.bin .eql .num 25 (iC 9))]) (.cond 26 (.reg [qo 27 (.mv 0),qo 28 (.mv 7),qo 29 (.call 29 1006 [28]),qo 30 (.bsl .str [29]),qo 31 (.call 31 1005 [27, 30])]) (.reg [qo 32 (.mv 0),qo 33 (.mv 7),qo 34 (.bsl .str [33]),
 qo 35 (.call 35 1005 [32, 34])]))))) (.reg [qo 36 (.bin .add .num 20 (iC 1)),qo 20 (.mv 36)])))) [.keep [0, 4, 5, 18, 19, 20] [(.x 0), (.s 4), (.s 5), (.sub (.s 35) 0), (.sub (.s 31) 0)], .ownc (.x 0) 0 .u8 (.sub (.sub (.x 0) 600) 0)])))))) (.reg [qo 37 (.mv 0),qo 38 (.bsl .str [(.c (.str (⟨#[41]⟩ : BA)))]),qo 39 (.call 39 1005 [37, 38])])))
 .skip)) [.ownc (.x 0) 0 .u8 (.sub (.sub (.x 0) 5213) 0)]) (.cut [0, 4, 5] [(.x 0), (.s 4), (.s 5), (.sub (.sub (.x 0) 5212) 0)] (.aft (.seq (.reg [qo 40 (.fa 5 6),qo 41 (.load 40 1 false)]) (.cond 41 (.reg [qo 42 (.mv 0),qo 43 (.fa 4 8),qo 44 (.load 43 4 true),qo 45 (.call 45 1104 [42, 44])]) .skip)) [.ownc (.x 0) 0 .u8 (.sub (.sub (.x 0) 5212) 0)])
 (.cut [0, 4, 5] [(.x 0), (.s 4), (.s 5), (.sub (.sub (.x 0) 5211) 0)] (.aft (.seq (.reg [qo 46 (.fa 5 7),qo 47 (.load 46 1 false)]) (.cond 47 (.seq (.reg [qo 48 (.mv 0),qo 49 (.bsl .str [(.c (.str (⟨#[40]⟩ : BA)))]),qo 50 (.call 50 1005 [48, 49])]) (.cut [0, 4, 5] [(.x 0), (.s 4), (.s 5), (.sub (.sub (.x 0) 601) 0)] (.seq (.reg [qo 51 (.fa 4 12),qo 52 (.load 51 1 false),
 qo 53 (.len false 52),qo 54 (.mv (iC 0))]) (.block 2 (.pre [.ownc (.x 0) 0 .u8 (.sub (.sub (.x 0) 601) 0)] (.loop (.keep [0, 4, 5, 52, 53, 54] [(.x 0), (.s 4), (.s 5), (.sub (.sub (.x 0) 601) 0)] (.aft (.seq (.reg [qo 55 (.bin .lss .num 54 53)]) (.seq (.cond 55 .skip (.exit 2)) (.seq (.block 3 (.seq (.reg [qo 56 (.idxA 52 54 8),qo 57 (.load 56 8 true),qo 9 (.alloc 9 zTw),qp (.store 9 57 8)])
 (.seq (.reg [qo 58 (.mv 0),qo 59 (.idxArr 9 (iC 0) 4 2),qo 60 (.load 59 4 true),qo 61 (.call 61 1104 [58, 60])]) (.reg [qo 62 (.mv 0),qo 63 (.idxArr 9 (iC 1) 4 2),qo 64 (.load 63 4 true),qo 65 (.call 65 1104 [62, 64])])))) (.reg [qo 66 (.bin .add .num 54 (iC 1)),
 qo 54 (.mv 66)])))) [.keep [0, 4, 5, 52, 53, 54] [(.x 0), (.s 4), (.s 5), (.sub (.s 65) 0)], .ownc (.x 0) 0 .u8 (.sub (.sub (.x 0) 601) 0)])))))) (.reg [qo 67 (.mv 0),qo 68 (.bsl .str [(.c (.str (⟨#[41]⟩ : BA)))]),qo 69 (.call 69 1005 [67, 68])]))) .skip)) [.ownc (.x 0) 0 .u8 (.sub (.sub (.x 0) 5211) 0)]) (.seq (.reg [qo 70 (.fa 5 8),qo 71 (.load 70 1 false),
 qo 72 (.bin .neq .num 71 (iC 0))]) (.cond 72 (.seq (.reg [qo 73 (.mv 0),qo 74 (.bsl .str [(.c (.str (⟨#[40]⟩ : BA)))]),qo 75 (.call 75 1005 [73, 74])]) (.cut [0] [(.x 0), (.sub (.sub (.x 0) 602) 0)] (.seq (.reg [qo 76 (.fa 4 13),qo 77 (.load 76 1 false),qo 78 (.len false 77),qo 79 (.mv (iC 0))]) (.block 4 (.pre [.ownc (.x 0) 0 .u8 (.sub (.sub (.x 0) 602) 0)]
 (.loop (.keep [0, 77, 78, 79] [(.x 0), (.sub (.sub (.x 0) 602) 0)] (.aft (.seq (.reg [qo 80 (.bin .lss .num 79 78)]) (.seq (.cond 80 .skip (.exit 4)) (.seq (.block 5 (.seq (.reg [qo 81 (.idxA 77 79 14),qo 82 (.load 81 14 true),qo 11 (.alloc 11 zLn),qp (.store 11 82 14)]) (.reg [qo 83 (.mv 0),qo 84 (.load 11 14 true),qo 85 (.call 85 1018 [83, 84])]))) (.reg [qo 86 (.bin .add .num 79 (iC 1)),
 qo 79 (.mv 86)])))) [.keep [0, 77, 78, 79] [(.x 0), (.sub (.s 85) 0)], .ownc (.x 0) 0 .u8 (.sub (.sub (.x 0) 602) 0)])))))) (.reg [qo 87 (.mv 0),qo 88 (.bsl .str [(.c (.str (⟨#[41]⟩ : BA)))]),qo 89 (.call 89 1005 [87, 88])]))) .skip))))))⟩
def C1018a_lens (O : Oracle TT) (m : Ln → LI → Option (LI)) : Prop :=
 ∀ (op1 : Int) (nm2 : BA) (to3 : BA) (ns4 : LB) (n5 : Int) (lo6 : Int) (hi7 : Int) (sep8 : Int) (k9 : Int) (n10 : Int) (s11 : BA) (f12 : FV) (prs13 : LW) (ks14 : List Ln) (r15 : LI) (n0 : Nat) (en0 : n0 = r15.length) (Q : LI → Prop) (R : RR) (_ : ∀ (l65 : LI) (n0r : Nat) (_ : n0r = l65.length), Q l65 → R (.tup []) [(.x 0, some (.var [.osl (.x 2) 0 n0r])), (.x 1, none), (.x 2, some (.row false .u8 l65))]) (_ : sat (m (Ln.mk op1 nm2 to3 ns4 n5 lo6 hi7 sep8 (V.mk k9 n10 s11 f12) prs13 ks14) r15) Q), O 1018 [pX 0, .agg [ci op1, .str nm2, .str to3, .isl .str ns4, ci n5, ci lo6, ci hi7, .int .u8 sep8, ci k9, ci n10, .str s11, .isl .fld f12, .isl .two prs13, .isl .lens ks14]] [(.x 0, some (.var [.osl (.x 1) 0 n0])), (.x 1, some (.row false .u8 r15))] R
def j1018a_lens : Fn TT := ⟨66, [], (.seq (.reg [qo 3 (.box 3 1)]) (.seq (.reg [qo 5 (.mv 0),qo 6 (.fa 3 0),qo 7 (.load 6 1 false),qo 8 (.call 8 1019 [7]),qo 9 (.bsl .str [8]),qo 10 (.call 10 1005 [5, 9])]) (.seq (.reg [qo 11 (.fa 3 0),qo 12 (.load 11 1 false),qo 13 (.call 13 144 [12]),
 qo 4 (.alloc 4 [.bool false, .bool false, .bool false, .bool false, .bool false, .bool false, .bool false, .bool false, .int .i64 0]),qp (.store 4 13 9)]) (.cut [0, 3, 4] [(.x 0), (.s 3), (.s 4), (.sub (.sub (.x 0) 5341) 0)] (.aft (.seq (.reg [qo 14 (.fa 4 0),qo 15 (.load 14 1 false)]) (.cond 15 (.seq (.reg [qo 16 (.fa 3 1),qo 17 (.load 16 1 false),qo 18 (.bin .eql .str 17 sE)]) (.cond 18
 (.reg [qo 19 (.mv 0),qo 20 (.bsl .str [(.c (.str (⟨#[45]⟩ : BA)))]),qo 21 (.call 21 1005 [19, 20])]) (.reg [qo 22 (.mv 0),qo 23 (.fa 3 1),qo 24 (.load 23 1 false),qo 25 (.bsl .str [24]),qo 26 (.call 26 1005 [22, 25])]))) .skip)) [.ownc (.x 0) 0 .u8 (.sub (.sub (.x 0) 5341) 0)]) (.cut [0, 3, 4] [(.x 0), (.s 3), (.s 4), (.sub (.sub (.x 0) 5340) 0)] (.aft (.seq (.reg [qo 27 (.fa 4 1),
 qo 28 (.load 27 1 false)]) (.cond 28 (.reg [qo 29 (.mv 0),qo 30 (.fa 3 2),qo 31 (.load 30 1 false),qo 32 (.bsl .str [31]),qo 33 (.call 33 1005 [29, 32])]) .skip)) [.ownc (.x 0) 0 .u8 (.sub (.sub (.x 0) 5340) 0)]) (.cut [0, 3, 4] [(.x 0), (.s 3), (.s 4), (.sub (.sub (.x 0) 5339) 0)] (.aft (.seq (.reg [qo 34 (.fa 4 3),qo 35 (.load 34 1 false)]) (.cond 35 (.reg [qo 36 (.mv 0),qo 37 (.fa 3 4),
 qo 38 (.load 37 1 false),qo 39 (.call 39 1022 [38]),qo 40 (.bsl .str [39]),qo 41 (.call 41 1005 [36, 40])]) .skip)) [.ownc (.x 0) 0 .u8 (.sub (.sub (.x 0) 5339) 0)]) (.cut [0, 3, 4] [(.x 0), (.s 3), (.s 4), (.sub (.sub (.x 0) 5338) 0)] (.aft (.seq (.reg [qo 42 (.fa 4 4),qo 43 (.load 42 1 false)]) (.cond 43
 (.drw [(.x 0), (.sub (.sub (.x 0) 5339) 0)] (ol [0, 1, 2, 4, 5, 3, 6, 7, 8]) [] [0, 1, 2, 4, 5] [qo 44 (.mv 0),qo 45 (.fa 3 5),qo 46 (.load 45 1 false),qo 47 (.call 47 1022 [46]),qo 48 (.fa 3 6),qo 49 (.load 48 1 false),qo 50 (.call 50 1022 [49]),qo 51 (.bsl .str [47, 50]),qo 52 (.call 52 1005 [44, 51])]) .skip)) [.ownc (.x 0) 0 .u8 (.sub (.sub (.x 0) 5338) 0)]) (.seq (.seq
 (.reg [qo 53 (.fa 4 5),qo 54 (.load 53 1 false)]) (.cond 54 (.reg [qo 55 (.mv 0),qo 56 (.fa 3 7),qo 57 (.load 56 1 false),qo 58 (.conv .i64 57),qo 59 (.call 59 1022 [58]),qo 60 (.bsl .str [59]),qo 61 (.call 61 1005 [55, 60])]) .skip)) (.reg [qo 62 (.mv 0),qo 63 (.load 3 14 true),qo 64 (.load 4 9 true),qo 65 (.call 65 1103 [62, 63, 64])])))))))))⟩
theorem w1103_rest {O : Oracle TT} (fuel : Nat) (self1018a_lens : Ln → LI → Option (LI)) (h1006_quote : C1006_quote O f1006_quote) (h1005a_put : C1005a_put O f1005a_put) (h1104_value : C1104_value O (f1104_value fuel)) (h1018a_lens : C1018a_lens O self1018a_lens) : C1103_rest (fun _ => vcF (S := SS) O j1103_rest) (b1103_rest fuel self1018a_lens) := by
 intro op1 nm2 to3 ns4 n5 lo6 hi7 sep8 k9 n10 s11 f12 prs13 ks14 q15 q16 q17 q18 q19 q20 q21 q22 v23 r24 n0 en0 Q R hQ h
 subst en0
 unfold b1103_rest at h
 refine ⟨nle rfl, rfl, ?_⟩
 obtain ⟨R85, h, hlR85, hrR85⟩ := sat_sbind h
 refine kX (fun σ => ∃ (q82 : Bool) (l83 : LI) (n84 : Nat), n84 = l83.length ∧ R85 (.inr (q82, l83)) ∧ σ = ⟨[(0, pX 0), (4, pS 4), (5, pS 5)], [(.x 0, some (.var [.osl (.sub (.sub (.x 0) 5213) 0) 0 n84])), (.s 4, some (.var [ci op1, .str nm2, .str to3, .isl .str ns4, ci n5, ci lo6, ci hi7, .int .u8 sep8, ci k9, ci n10, .str s11, .isl .fld f12, .isl .two prs13, .isl .lens ks14])), (.s 5, some (.var [.bool q15, .bool q16, .bool q82, .bool q18, .bool q19, .bool q20, .bool q21, .bool q22, ci v23])), (.sub (.sub (.x 0) 5213) 0, some (.row false .u8 l83))]⟩) ?_ ?_
 cases q17
 replace h := sat_cf h
 conv => whnf
 exact ⟨false, r24, _, LN, sat_some h, rfl⟩
 replace h := sat_ct h
 refine kL [(.x 0), (.x 1)] (h1005a_put _ _ _ LN _ _ ?_ (sat_bind h))
 rintro l86 _ rfl h
 obtain ⟨R115, h, hlR115, hrR115⟩ := sat_sbind h
 refine kX (fun σ => ∃ (l113 : LI) (n114 : Nat), n114 = l113.length ∧ R115 (.inr l113) ∧ σ = ⟨[(0, pX 0), (4, pS 4), (5, pS 5)], [(.x 0, some (.var [.osl (.sub (.sub (.x 0) 600) 0) 0 n114])), (.s 4, some (.var [ci op1, .str nm2, .str to3, .isl .str ns4, ci n5, ci lo6, ci hi7, .int .u8 sep8, ci k9, ci n10, .str s11, .isl .fld f12, .isl .two prs13, .isl .lens ks14])), (.s 5, some (.var [.bool q15, .bool q16, .bool true, .bool q18, .bool q19, .bool q20, .bool q21, .bool q22, ci v23])), (.sub (.sub (.x 0) 600) 0, some (.row false .u8 l113))]⟩) ?_ ?_
 intro hl116
 refine kX (fun σ n => ∃ (rem130 : LB) (j129 : Nat) (z : Int) (l133 : LI) (n134 : Nat), n = rem130.length ∧ ns4.drop j129 = rem130 ∧ z = ((j129 : Nat) : Int) ∧ n134 = l133.length ∧ sat (f1103_rest_L4 op1 rem130 j129 l133) R115 ∧ σ.keep [0, 4, 5, 18, 19, 20] [(.x 0), (.s 4), (.s 5), (.sub (.sub (.x 0) 600) 0)] = ⟨[(0, pX 0), (4, pS 4), (5, pS 5), (18, .c (.isl .str ns4)), (19, iD ((ns4.length : Nat) : Int)), (20, iD z)], [(.x 0, some (.var [.osl (.sub (.sub (.x 0) 600) 0) 0 n134])), (.s 4, some (.var [ci op1, .str nm2, .str to3, .isl .str ns4, ci n5, ci lo6, ci hi7, .int .u8 sep8, ci k9, ci n10, .str s11, .isl .fld f12, .isl .two prs13, .isl .lens ks14])), (.s 5, some (.var [.bool q15, .bool q16, .bool true, .bool q18, .bool q19, .bool q20, .bool q21, .bool q22, ci v23])), (.sub (.sub (.x 0) 600) 0, some (.row false .u8 l133))]⟩) ⟨_, ns4, 0, _, l86, _, rfl, rfl, rfl, LN, h, rfl⟩ ?_
 rintro σ n ⟨rem130, j129, _, l133, _, rfl, hrem130, rfl, rfl, h, hσ⟩
 refine kk hσ ?_
 intro t135 (ht135 : t135 = decide (((j129 : Nat) : Int) < ((ns4.length : Nat) : Int)))
 cases t135
 obtain rfl := ll_nil hrem130 ht135
 rw [f1103_rest_L4] at h
 conv => whnf
 exact ⟨l133, _, LN, sat_some h, rfl⟩
 obtain ⟨w136, tl131, rfl, hx132, htl131⟩ := ll_cons hrem130 ht135
 rw [f1103_rest_L4] at h
 conv => whnf
 refine ⟨lx_bd hx132, fun uu137 huu137 => ?_⟩
 obtain rfl := lx_eq hx132 huu137
 refine kc h (fun h => ?_) fun h => ?_
 refine kL [(.x 0), (.sub (.sub (.x 0) 600) 0)] (h1005a_put _ _ _ LN _ _ ?_ (sat_bind h))
 rintro l139 _ rfl h
 conv => whnf
 exact ⟨tl131.length, nls, tl131, j129 + 1, _, l139, _, rfl, htl131, lx_wr hx132 hl116, LN, h, rfl⟩
 refine kL [] (h1006_quote _ _ _ ?_ (sat_bind h))
 rintro s140 h
 refine kL [(.x 0), (.sub (.sub (.x 0) 600) 0)] (h1005a_put _ _ _ LN _ _ ?_ (sat_bind h))
 rintro l141 _ rfl h
 conv => whnf
 exact ⟨tl131.length, nls, tl131, j129 + 1, _, l141, _, rfl, htl131, lx_wr hx132 hl116, LN, h, rfl⟩
 rintro _ ⟨l113, _, rfl, h, rfl⟩
 replace h := hrR115 _ h
 refine kL [(.x 0), (.sub (.sub (.x 0) 600) 0)] (h1005a_put _ _ _ LN _ _ ?_ (sat_bind h))
 rintro l142 _ rfl h
 conv => whnf
 exact ⟨true, l142, _, LN, sat_some h, rfl⟩
 rintro _ ⟨q82, l83, _, rfl, h, rfl⟩
 replace h := hrR85 _ h
 obtain ⟨R147, h, hlR147, hrR147⟩ := sat_sbind h
 refine kX (fun σ => ∃ (q144 : Bool) (l145 : LI) (n146 : Nat), n146 = l145.length ∧ R147 (.inr (q144, l145)) ∧ σ = ⟨[(0, pX 0), (4, pS 4), (5, pS 5)], [(.x 0, some (.var [.osl (.sub (.sub (.x 0) 5212) 0) 0 n146])), (.s 4, some (.var [ci op1, .str nm2, .str to3, .isl .str ns4, ci n5, ci lo6, ci hi7, .int .u8 sep8, ci k9, ci n10, .str s11, .isl .fld f12, .isl .two prs13, .isl .lens ks14])), (.s 5, some (.var [.bool q15, .bool q16, .bool q82, .bool q18, .bool q19, .bool q20, .bool q144, .bool q22, ci v23])), (.sub (.sub (.x 0) 5212) 0, some (.row false .u8 l145))]⟩) ?_ ?_
 cases q21
 replace h := sat_cf h
 conv => whnf
 exact ⟨false, l83, _, LN, sat_some h, rfl⟩
 replace h := sat_ct h
 refine kL [(.x 0), (.sub (.sub (.x 0) 5213) 0)] (h1104_value _ _ _ _ _ _ LN _ _ ?_ (sat_bind h))
 rintro l148 _ rfl h
 conv => whnf
 exact ⟨true, l148, _, LN, sat_some h, rfl⟩
 rintro _ ⟨q144, l145, _, rfl, h, rfl⟩
 replace h := hrR147 _ h
 obtain ⟨R229, h, hlR229, hrR229⟩ := sat_sbind h
 refine kX (fun σ => ∃ (q226 : Bool) (l227 : LI) (n228 : Nat), n228 = l227.length ∧ R229 (.inr (q226, l227)) ∧ σ = ⟨[(0, pX 0), (4, pS 4), (5, pS 5)], [(.x 0, some (.var [.osl (.sub (.sub (.x 0) 5211) 0) 0 n228])), (.s 4, some (.var [ci op1, .str nm2, .str to3, .isl .str ns4, ci n5, ci lo6, ci hi7, .int .u8 sep8, ci k9, ci n10, .str s11, .isl .fld f12, .isl .two prs13, .isl .lens ks14])), (.s 5, some (.var [.bool q15, .bool q16, .bool q82, .bool q18, .bool q19, .bool q20, .bool q144, .bool q226, ci v23])), (.sub (.sub (.x 0) 5211) 0, some (.row false .u8 l227))]⟩) ?_ ?_
 cases q22
 replace h := sat_cf h
 conv => whnf
 exact ⟨false, l145, _, LN, sat_some h, rfl⟩
 replace h := sat_ct h
 refine kL [(.x 0), (.sub (.sub (.x 0) 5212) 0)] (h1005a_put _ _ _ LN _ _ ?_ (sat_bind h))
 rintro l230 _ rfl h
 obtain ⟨R269, h, hlR269, hrR269⟩ := sat_sbind h
 refine kX (fun σ => ∃ (l267 : LI) (n268 : Nat), n268 = l267.length ∧ R269 (.inr l267) ∧ σ = ⟨[(0, pX 0), (4, pS 4), (5, pS 5)], [(.x 0, some (.var [.osl (.sub (.sub (.x 0) 601) 0) 0 n268])), (.s 4, some (.var [ci op1, .str nm2, .str to3, .isl .str ns4, ci n5, ci lo6, ci hi7, .int .u8 sep8, ci k9, ci n10, .str s11, .isl .fld f12, .isl .two prs13, .isl .lens ks14])), (.s 5, some (.var [.bool q15, .bool q16, .bool q82, .bool q18, .bool q19, .bool q20, .bool q144, .bool true, ci v23])), (.sub (.sub (.x 0) 601) 0, some (.row false .u8 l267))]⟩) ?_ ?_
 intro hl270
 refine kX (fun σ n => ∃ (rem289 : LW) (j288 : Nat) (z : Int) (l292 : LI) (n293 : Nat), n = rem289.length ∧ prs13.drop j288 = rem289 ∧ z = ((j288 : Nat) : Int) ∧ n293 = l292.length ∧ sat (f1103_rest_L8 fuel rem289 j288 l292) R269 ∧ σ.keep [0, 4, 5, 52, 53, 54] [(.x 0), (.s 4), (.s 5), (.sub (.sub (.x 0) 601) 0)] = ⟨[(0, pX 0), (4, pS 4), (5, pS 5), (52, .c (.isl .two prs13)), (53, iD ((prs13.length : Nat) : Int)), (54, iD z)], [(.x 0, some (.var [.osl (.sub (.sub (.x 0) 601) 0) 0 n293])), (.s 4, some (.var [ci op1, .str nm2, .str to3, .isl .str ns4, ci n5, ci lo6, ci hi7, .int .u8 sep8, ci k9, ci n10, .str s11, .isl .fld f12, .isl .two prs13, .isl .lens ks14])), (.s 5, some (.var [.bool q15, .bool q16, .bool q82, .bool q18, .bool q19, .bool q20, .bool q144, .bool true, ci v23])), (.sub (.sub (.x 0) 601) 0, some (.row false .u8 l292))]⟩) ⟨_, prs13, 0, _, l230, _, rfl, rfl, rfl, LN, h, rfl⟩ ?_
 rintro σ n ⟨rem289, j288, _, l292, _, rfl, hrem289, rfl, rfl, h, hσ⟩
 refine kk hσ ?_
 intro t294 (ht294 : t294 = decide (((j288 : Nat) : Int) < ((prs13.length : Nat) : Int)))
 cases t294
 obtain rfl := ll_nil hrem289 ht294
 rw [f1103_rest_L8] at h
 conv => whnf
 exact ⟨l292, _, LN, sat_some h, rfl⟩
 obtain ⟨x291, tl290, rfl, hx291, htl290⟩ := ll_cons hrem289 ht294
 obtain ⟨⟨k295, n296, s297, f298⟩, ⟨k299, n300, s301, f302⟩⟩ := x291
 rw [f1103_rest_L8] at h
 conv => whnf
 refine ⟨lx_bd hx291, fun uu303 huu303 => ?_⟩
 obtain rfl := lx_eq hx291 huu303
 conv => whnf
 refine ⟨⟨by decide, by decide⟩, ?_⟩
 refine kL [(.x 0), (.sub (.sub (.x 0) 601) 0)] (h1104_value _ _ _ _ _ _ LN _ _ ?_ (sat_bind h))
 rintro l304 _ rfl h
 conv => whnf
 refine ⟨⟨by decide, by decide⟩, ?_⟩
 refine kL [(.x 0), (.sub (.s 61) 0)] (h1104_value _ _ _ _ _ _ LN _ _ ?_ (sat_bind h))
 rintro l305 _ rfl h
 conv => whnf
 exact ⟨tl290.length, nls, tl290, j288 + 1, _, l305, _, rfl, htl290, lx_wr hx291 hl270, LN, h, rfl⟩
 rintro _ ⟨l267, _, rfl, h, rfl⟩
 replace h := hrR269 _ h
 refine kL [(.x 0), (.sub (.sub (.x 0) 601) 0)] (h1005a_put _ _ _ LN _ _ ?_ (sat_bind h))
 rintro l306 _ rfl h
 conv => whnf
 exact ⟨true, l306, _, LN, sat_some h, rfl⟩
 rintro _ ⟨q226, l227, _, rfl, h, rfl⟩
 replace h := hrR229 _ h
 refine kc h (fun h => ?_) fun h => ?_
 exact kR [(.sub (.sub (.x 0) 5211) 0)] (ND 2) (hQ _ _ LN (sat_some h))
 refine kL [(.x 0), (.sub (.sub (.x 0) 5211) 0)] (h1005a_put _ _ _ LN _ _ ?_ (sat_bind h))
 rintro l308 _ rfl h
 obtain ⟨R357, h, hlR357, hrR357⟩ := sat_sbind h
 refine kX (fun σ => ∃ (l355 : LI) (n356 : Nat), n356 = l355.length ∧ R357 (.inr l355) ∧ σ = ⟨[(0, pX 0)], [(.x 0, some (.var [.osl (.sub (.sub (.x 0) 602) 0) 0 n356])), (.sub (.sub (.x 0) 602) 0, some (.row false .u8 l355))]⟩) ?_ ?_
 intro hl358
 refine kX (fun σ n => ∃ (rem382 : List Ln) (j381 : Nat) (z : Int) (l385 : LI) (n386 : Nat), n = rem382.length ∧ ks14.drop j381 = rem382 ∧ z = ((j381 : Nat) : Int) ∧ n386 = l385.length ∧ sat (f1103_rest_L10 self1018a_lens rem382 j381 l385) R357 ∧ σ.keep [0, 77, 78, 79] [(.x 0), (.sub (.sub (.x 0) 602) 0)] = ⟨[(0, pX 0), (77, .c (.isl .lens ks14)), (78, iD ((ks14.length : Nat) : Int)), (79, iD z)], [(.x 0, some (.var [.osl (.sub (.sub (.x 0) 602) 0) 0 n386])), (.sub (.sub (.x 0) 602) 0, some (.row false .u8 l385))]⟩) ⟨_, ks14, 0, _, l308, _, rfl, rfl, rfl, LN, h, rfl⟩ ?_
 rintro σ n ⟨rem382, j381, _, l385, _, rfl, hrem382, rfl, rfl, h, hσ⟩
 refine kk hσ ?_
 intro t387 (ht387 : t387 = decide (((j381 : Nat) : Int) < ((ks14.length : Nat) : Int)))
 cases t387
 obtain rfl := ll_nil hrem382 ht387
 rw [f1103_rest_L10] at h
 conv => whnf
 exact ⟨l385, _, LN, sat_some h, rfl⟩
 obtain ⟨x384, tl383, rfl, hx384, htl383⟩ := ll_cons hrem382 ht387
 obtain ⟨op388, nm389, to390, ns391, n392, lo393, hi394, sep395, ⟨k396, n397, s398, f399⟩, prs400, ks401⟩ := x384
 rw [f1103_rest_L10] at h
 conv => whnf
 refine ⟨lx_bd hx384, fun uu402 huu402 => ?_⟩
 obtain rfl := lx_eq hx384 huu402
 refine kL [(.x 0), (.sub (.sub (.x 0) 602) 0)] (h1018a_lens _ _ _ _ _ _ _ _ _ _ _ _ _ _ _ _ LN _ _ ?_ (sat_bind h))
 rintro l403 _ rfl h
 conv => whnf
 exact ⟨tl383.length, nls, tl383, j381 + 1, _, l403, _, rfl, htl383, lx_wr hx384 hl358, LN, h, rfl⟩
 rintro _ ⟨l355, _, rfl, h, rfl⟩
 replace h := hrR357 _ h
 refine kL [(.x 0), (.sub (.sub (.x 0) 602) 0)] (h1005a_put _ _ _ LN _ _ ?_ (sat_bind h))
 rintro l404 _ rfl h
 exact kR [(.sub (.s 89) 0)] (ND 2) (hQ _ _ LN (sat_some h))
theorem w1018a_lens {O : Oracle TT} (self1103_rest : Ln → Bool → Bool → Bool → Bool → Bool → Bool → Bool → Bool → Int → LI → Option (LI)) (h144_table : C144_table O f144_table) (h1019_word : C1019_word O f1019_word) (h1022_Itoa : C1022_Itoa O f1022_Itoa) (h1005a_put : C1005a_put O f1005a_put) (h1103_rest : C1103_rest O self1103_rest) : C1018a_lens (fun _ => vcF (S := SS) O j1018a_lens) (b1018a_lens self1103_rest) := by
 intro op1 nm2 to3 ns4 n5 lo6 hi7 sep8 k9 n10 s11 f12 prs13 ks14 r15 n0 en0 Q R hQ h
 subst en0
 unfold b1018a_lens at h
 refine ⟨nle rfl, rfl, ?_⟩
 refine kL [] (h1019_word _ _ _ ?_ (sat_bind h))
 rintro s16 h
 refine kL [(.x 0), (.x 1)] (h1005a_put _ _ _ LN _ _ ?_ (sat_bind h))
 rintro l17 _ rfl h
 refine kL [] (h144_table _ _ _ ?_ (sat_bind h))
 rintro q18 q19 q20 q21 q22 q23 q24 q25 v26 h
 obtain ⟨R33, h, hlR33, hrR33⟩ := sat_sbind h
 refine kX (fun σ => ∃ (q30 : Bool) (l31 : LI) (n32 : Nat), n32 = l31.length ∧ R33 (.inr (q30, l31)) ∧ σ = ⟨[(0, pX 0), (3, pS 3), (4, pS 4)], [(.x 0, some (.var [.osl (.sub (.sub (.x 0) 5341) 0) 0 n32])), (.s 3, some (.var [ci op1, .str nm2, .str to3, .isl .str ns4, ci n5, ci lo6, ci hi7, .int .u8 sep8, ci k9, ci n10, .str s11, .isl .fld f12, .isl .two prs13, .isl .lens ks14])), (.s 4, some (.var [.bool q30, .bool q19, .bool q20, .bool q21, .bool q22, .bool q23, .bool q24, .bool q25, ci v26])), (.sub (.sub (.x 0) 5341) 0, some (.row false .u8 l31))]⟩) ?_ ?_
 cases q18
 replace h := sat_cf h
 conv => whnf
 exact ⟨false, l17, _, LN, sat_some h, rfl⟩
 replace h := sat_ct h
 refine kc h (fun h => ?_) fun h => ?_
 refine kL [(.x 0), (.sub (.s 10) 0)] (h1005a_put _ _ _ LN _ _ ?_ (sat_bind h))
 rintro l35 _ rfl h
 conv => whnf
 exact ⟨true, l35, _, LN, sat_some h, rfl⟩
 refine kL [(.x 0), (.sub (.s 10) 0)] (h1005a_put _ _ _ LN _ _ ?_ (sat_bind h))
 rintro l36 _ rfl h
 conv => whnf
 exact ⟨true, l36, _, LN, sat_some h, rfl⟩
 rintro _ ⟨q30, l31, _, rfl, h, rfl⟩
 replace h := hrR33 _ h
 obtain ⟨R41, h, hlR41, hrR41⟩ := sat_sbind h
 refine kX (fun σ => ∃ (q38 : Bool) (l39 : LI) (n40 : Nat), n40 = l39.length ∧ R41 (.inr (q38, l39)) ∧ σ = ⟨[(0, pX 0), (3, pS 3), (4, pS 4)], [(.x 0, some (.var [.osl (.sub (.sub (.x 0) 5340) 0) 0 n40])), (.s 3, some (.var [ci op1, .str nm2, .str to3, .isl .str ns4, ci n5, ci lo6, ci hi7, .int .u8 sep8, ci k9, ci n10, .str s11, .isl .fld f12, .isl .two prs13, .isl .lens ks14])), (.s 4, some (.var [.bool q30, .bool q38, .bool q20, .bool q21, .bool q22, .bool q23, .bool q24, .bool q25, ci v26])), (.sub (.sub (.x 0) 5340) 0, some (.row false .u8 l39))]⟩) ?_ ?_
 cases q19
 replace h := sat_cf h
 conv => whnf
 exact ⟨false, l31, _, LN, sat_some h, rfl⟩
 replace h := sat_ct h
 refine kL [(.x 0), (.sub (.sub (.x 0) 5341) 0)] (h1005a_put _ _ _ LN _ _ ?_ (sat_bind h))
 rintro l42 _ rfl h
 conv => whnf
 exact ⟨true, l42, _, LN, sat_some h, rfl⟩
 rintro _ ⟨q38, l39, _, rfl, h, rfl⟩
 replace h := hrR41 _ h
 obtain ⟨R48, h, hlR48, hrR48⟩ := sat_sbind h
 refine kX (fun σ => ∃ (q45 : Bool) (l46 : LI) (n47 : Nat), n47 = l46.length ∧ R48 (.inr (q45, l46)) ∧ σ = ⟨[(0, pX 0), (3, pS 3), (4, pS 4)], [(.x 0, some (.var [.osl (.sub (.sub (.x 0) 5339) 0) 0 n47])), (.s 3, some (.var [ci op1, .str nm2, .str to3, .isl .str ns4, ci n5, ci lo6, ci hi7, .int .u8 sep8, ci k9, ci n10, .str s11, .isl .fld f12, .isl .two prs13, .isl .lens ks14])), (.s 4, some (.var [.bool q30, .bool q38, .bool q20, .bool q45, .bool q22, .bool q23, .bool q24, .bool q25, ci v26])), (.sub (.sub (.x 0) 5339) 0, some (.row false .u8 l46))]⟩) ?_ ?_
 cases q21
 replace h := sat_cf h
 conv => whnf
 exact ⟨false, l39, _, LN, sat_some h, rfl⟩
 replace h := sat_ct h
 refine kL [] (h1022_Itoa _ _ _ ?_ (sat_bind h))
 rintro s49 h
 refine kL [(.x 0), (.sub (.sub (.x 0) 5340) 0)] (h1005a_put _ _ _ LN _ _ ?_ (sat_bind h))
 rintro l50 _ rfl h
 conv => whnf
 exact ⟨true, l50, _, LN, sat_some h, rfl⟩
 rintro _ ⟨q45, l46, _, rfl, h, rfl⟩
 replace h := hrR48 _ h
 obtain ⟨R57, h, hlR57, hrR57⟩ := sat_sbind h
 refine kX (fun σ => ∃ (q54 : Bool) (l55 : LI) (n56 : Nat), n56 = l55.length ∧ R57 (.inr (q54, l55)) ∧ σ = ⟨[(0, pX 0), (3, pS 3), (4, pS 4)], [(.x 0, some (.var [.osl (.sub (.sub (.x 0) 5338) 0) 0 n56])), (.s 3, some (.var [ci op1, .str nm2, .str to3, .isl .str ns4, ci n5, ci lo6, ci hi7, .int .u8 sep8, ci k9, ci n10, .str s11, .isl .fld f12, .isl .two prs13, .isl .lens ks14])), (.s 4, some (.var [.bool q30, .bool q38, .bool q20, .bool q45, .bool q54, .bool q23, .bool q24, .bool q25, ci v26])), (.sub (.sub (.x 0) 5338) 0, some (.row false .u8 l55))]⟩) ?_ ?_
 cases q22
 replace h := sat_cf h
 conv => whnf
 exact ⟨false, l46, _, LN, sat_some h, rfl⟩
 replace h := sat_ct h
 refine kL [] (h1022_Itoa _ _ _ ?_ (sat_bind h))
 rintro s58 h
 refine kL [] (h1022_Itoa _ _ _ ?_ (sat_bind h))
 rintro s59 h
 refine kL [(.x 0), (.sub (.sub (.x 0) 5339) 0)] (h1005a_put _ _ _ LN _ _ ?_ (sat_bind h))
 rintro l60 _ rfl h
 conv => whnf
 exact ⟨true, l60, _, LN, sat_some h, rfl⟩
 rintro _ ⟨q54, l55, _, rfl, h, rfl⟩
 replace h := hrR57 _ h
 cases q23
 replace h := sat_cf h
 refine kL [(.x 0), (.sub (.sub (.x 0) 5338) 0)] (h1103_rest _ _ _ _ _ _ _ _ _ _ _ _ _ _ _ _ _ _ _ _ _ _ _ _ _ LN _ _ ?_ (sat_bind h))
 rintro l61 _ rfl h
 exact kR [(.sub (.s 65) 0)] (ND 2) (hQ _ _ LN (sat_some h))
 replace h := sat_ct h
 refine kL [] (h1022_Itoa _ _ _ ?_ (sat_bind h))
 rintro s62 h
 refine kL [(.x 0), (.sub (.sub (.x 0) 5338) 0)] (h1005a_put _ _ _ LN _ _ ?_ (sat_bind h))
 rintro l63 _ rfl h
 refine kL [(.x 0), (.sub (.s 61) 0)] (h1103_rest _ _ _ _ _ _ _ _ _ _ _ _ _ _ _ _ _ _ _ _ _ _ _ _ _ LN _ _ ?_ (sat_bind h))
 rintro l64 _ rfl h
 exact kR [(.sub (.s 65) 0)] (ND 2) (hQ _ _ LN (sat_some h))
theorem cg1103_rest {P : Program} {fid : Nat → FuncId} (mx : MX P) (k1103_rest : KF P fid 1103 j1103_rest) (k1018a_lens : KF P fid 1018 j1018a_lens) (h1006_quote : C1006_quote (SP P fid) f1006_quote) (h1005a_put : C1005a_put (SP P fid) f1005a_put) (h1104_value : ∀ n, C1104_value (SP P fid) (f1104_value n)) (h144_table : C144_table (SP P fid) f144_table) (h1019_word : C1019_word (SP P fid) f1019_word) (h1022_Itoa : C1022_Itoa (SP P fid) f1022_Itoa) : ∀ n, C1103_rest (SP P fid) (f1103_rest n) ∧ C1018a_lens (SP P fid) (f1018a_lens n) := by
 intro n
 induction n with
 | zero => exact ⟨fun a0 a1 a2 a3 a4 a5 a6 a7 a8 a9 a10 a11 a12 a13 a14 a15 a16 a17 a18 a19 a20 a21 a22 a23 n0 e0 Q R hQ h => (sat_none h).elim, fun a0 a1 a2 a3 a4 a5 a6 a7 a8 a9 a10 a11 a12 a13 a14 n0 e0 Q R hQ h => (sat_none h).elim⟩
 | succ n ih =>
  obtain ⟨ih0, ih1⟩ := ih
  exact ⟨fun a0 a1 a2 a3 a4 a5 a6 a7 a8 a9 a10 a11 a12 a13 a14 a15 a16 a17 a18 a19 a20 a21 a22 a23 n0 e0 Q R hQ h => spec_of_vc mx k1103_rest (w1103_rest n (f1018a_lens n) h1006_quote h1005a_put (h1104_value n) ih1 a0 a1 a2 a3 a4 a5 a6 a7 a8 a9 a10 a11 a12 a13 a14 a15 a16 a17 a18 a19 a20 a21 a22 a23 n0 e0 Q R hQ h), fun a0 a1 a2 a3 a4 a5 a6 a7 a8 a9 a10 a11 a12 a13 a14 n0 e0 Q R hQ h => spec_of_vc mx k1018a_lens (w1018a_lens (f1103_rest n) h144_table h1019_word h1022_Itoa h1005a_put ih0 a0 a1 a2 a3 a4 a5 a6 a7 a8 a9 a10 a11 a12 a13 a14 n0 e0 Q R hQ h)⟩
theorem c1103_rest {P : Program} {fid : Nat → FuncId} (mx : MX P) (k1103_rest : KF P fid 1103 j1103_rest) (k1018a_lens : KF P fid 1018 j1018a_lens) (h1006_quote : C1006_quote (SP P fid) f1006_quote) (h1005a_put : C1005a_put (SP P fid) f1005a_put) (h1104_value : ∀ n, C1104_value (SP P fid) (f1104_value n)) (h144_table : C144_table (SP P fid) f144_table) (h1019_word : C1019_word (SP P fid) f1019_word) (h1022_Itoa : C1022_Itoa (SP P fid) f1022_Itoa) : ∀ n, C1103_rest (SP P fid) (f1103_rest n) := fun n => (cg1103_rest mx k1103_rest k1018a_lens h1006_quote h1005a_put h1104_value h144_table h1019_word h1022_Itoa n).1
def f1018_lens (fuel : Nat) : Ln → Option (LI)
 | .mk op1 nm2 to3 ns4 n5 lo6 hi7 sep8 (.mk k9 n10 s11 f12) prs13 ks14 => (f1019_word op1).bind fun s15 => (f1005_put ([s15] : LB)).bind fun l16 => (f144_table op1).bind fun (q17, q18, q19, q20, q21, q22, q23, q24, v25) => sbind (ο := Bool × LI) (cond q17 (cond (nm2.toList == (⟨#[]⟩ : BA).toList) ((f1005a_put ([(⟨#[45]⟩ : BA)] : LB) l16).bind fun l35 => some (.inr (true, l35))) ((f1005a_put ([nm2] : LB) l16).bind fun l34 => some (.inr (true, l34)))) (some (.inr (false, l16)))) (fun (q29, l30) => sbind (ο := Bool × LI) (cond q18 ((f1005a_put ([to3] : LB) l30).bind fun l41 => some (.inr (true, l41))) (some (.inr (false, l30)))) (fun (q37, l38) => sbind (ο := Bool × LI) (cond q20 ((f1022_Itoa n5).bind fun s48 => (f1005a_put ([s48] : LB) l38).bind fun l49 => some (.inr (true, l49))) (some (.inr (false, l38)))) (fun (q44, l45) => sbind (ο := Bool × LI) (cond q21 ((f1022_Itoa lo6).bind fun s57 => (f1022_Itoa hi7).bind fun s58 => (f1005a_put ([s57, s58] : LB) l45).bind fun l59 => some (.inr (true, l59))) (some (.inr (false, l45)))) (fun (q53, l54) => cond q22 ((f1022_Itoa (wrap .i64 sep8)).bind fun s61 => (f1005a_put ([s61] : LB) l54).bind fun l62 => (f1103_rest fuel (Ln.mk op1 nm2 to3 ns4 n5 lo6 hi7 sep8 (V.mk k9 n10 s11 f12) prs13 ks14) q29 q37 q19 q44 q53 true q23 q24 v25 l62).bind fun l63 => some l63) ((f1103_rest fuel (Ln.mk op1 nm2 to3 ns4 n5 lo6 hi7 sep8 (V.mk k9 n10 s11 f12) prs13 ks14) q29 q37 q19 q44 q53 false q23 q24 v25 l54).bind fun l60 => some l60)))))
def C1018_lens (O : Oracle TT) (m : Ln → Option (LI)) : Prop :=
 ∀ (op1 : Int) (nm2 : BA) (to3 : BA) (ns4 : LB) (n5 : Int) (lo6 : Int) (hi7 : Int) (sep8 : Int) (k9 : Int) (n10 : Int) (s11 : BA) (f12 : FV) (prs13 : LW) (ks14 : List Ln) (Q : LI → Prop) (R : RR) (_ : ∀ (l64 : LI) (n0r : Nat) (_ : n0r = l64.length), Q l64 → R (.tup []) [(.x 0, some (.var [.osl (.x 1) 0 n0r])), (.x 1, some (.row false .u8 l64))]) (_ : sat (m (Ln.mk op1 nm2 to3 ns4 n5 lo6 hi7 sep8 (V.mk k9 n10 s11 f12) prs13 ks14)) Q), O 1018 [pX 0, .agg [ci op1, .str nm2, .str to3, .isl .str ns4, ci n5, ci lo6, ci hi7, .int .u8 sep8, ci k9, ci n10, .str s11, .isl .fld f12, .isl .two prs13, .isl .lens ks14]] [(.x 0, some (.var [.nils]))] R
def j1018_lens : Fn TT := ⟨66, [], (.seq (.reg [qo 3 (.box 3 1)]) (.seq (.reg [qo 5 (.mv 0),qo 6 (.fa 3 0),qo 7 (.load 6 1 false),qo 8 (.call 8 1019 [7]),qo 9 (.bsl .str [8]),qo 10 (.call 10 1005 [5, 9])]) (.seq (.reg [qo 11 (.fa 3 0),qo 12 (.load 11 1 false),qo 13 (.call 13 144 [12]),
 qo 4 (.alloc 4 [.bool false, .bool false, .bool false, .bool false, .bool false, .bool false, .bool false, .bool false, .int .i64 0]),qp (.store 4 13 9)]) (.cut [0, 3, 4] [(.x 0), (.s 3), (.s 4), (.sub (.sub (.x 0) 5079) 0)] (.aft (.seq (.reg [qo 14 (.fa 4 0),qo 15 (.load 14 1 false)]) (.cond 15 (.seq (.reg [qo 16 (.fa 3 1),qo 17 (.load 16 1 false),qo 18 (.bin .eql .str 17 sE)]) (.cond 18
 (.reg [qo 19 (.mv 0),qo 20 (.bsl .str [(.c (.str (⟨#[45]⟩ : BA)))]),qo 21 (.call 21 1005 [19, 20])]) (.reg [qo 22 (.mv 0),qo 23 (.fa 3 1),qo 24 (.load 23 1 false),qo 25 (.bsl .str [24]),qo 26 (.call 26 1005 [22, 25])]))) .skip)) [.ownc (.x 0) 0 .u8 (.sub (.sub (.x 0) 5079) 0)]) (.cut [0, 3, 4] [(.x 0), (.s 3), (.s 4), (.sub (.sub (.x 0) 5078) 0)] (.aft (.seq (.reg [qo 27 (.fa 4 1),
 qo 28 (.load 27 1 false)]) (.cond 28 (.reg [qo 29 (.mv 0),qo 30 (.fa 3 2),qo 31 (.load 30 1 false),qo 32 (.bsl .str [31]),qo 33 (.call 33 1005 [29, 32])]) .skip)) [.ownc (.x 0) 0 .u8 (.sub (.sub (.x 0) 5078) 0)]) (.cut [0, 3, 4] [(.x 0), (.s 3), (.s 4), (.sub (.sub (.x 0) 5077) 0)] (.aft (.seq (.reg [qo 34 (.fa 4 3),qo 35 (.load 34 1 false)]) (.cond 35 (.reg [qo 36 (.mv 0),qo 37 (.fa 3 4),
 qo 38 (.load 37 1 false),qo 39 (.call 39 1022 [38]),qo 40 (.bsl .str [39]),qo 41 (.call 41 1005 [36, 40])]) .skip)) [.ownc (.x 0) 0 .u8 (.sub (.sub (.x 0) 5077) 0)]) (.cut [0, 3, 4] [(.x 0), (.s 3), (.s 4), (.sub (.sub (.x 0) 5076) 0)] (.aft (.seq (.reg [qo 42 (.fa 4 4),qo 43 (.load 42 1 false)]) (.cond 43
 (.drw [(.x 0), (.sub (.sub (.x 0) 5077) 0)] (ol [0, 1, 2, 4, 5, 3, 6, 7, 8]) [] [0, 1, 2, 4, 5] [qo 44 (.mv 0),qo 45 (.fa 3 5),qo 46 (.load 45 1 false),qo 47 (.call 47 1022 [46]),qo 48 (.fa 3 6),qo 49 (.load 48 1 false),qo 50 (.call 50 1022 [49]),qo 51 (.bsl .str [47, 50]),qo 52 (.call 52 1005 [44, 51])]) .skip)) [.ownc (.x 0) 0 .u8 (.sub (.sub (.x 0) 5076) 0)]) (.seq (.seq
 (.reg [qo 53 (.fa 4 5),qo 54 (.load 53 1 false)]) (.cond 54 (.reg [qo 55 (.mv 0),qo 56 (.fa 3 7),qo 57 (.load 56 1 false),qo 58 (.conv .i64 57),qo 59 (.call 59 1022 [58]),qo 60 (.bsl .str [59]),qo 61 (.call 61 1005 [55, 60])]) .skip)) (.reg [qo 62 (.mv 0),qo 63 (.load 3 14 true),qo 64 (.load 4 9 true),qo 65 (.call 65 1103 [62, 63, 64])])))))))))⟩
theorem w1018_lens {O : Oracle TT} (fuel : Nat) (h144_table : C144_table O f144_table) (h1019_word : C1019_word O f1019_word) (h1022_Itoa : C1022_Itoa O f1022_Itoa) (h1005_put : C1005_put O f1005_put) (h1005a_put : C1005a_put O f1005a_put) (h1103_rest : C1103_rest O (f1103_rest fuel)) : C1018_lens (fun _ => vcF (S := SS) O j1018_lens) (f1018_lens fuel) := by
 intro op1 nm2 to3 ns4 n5 lo6 hi7 sep8 k9 n10 s11 f12 prs13 ks14 Q R hQ h
 unfold f1018_lens at h
 refine ⟨nle rfl, rfl, ?_⟩
 refine kL [] (h1019_word _ _ _ ?_ (sat_bind h))
 rintro s15 h
 refine kL [(.x 0)] (h1005_put _ _ _ ?_ (sat_bind h))
 rintro l16 _ rfl h
 refine kL [] (h144_table _ _ _ ?_ (sat_bind h))
 rintro q17 q18 q19 q20 q21 q22 q23 q24 v25 h
 obtain ⟨R32, h, hlR32, hrR32⟩ := sat_sbind h
 refine kX (fun σ => ∃ (q29 : Bool) (l30 : LI) (n31 : Nat), n31 = l30.length ∧ R32 (.inr (q29, l30)) ∧ σ = ⟨[(0, pX 0), (3, pS 3), (4, pS 4)], [(.x 0, some (.var [.osl (.sub (.sub (.x 0) 5079) 0) 0 n31])), (.s 3, some (.var [ci op1, .str nm2, .str to3, .isl .str ns4, ci n5, ci lo6, ci hi7, .int .u8 sep8, ci k9, ci n10, .str s11, .isl .fld f12, .isl .two prs13, .isl .lens ks14])), (.s 4, some (.var [.bool q29, .bool q18, .bool q19, .bool q20, .bool q21, .bool q22, .bool q23, .bool q24, ci v25])), (.sub (.sub (.x 0) 5079) 0, some (.row false .u8 l30))]⟩) ?_ ?_
 cases q17
 replace h := sat_cf h
 conv => whnf
 exact ⟨false, l16, _, LN, sat_some h, rfl⟩
 replace h := sat_ct h
 refine kc h (fun h => ?_) fun h => ?_
 refine kL [(.x 0), (.sub (.s 10) 0)] (h1005a_put _ _ _ LN _ _ ?_ (sat_bind h))
 rintro l34 _ rfl h
 conv => whnf
 exact ⟨true, l34, _, LN, sat_some h, rfl⟩
 refine kL [(.x 0), (.sub (.s 10) 0)] (h1005a_put _ _ _ LN _ _ ?_ (sat_bind h))
 rintro l35 _ rfl h
 conv => whnf
 exact ⟨true, l35, _, LN, sat_some h, rfl⟩
 rintro _ ⟨q29, l30, _, rfl, h, rfl⟩
 replace h := hrR32 _ h
 obtain ⟨R40, h, hlR40, hrR40⟩ := sat_sbind h
 refine kX (fun σ => ∃ (q37 : Bool) (l38 : LI) (n39 : Nat), n39 = l38.length ∧ R40 (.inr (q37, l38)) ∧ σ = ⟨[(0, pX 0), (3, pS 3), (4, pS 4)], [(.x 0, some (.var [.osl (.sub (.sub (.x 0) 5078) 0) 0 n39])), (.s 3, some (.var [ci op1, .str nm2, .str to3, .isl .str ns4, ci n5, ci lo6, ci hi7, .int .u8 sep8, ci k9, ci n10, .str s11, .isl .fld f12, .isl .two prs13, .isl .lens ks14])), (.s 4, some (.var [.bool q29, .bool q37, .bool q19, .bool q20, .bool q21, .bool q22, .bool q23, .bool q24, ci v25])), (.sub (.sub (.x 0) 5078) 0, some (.row false .u8 l38))]⟩) ?_ ?_
 cases q18
 replace h := sat_cf h
 conv => whnf
 exact ⟨false, l30, _, LN, sat_some h, rfl⟩
 replace h := sat_ct h
 refine kL [(.x 0), (.sub (.sub (.x 0) 5079) 0)] (h1005a_put _ _ _ LN _ _ ?_ (sat_bind h))
 rintro l41 _ rfl h
 conv => whnf
 exact ⟨true, l41, _, LN, sat_some h, rfl⟩
 rintro _ ⟨q37, l38, _, rfl, h, rfl⟩
 replace h := hrR40 _ h
 obtain ⟨R47, h, hlR47, hrR47⟩ := sat_sbind h
 refine kX (fun σ => ∃ (q44 : Bool) (l45 : LI) (n46 : Nat), n46 = l45.length ∧ R47 (.inr (q44, l45)) ∧ σ = ⟨[(0, pX 0), (3, pS 3), (4, pS 4)], [(.x 0, some (.var [.osl (.sub (.sub (.x 0) 5077) 0) 0 n46])), (.s 3, some (.var [ci op1, .str nm2, .str to3, .isl .str ns4, ci n5, ci lo6, ci hi7, .int .u8 sep8, ci k9, ci n10, .str s11, .isl .fld f12, .isl .two prs13, .isl .lens ks14])), (.s 4, some (.var [.bool q29, .bool q37, .bool q19, .bool q44, .bool q21, .bool q22, .bool q23, .bool q24, ci v25])), (.sub (.sub (.x 0) 5077) 0, some (.row false .u8 l45))]⟩) ?_ ?_
 cases q20
 replace h := sat_cf h
 conv => whnf
 exact ⟨false, l38, _, LN, sat_some h, rfl⟩
 replace h := sat_ct h
 refine kL [] (h1022_Itoa _ _ _ ?_ (sat_bind h))
 rintro s48 h
 refine kL [(.x 0), (.sub (.sub (.x 0) 5078) 0)] (h1005a_put _ _ _ LN _ _ ?_ (sat_bind h))
 rintro l49 _ rfl h
 conv => whnf
 exact ⟨true, l49, _, LN, sat_some h, rfl⟩
 rintro _ ⟨q44, l45, _, rfl, h, rfl⟩
 replace h := hrR47 _ h
 obtain ⟨R56, h, hlR56, hrR56⟩ := sat_sbind h
 refine kX (fun σ => ∃ (q53 : Bool) (l54 : LI) (n55 : Nat), n55 = l54.length ∧ R56 (.inr (q53, l54)) ∧ σ = ⟨[(0, pX 0), (3, pS 3), (4, pS 4)], [(.x 0, some (.var [.osl (.sub (.sub (.x 0) 5076) 0) 0 n55])), (.s 3, some (.var [ci op1, .str nm2, .str to3, .isl .str ns4, ci n5, ci lo6, ci hi7, .int .u8 sep8, ci k9, ci n10, .str s11, .isl .fld f12, .isl .two prs13, .isl .lens ks14])), (.s 4, some (.var [.bool q29, .bool q37, .bool q19, .bool q44, .bool q53, .bool q22, .bool q23, .bool q24, ci v25])), (.sub (.sub (.x 0) 5076) 0, some (.row false .u8 l54))]⟩) ?_ ?_
 cases q21
 replace h := sat_cf h
 conv => whnf
 exact ⟨false, l45, _, LN, sat_some h, rfl⟩
 replace h := sat_ct h
 refine kL [] (h1022_Itoa _ _ _ ?_ (sat_bind h))
 rintro s57 h
 refine kL [] (h1022_Itoa _ _ _ ?_ (sat_bind h))
 rintro s58 h
 refine kL [(.x 0), (.sub (.sub (.x 0) 5077) 0)] (h1005a_put _ _ _ LN _ _ ?_ (sat_bind h))
 rintro l59 _ rfl h
 conv => whnf
 exact ⟨true, l59, _, LN, sat_some h, rfl⟩
 rintro _ ⟨q53, l54, _, rfl, h, rfl⟩
 replace h := hrR56 _ h
 cases q22
 replace h := sat_cf h
 refine kL [(.x 0), (.sub (.sub (.x 0) 5076) 0)] (h1103_rest _ _ _ _ _ _ _ _ _ _ _ _ _ _ _ _ _ _ _ _ _ _ _ _ _ LN _ _ ?_ (sat_bind h))
 rintro l60 _ rfl h
 exact kR [(.sub (.s 65) 0)] (ND 1) (hQ _ _ LN (sat_some h))
 replace h := sat_ct h
 refine kL [] (h1022_Itoa _ _ _ ?_ (sat_bind h))
 rintro s61 h
 refine kL [(.x 0), (.sub (.sub (.x 0) 5076) 0)] (h1005a_put _ _ _ LN _ _ ?_ (sat_bind h))
 rintro l62 _ rfl h
 refine kL [(.x 0), (.sub (.s 61) 0)] (h1103_rest _ _ _ _ _ _ _ _ _ _ _ _ _ _ _ _ _ _ _ _ _ _ _ _ _ LN _ _ ?_ (sat_bind h))
 rintro l63 _ rfl h
 exact kR [(.sub (.s 65) 0)] (ND 1) (hQ _ _ LN (sat_some h))
theorem c1018_lens {P : Program} {fid : Nat → FuncId} (mx : MX P) (k1018_lens : KF P fid 1018 j1018_lens) (h144_table : C144_table (SP P fid) f144_table) (h1019_word : C1019_word (SP P fid) f1019_word) (h1022_Itoa : C1022_Itoa (SP P fid) f1022_Itoa) (h1005_put : C1005_put (SP P fid) f1005_put) (h1005a_put : C1005a_put (SP P fid) f1005a_put) (h1103_rest : ∀ n, C1103_rest (SP P fid) (f1103_rest n)) : ∀ n, C1018_lens (SP P fid) (f1018_lens n) :=
 fun n => fun a0 a1 a2 a3 a4 a5 a6 a7 a8 a9 a10 a11 a12 a13 Q R hQ h => spec_of_vc mx k1018_lens (w1018_lens n h144_table h1019_word h1022_Itoa h1005_put h1005a_put (h1103_rest n) a0 a1 a2 a3 a4 a5 a6 a7 a8 a9 a10 a11 a12 a13 Q R hQ h)
def f1017_Text (fuel : Nat) : Ln → Option (BA × Int)
 | .mk op1 nm2 to3 ns4 n5 lo6 hi7 sep8 (.mk k9 n10 s11 f12) prs13 ks14 => (f70_Check fuel (Ln.mk op1 nm2 to3 ns4 n5 lo6 hi7 sep8 (V.mk k9 n10 s11 f12) prs13 ks14)).bind fun v15 => cond (v15 != 0) (some ((⟨#[]⟩ : BA), v15)) ((f1018_lens fuel (Ln.mk op1 nm2 to3 ns4 n5 lo6 hi7 sep8 (V.mk k9 n10 s11 f12) prs13 ks14)).bind fun l17 => cond (decide (((l17.length : Nat) : Int) > 4000)) (some ((⟨#[]⟩ : BA), 2)) (some ((strOfNums l17), 0)))
def C1017_Text (O : Oracle TT) (m : Ln → Option (BA × Int)) : Prop :=
 ∀ (op1 : Int) (nm2 : BA) (to3 : BA) (ns4 : LB) (n5 : Int) (lo6 : Int) (hi7 : Int) (sep8 : Int) (k9 : Int) (n10 : Int) (s11 : BA) (f12 : FV) (prs13 : LW) (ks14 : List Ln) (Q : (BA × Int) → Prop) (R : RR) (_ : ∀ (s20 : BA) (v21 : Int), Q (s20, v21) → R (.tup [sD s20, iD v21]) []) (_ : sat (m (Ln.mk op1 nm2 to3 ns4 n5 lo6 hi7 sep8 (V.mk k9 n10 s11 f12) prs13 ks14)) Q), O 1017 [.agg [ci op1, .str nm2, .str to3, .isl .str ns4, ci n5, ci lo6, ci hi7, .int .u8 sep8, ci k9, ci n10, .str s11, .isl .fld f12, .isl .two prs13, .isl .lens ks14]] [] R
def j1017_Text : Fn TT := ⟨20, [.t 2, .t 3], (.seq (.reg [qo 1 (.box 1 0),qo 2 (.mv sE),qo 3 (.mv (iC 0))]) (.seq (.seq (.reg [qo 6 (.load 1 14 true),qo 7 (.call 7 70 [6]),qo 4 (.mv 7)]) (.seq (.reg [qo 8 (.mv 4),qo 9 (.bin .neq .num 8 (iC 0))]) (.cond 9 (.seq (.reg [qo 10 (.mv 4),qo 2 (.mv sE),qo 3 (.mv 10)]) .ret) .skip))) (.seq (.reg [qo 5 (.alloc 5 [.nils])]) (.seq
 (.reg [qo 11 (.load 1 14 true),qo 12 (.call 12 1018 [5, 11])]) (.seq (.seq (.reg [qo 13 (.fa 5 0),qo 14 (.load 13 1 false),qo 15 (.len false 14),qo 16 (.bin .gtr .num 15 (iC 4000))]) (.cond 16 (.seq (.reg [qo 2 (.mv sE),qo 3 (.mv (iC 2))]) .ret) .skip)) (.seq (.pre [.frz 14 0 .u8, .frzc (.s 5) 0 .u8] (.reg [qo 17 (.fa 5 0),qo 18 (.load 17 1 false),qo 19 (.b2s 18),qo 2 (.mv 19),
 qo 3 (.mv (iC 0))])) .ret))))))⟩
theorem w1017_Text {O : Oracle TT} (fuel : Nat) (h70_Check : C70_Check O (f70_Check fuel)) (h1018_lens : C1018_lens O (f1018_lens fuel)) : C1017_Text (fun _ => vcF (S := SS) O j1017_Text) (f1017_Text fuel) := by
 intro op1 nm2 to3 ns4 n5 lo6 hi7 sep8 k9 n10 s11 f12 prs13 ks14 Q R hQ h
 unfold f1017_Text at h
 refine ⟨nle rfl, rfl, ?_⟩
 refine kL [] (h70_Check _ _ _ _ _ _ _ _ _ _ _ _ _ _ _ _ ?_ (sat_bind h))
 rintro v15 h
 refine kc h (fun h => ?_) fun h => ?_
 refine kL [(.s 5)] (h1018_lens _ _ _ _ _ _ _ _ _ _ _ _ _ _ _ _ ?_ (sat_bind h))
 rintro l17 _ rfl h
 intro hl18
 refine kc h (fun h => ?_) fun h => ?_
 conv => whnf
 refine ⟨LN, ?_⟩
 conv => whnf
 refine ⟨LN, ?_⟩
 conv => whnf
 refine ⟨l17, rfl, ?_⟩
 exact kR [] (ND 0) (hQ _ _ (sat_some h))
 exact kR [] (ND 0) (hQ _ _ (sat_some h))
 exact kR [] (ND 0) (hQ _ _ (sat_some h))
theorem c1017_Text {P : Program} {fid : Nat → FuncId} (mx : MX P) (k1017_Text : KF P fid 1017 j1017_Text) (h70_Check : ∀ n, C70_Check (SP P fid) (f70_Check n)) (h1018_lens : ∀ n, C1018_lens (SP P fid) (f1018_lens n)) : ∀ n, C1017_Text (SP P fid) (f1017_Text n) :=
 fun n => fun a0 a1 a2 a3 a4 a5 a6 a7 a8 a9 a10 a11 a12 a13 Q R hQ h => spec_of_vc mx k1017_Text (w1017_Text n (h70_Check n) (h1018_lens n) a0 a1 a2 a3 a4 a5 a6 a7 a8 a9 a10 a11 a12 a13 Q R hQ h)
end Go.Clap
