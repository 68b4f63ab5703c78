/- PRINTED by gm.py: small code, models, and that the code meets the models. -/
import Derived.Test.YtnielhfaioakkaaClapG0
set_option linter.unusedVariables false
set_option linter.unusedSimpArgs false
set_option maxHeartbeats 4000000
set_option maxRecDepth 100000
namespace Go.Clap
open Go.IntKind (wrap)
def f26_Below : Int → Int → Option (Int)
  | v1, v2 => grdP (v2 ≠ 0) (cond (decide ((Int.tmod v1 v2) < 0)) (some (wrap .i64 ((Int.tmod v1 v2) + v2))) (some (Int.tmod v1 v2)))
def C26_Below (O : Oracle TT) (m : Int → Int → Option (Int)) : Prop :=
  ∀ (v1 : Int) (v2 : Int) (Q : Int → Prop) (R : RR) (_ : ∀ (v5 : Int), Q v5 → R (.c (.int .i64 v5)) []) (_ : sat (m v1 v2) Q), O 26 [.c (.int .i64 v1), .c (.int .i64 v2)] [] R
def j26_Below : Fn TT := ⟨14, [.t 4], (.seq (.reg [qo 4 (.mv (iC 0))]) (.seq (.seq (.reg [qo 5 (.mv 0),qo 6 (.mv 1),qo 7 (.bin .rem .num 5 6),qo 0 (.mv 7)]) (.seq (.reg [qo 8 (.mv 0),qo 9 (.bin .lss .num 8 (iC 0))]) (.cond 9 (.reg [qo 10 (.mv 0),qo 11 (.mv 1),qo 12 (.bin .add .num 10 11),qo 0 (.mv 12)]) .skip))) (.seq (.reg [qo 13 (.mv 0),qo 4 (.mv 13)]) .ret)))⟩
theorem w26_Below {O : Oracle TT} : C26_Below (fun _ => vcF (S := SS) O j26_Below) f26_Below := by
 intro v1 v2 Q R hQ h
 unfold f26_Below at h
 refine ⟨nle rfl, rfl, ?_⟩
 conv => whnf
 refine kp h fun hb4 h => ?_
 conv => whnf
 refine kc h (fun h => ?_) fun h => ?_
 conv => whnf
 exact ⟨[], ND 0, hQ _ (sat_some h)⟩
 conv => whnf
 exact ⟨[], ND 0, hQ _ (sat_some h)⟩
theorem c26_Below {P : Program} {fid : Nat → FuncId} (mx : MX P) (k26_Below : KF P fid 26 j26_Below) : C26_Below (SP P fid) f26_Below :=
 fun a0 a1 Q R hQ h => spec_of_vc mx k26_Below (w26_Below a0 a1 Q R hQ h)
def f15_Next : Int → LI → Option (Int × LI)
  | v1, l2 => cond (decide (v1 < 1)) (some (0, l2)) (cond (((l2.length : Nat) : Int) == 0) (some (0, l2)) (getL l2 0 fun v6 => grdP ((0 : Int) ≤ 1 ∧ (1 : Int).toNat ≤ l2.length ∧ l2.length ≤ l2.length) ((f26_Below v6 v1).bind fun v10 => some (v10, ((l2.drop ((1 : Int).toNat)).take (l2.length - (1 : Int).toNat))))))
def C15_Next (O : Oracle TT) (m : Int → LI → Option (Int × LI)) : Prop :=
  ∀ (v1 : Int) (l2 : LI) (Q : (Int × LI) → Prop) (R : RR) (_ : ∀ (v11 : Int) (l12 : LI), Q (v11, l12) → R (.c (.int .i64 v11)) [(.x 0, some (.var [.isl .int l12]))]) (_ : sat (m v1 l2) Q), O 15 [.c (.ptr (.x 0) 0 0), .c (.int .i64 v1)] [((.x 0), some (.var [.isl .int l2]))] R
def j15_Next : Fn TT := ⟨33, [.t 4], (.seq (.reg [qo 4 (.mv (iC 0))]) (.seq (.seq (.reg [qo 6 (.mv 1),qo 7 (.bin .lss .num 6 (iC 1)),qo 8 (.mv 7),qf 8 9 (.mv 0),qf 8 10 (.nilck 9),qf 8 11 (.fa 10 0),qf 8 12 (.load 11 1 false),qf 8 13 (.len false 12),qf 8 14 (.bin .eql .num 13 (iC 0)),qo 15 (.pick 8 bT 14)]) (.cond 15 (.seq (.reg [qo 4 (.mv (iC 0))]) .ret) .skip)) (.seq
 (.reg [qo 16 (.mv 0),qo 17 (.nilck 16),qo 18 (.fa 17 0),qo 19 (.load 18 1 false),qo 20 (.idxA 19 (iC 0) 1),qo 21 (.load 20 1 false),qo 5 (.mv 21)]) (.seq (.reg [qo 22 (.mv 0),qo 23 (.mv 0),qo 24 (.nilck 23),qo 25 (.fa 24 0),qo 26 (.load 25 1 false),qo 27 (.slc 1 26 (some (iC 1)) none),qo 28 (.nilck 22),qo 29 (.fa 28 0),qp (.store 29 27 1)]) (.seq (.reg [qo 30 (.mv 5),qo 31 (.mv 1),
 qo 32 (.call 32 26 [30, 31]),qo 4 (.mv 32)]) .ret)))))⟩
theorem w15_Next {O : Oracle TT} (h26_Below : C26_Below O f26_Below) : C15_Next (fun _ => vcF (S := SS) O j15_Next) f15_Next := by
 intro v1 l2 Q R hQ h
 unfold f15_Next at h
 refine ⟨nle rfl, rfl, ?_⟩
 conv => whnf
 refine kc h (fun h => ?_) fun h => ?_
 conv => whnf
 intro hl4
 conv => whnf
 refine kc h (fun h => ?_) fun h => ?_
 conv => whnf
 refine kg (sat_getL h) fun v6 huu7 h => ?_
 conv => whnf
 obtain ⟨⟨hb8, hb9⟩, h⟩ := sat_grdP h
 refine ⟨hb8, ?_⟩
 conv => whnf
 refine ⟨hb9, ?_⟩
 conv => whnf
 refine ⟨[], ?_⟩
 conv => whnf
 refine h26_Below _ _ _ _ ?_ (sat_bind h)
 rintro v10 h
 conv => whnf
 exact ⟨[], ND 1, hQ _ _ (sat_some h)⟩
 conv => whnf
 exact ⟨[], ND 1, hQ _ _ (sat_some h)⟩
 conv => whnf
 exact ⟨[], ND 1, hQ _ _ (sat_some h)⟩
theorem c15_Next {P : Program} {fid : Nat → FuncId} (mx : MX P) (k15_Next : KF P fid 15 j15_Next) (h26_Below : C26_Below (SP P fid) f26_Below) : C15_Next (SP P fid) f15_Next :=
 fun a0 a1 Q R hQ h => spec_of_vc mx k15_Next (w15_Next h26_Below a0 a1 Q R hQ h)
def f39_option : Tp → Option (Tp)
  | .mk k1 m2 lo3 hi4 p5 ps6 => some (Tp.mk 7 (⟨#[]⟩ : BA) 0 0 (⟨#[]⟩ : BA) ([((⟨#[110, 111, 110, 101]⟩ : BA), (Tp.mk 0 (⟨#[]⟩ : BA) 0 0 (⟨#[]⟩ : BA) [])), ((⟨#[115, 111, 109, 101]⟩ : BA), (Tp.mk k1 m2 lo3 hi4 p5 ps6))] : PT))
def C39_option (O : Oracle TT) (m : Tp → Option (Tp)) : Prop :=
  ∀ (k1 : Int) (m2 : BA) (lo3 : Int) (hi4 : Int) (p5 : BA) (ps6 : PT) (Q : Tp → Prop) (R : RR) (_ : ∀ (k7 : Int) (m8 : BA) (lo9 : Int) (hi10 : Int) (p11 : BA) (ps12 : PT), Q (Tp.mk k7 m8 lo9 hi10 p11 ps12) → R (.agg [.int .i64 k7, .str m8, .int .i64 lo9, .int .i64 hi10, .str p11, .isl .part ps12]) []) (_ : sat (m (Tp.mk k1 m2 lo3 hi4 p5 ps6)) Q), O 39 [.agg [.int .i64 k1, .str m2, .int .i64 lo3, .int .i64 hi4, .str p5, .isl .part ps6]] [] R
def j39_option : Fn TT := ⟨8, [.cell 2 6 true], (.seq (.reg [qo 1 (.box 1 0),qo 2 (.alloc 2 [.int .i64 0, .str (⟨#[]⟩ : BA), .int .i64 0, .int .i64 0, .str (⟨#[]⟩ : BA), .isl .part []])]) (.seq
 (.reg [qo 3 (.build [.str (⟨#[]⟩ : BA), .int .i64 0, .str (⟨#[]⟩ : BA), .int .i64 0, .int .i64 0, .str (⟨#[]⟩ : BA), .isl .part []] [((0, 1), (.c (.str (⟨#[110, 111, 110, 101]⟩ : BA))))]),qo 4 (.load 1 6 true),
 qo 5 (.build [.str (⟨#[]⟩ : BA), .int .i64 0, .str (⟨#[]⟩ : BA), .int .i64 0, .int .i64 0, .str (⟨#[]⟩ : BA), .isl .part []] [((0, 1), (.c (.str (⟨#[115, 111, 109, 101]⟩ : BA)))), ((1, 6), 4)]),qo 6 (.bsl .part [3, 5]),
 qo 7 (.build [.int .i64 0, .str (⟨#[]⟩ : BA), .int .i64 0, .int .i64 0, .str (⟨#[]⟩ : BA), .isl .part []] [((0, 1), (iC 7)), ((5, 1), 6)]),qp (.store 2 7 6)]) .ret))⟩
theorem w39_option {O : Oracle TT} : C39_option (fun _ => vcF (S := SS) O j39_option) f39_option := by
 intro k1 m2 lo3 hi4 p5 ps6 Q R hQ h
 unfold f39_option at h
 refine ⟨nle rfl, rfl, ?_⟩
 conv => whnf
 exact ⟨[], ND 0, hQ _ _ _ _ _ _ (sat_some h)⟩
theorem c39_option {P : Program} {fid : Nat → FuncId} (mx : MX P) (k39_option : KF P fid 39 j39_option) : C39_option (SP P fid) f39_option :=
 fun a0 a1 a2 a3 a4 a5 Q R hQ h => spec_of_vc mx k39_option (w39_option a0 a1 a2 a3 a4 a5 Q R hQ h)
def f40_pick : (List Tp) → LI → Option (Tp × LI)
  | l1, l2 => (f15_Next ((l1.length : Nat) : Int) l2).bind fun (v4, l5) => getL l1 v4 fun uu12 => match uu12 with | .mk k6 m7 lo8 hi9 p10 ps11 => some ((Tp.mk k6 m7 lo8 hi9 p10 ps11), l5)
def C40_pick (O : Oracle TT) (m : (List Tp) → LI → Option (Tp × LI)) : Prop :=
  ∀ (l1 : List Tp) (l2 : LI) (Q : (Tp × LI) → Prop) (R : RR) (_ : ∀ (k13 : Int) (m14 : BA) (lo15 : Int) (hi16 : Int) (p17 : BA) (ps18 : PT) (l19 : LI), Q ((Tp.mk k13 m14 lo15 hi16 p17 ps18), l19) → R (.agg [.int .i64 k13, .str m14, .int .i64 lo15, .int .i64 hi16, .str p17, .isl .part ps18]) [(.x 0, some (.var [.isl .int l19]))]) (_ : sat (m l1 l2) Q), O 40 [.c (.ptr (.x 0) 0 0), .c (.isl .typ l1)] [((.x 0), some (.var [.isl .int l2]))] R
def j40_pick : Fn TT := ⟨12, [.cell 4 6 true], (.seq (.reg [qo 4 (.alloc 4 [.int .i64 0, .str (⟨#[]⟩ : BA), .int .i64 0, .int .i64 0, .str (⟨#[]⟩ : BA), .isl .part []])]) (.seq (.reg [qo 5 (.mv 1),qo 6 (.mv 0),qo 7 (.mv 1),qo 8 (.len false 7),qo 9 (.call 9 15 [6, 8]),qo 10 (.idxA 5 9 6),qo 11 (.load 10 6 true),qp (.store 4 11 6)]) .ret))⟩
theorem w40_pick {O : Oracle TT} (h15_Next : C15_Next O f15_Next) : C40_pick (fun _ => vcF (S := SS) O j40_pick) f40_pick := by
 intro l1 l2 Q R hQ h
 unfold f40_pick at h
 refine ⟨nle rfl, rfl, ?_⟩
 conv => whnf
 intro hl3
 conv => whnf
 refine ⟨[(.x 0)], ?_⟩
 conv => whnf
 refine h15_Next _ _ _ _ ?_ (sat_bind h)
 rintro v4 l5 h
 conv => whnf
 refine kg (sat_getL h) fun uu12 huu12 h => ?_
 obtain ⟨k6, m7, lo8, hi9, p10, ps11⟩ := uu12
 conv => whnf
 exact ⟨[], ND 1, hQ _ _ _ _ _ _ _ (sat_some h)⟩
theorem c40_pick {P : Program} {fid : Nat → FuncId} (mx : MX P) (k40_pick : KF P fid 40 j40_pick) (h15_Next : C15_Next (SP P fid) f15_Next) : C40_pick (SP P fid) f40_pick :=
 fun a0 a1 Q R hQ h => spec_of_vc mx k40_pick (w40_pick h15_Next a0 a1 Q R hQ h)
def f21_Schema : LI → Option (PT)
  | l1 => sbind (ο := LI × PT) ((f15_Next (2 : Int) l1).bind fun (v10, l11) => cond (v10 == 0) (grdP (([((⟨#[116, 114, 101, 101]⟩ : BA), (Tp.mk 6 (⟨#[]⟩ : BA) 0 0 (⟨#[]⟩ : BA) ([((⟨#[118, 97, 108]⟩ : BA), (Tp.mk 2 (⟨#[]⟩ : BA) 0 9 (⟨#[]⟩ : BA) [])), ((⟨#[107, 105, 100, 115]⟩ : BA), (Tp.mk 8 (⟨#[]⟩ : BA) 0 2 (⟨#[]⟩ : BA) ([((⟨#[]⟩ : BA), (Tp.mk 10 (⟨#[116, 114, 101, 101]⟩ : BA) 0 0 (⟨#[]⟩ : BA) []))] : PT)))] : PT)))] : PT).length ≤ 68719476736) (some (.inr (l11, ([((⟨#[116, 114, 101, 101]⟩ : BA), (Tp.mk 6 (⟨#[]⟩ : BA) 0 0 (⟨#[]⟩ : BA) ([((⟨#[118, 97, 108]⟩ : BA), (Tp.mk 2 (⟨#[]⟩ : BA) 0 9 (⟨#[]⟩ : BA) [])), ((⟨#[107, 105, 100, 115]⟩ : BA), (Tp.mk 8 (⟨#[]⟩ : BA) 0 2 (⟨#[]⟩ : BA) ([((⟨#[]⟩ : BA), (Tp.mk 10 (⟨#[116, 114, 101, 101]⟩ : BA) 0 0 (⟨#[]⟩ : BA) []))] : PT)))] : PT)))] : PT))))) (some (.inr (l11, [])))) (fun (l6, l7) => sbind (ο := LI × PT) ((f15_Next (2 : Int) l6).bind fun (v28, l29) => cond (v28 == 0) ((f39_option (Tp.mk 2 (⟨#[]⟩ : BA) 0 9 (⟨#[]⟩ : BA) [])).bind fun (.mk k31 m32 lo33 hi34 p35 ps36) => grdP (l7.length + ([((⟨#[109, 97, 121, 98, 101]⟩ : BA), (Tp.mk k31 m32 lo33 hi34 p35 ps36))] : PT).length ≤ 68719476736) (some (.inr (l29, (l7 ++ ([((⟨#[109, 97, 121, 98, 101]⟩ : BA), (Tp.mk k31 m32 lo33 hi34 p35 ps36))] : PT)))))) (some (.inr (l29, l7)))) (fun (l24, l25) => (f15_Next (3 : Int) l24).bind fun (v38, l39) => cond (v38 == 0) ((f40_pick ([(Tp.mk 2 (⟨#[]⟩ : BA) 0 9 (⟨#[]⟩ : BA) []), (Tp.mk 5 (⟨#[]⟩ : BA) 0 0 (⟨#[91, 97, 45, 99, 93, 42]⟩ : BA) [])] : List Tp) l39).bind fun ((.mk k41 m42 lo43 hi44 p45 ps46), l47) => grdP (l25.length + ([((⟨#[97, 108, 105, 97, 115]⟩ : BA), (Tp.mk k41 m42 lo43 hi44 p45 ps46))] : PT).length ≤ 68719476736) (some (l25 ++ ([((⟨#[97, 108, 105, 97, 115]⟩ : BA), (Tp.mk k41 m42 lo43 hi44 p45 ps46))] : PT)))) (some l25)))
def C21_Schema (O : Oracle TT) (m : LI → Option (PT)) : Prop :=
  ∀ (l1 : LI) (Q : PT → Prop) (R : RR) (_ : ∀ (l49 : PT), Q l49 → R (.c (.isl .dfn l49)) []) (_ : sat (m l1) Q), O 21 [.c (.isl .int l1)] [] R
def j21_Schema : Fn TT := ⟨50, [.t 2], (.seq (.reg [qo 2 (.mv (.c (.nils)))]) (.seq (.reg [qo 7 (.mv 0),qo 8 (.build [.isl .int []] [((0, 1), 7)]),qo 9 (.box 9 8),qo 3 (.mv 9)]) (.seq (.reg [qo 10 (.build [.int .i64 0, .str (⟨#[]⟩ : BA), .int .i64 0, .int .i64 0, .str (⟨#[]⟩ : BA), .isl .part []] [((0, 1), (iC 2)), ((3, 1), (iC 9))]),
 qo 4 (.alloc 4 [.int .i64 0, .str (⟨#[]⟩ : BA), .int .i64 0, .int .i64 0, .str (⟨#[]⟩ : BA), .isl .part []]),qp (.store 4 10 6)]) (.seq (.reg [qo 5 (.mv (.c (.nils)))]) (.cut [3, 4, 5] [(.s 9), (.s 4), (.sub (.sub (.s 5) 727) 0)] (.aft (.seq (.reg [qo 11 (.mv 3),qo 12 (.call 12 15 [11, (iC 2)]),qo 13 (.bin .eql .num 12 (iC 0))]) (.cond 13 (.seq
 (.reg [qo 14 (.build [.int .i64 0, .str (⟨#[]⟩ : BA), .int .i64 0, .int .i64 0, .str (⟨#[]⟩ : BA), .isl .part []] [((0, 1), (iC 10)), ((1, 1), (.c (.str (⟨#[116, 114, 101, 101]⟩ : BA))))]),qo 15 (.build [.str (⟨#[]⟩ : BA), .int .i64 0, .str (⟨#[]⟩ : BA), .int .i64 0, .int .i64 0, .str (⟨#[]⟩ : BA), .isl .part []] [((1, 6), 14)]),qo 16 (.bsl .part [15]),
 qo 17 (.build [.int .i64 0, .str (⟨#[]⟩ : BA), .int .i64 0, .int .i64 0, .str (⟨#[]⟩ : BA), .isl .part []] [((0, 1), (iC 8)), ((3, 1), (iC 2)), ((5, 1), 16)]),qo 6 (.alloc 6 [.int .i64 0, .str (⟨#[]⟩ : BA), .int .i64 0, .int .i64 0, .str (⟨#[]⟩ : BA), .isl .part []]),qp (.store 6 17 6)]) (.reg [qo 18 (.mv 5),qo 19 (.load 4 6 true),
 qo 20 (.build [.str (⟨#[]⟩ : BA), .int .i64 0, .str (⟨#[]⟩ : BA), .int .i64 0, .int .i64 0, .str (⟨#[]⟩ : BA), .isl .part []] [((0, 1), (.c (.str (⟨#[118, 97, 108]⟩ : BA)))), ((1, 6), 19)]),qo 21 (.load 6 6 true),
 qo 22 (.build [.str (⟨#[]⟩ : BA), .int .i64 0, .str (⟨#[]⟩ : BA), .int .i64 0, .int .i64 0, .str (⟨#[]⟩ : BA), .isl .part []] [((0, 1), (.c (.str (⟨#[107, 105, 100, 115]⟩ : BA)))), ((1, 6), 21)]),qo 23 (.bsl .part [20, 22]),
 qo 24 (.build [.int .i64 0, .str (⟨#[]⟩ : BA), .int .i64 0, .int .i64 0, .str (⟨#[]⟩ : BA), .isl .part []] [((0, 1), (iC 6)), ((5, 1), 23)]),qo 25 (.build [.str (⟨#[]⟩ : BA), .int .i64 0, .str (⟨#[]⟩ : BA), .int .i64 0, .int .i64 0, .str (⟨#[]⟩ : BA), .isl .part []] [((0, 1), (.c (.str (⟨#[116, 114, 101, 101]⟩ : BA)))), ((1, 6), 24)]),
 qo 26 (.bsl .dfn [25]),qo 27 (.app 27 .dfn 68719476736 18 26),qo 5 (.mv 27)])) .skip)) [.own 5 0 .dfn (.sub (.sub (.s 5) 727) 0)]) (.cut [3, 4, 5] [(.s 9), (.s 4), (.sub (.sub (.s 5) 726) 0)] (.aft (.seq (.reg [qo 28 (.mv 3),qo 29 (.call 29 15 [28, (iC 2)]),qo 30 (.bin .eql .num 29 (iC 0))]) (.cond 30 (.reg [qo 31 (.mv 5),qo 32 (.load 4 6 true),qo 33 (.call 33 39 [32]),
 qo 34 (.build [.str (⟨#[]⟩ : BA), .int .i64 0, .str (⟨#[]⟩ : BA), .int .i64 0, .int .i64 0, .str (⟨#[]⟩ : BA), .isl .part []] [((0, 1), (.c (.str (⟨#[109, 97, 121, 98, 101]⟩ : BA)))), ((1, 6), 33)]),qo 35 (.bsl .dfn [34]),qo 36 (.app 36 .dfn 68719476736 31 35),qo 5 (.mv 36)]) .skip)) [.own 5 0 .dfn (.sub (.sub (.s 5) 726) 0)]) (.seq (.seq (.reg [qo 37 (.mv 3),
 qo 38 (.call 38 15 [37, (iC 3)]),qo 39 (.bin .eql .num 38 (iC 0))]) (.cond 39 (.reg [qo 40 (.mv 5),qo 41 (.mv 3),qo 42 (.load 4 6 true),qo 43 (.build [.int .i64 0, .str (⟨#[]⟩ : BA), .int .i64 0, .int .i64 0, .str (⟨#[]⟩ : BA), .isl .part []] [((0, 1), (iC 5)), ((4, 1), (.c (.str (⟨#[91, 97, 45, 99, 93, 42]⟩ : BA))))]),qo 44 (.bsl .typ [42, 43]),
 qo 45 (.call 45 40 [41, 44]),qo 46 (.build [.str (⟨#[]⟩ : BA), .int .i64 0, .str (⟨#[]⟩ : BA), .int .i64 0, .int .i64 0, .str (⟨#[]⟩ : BA), .isl .part []] [((0, 1), (.c (.str (⟨#[97, 108, 105, 97, 115]⟩ : BA)))), ((1, 6), 45)]),qo 47 (.bsl .dfn [46]),qo 48 (.app 48 .dfn 68719476736 40 47),qo 5 (.mv 48)]) .skip)) (.seq (.reg [qo 49 (.mv 5),qo 2 (.mv 49)])
 (.pre [.frz 2 0 .dfn] .ret)))))))))⟩
theorem w21_Schema {O : Oracle TT} (h15_Next : C15_Next O f15_Next) (h39_option : C39_option O f39_option) (h40_pick : C40_pick O f40_pick) : C21_Schema (fun _ => vcF (S := SS) O j21_Schema) f21_Schema := by
 intro l1 Q R hQ h
 unfold f21_Schema at h
 refine ⟨nle rfl, rfl, ?_⟩
 obtain ⟨R9, h, hlR9, hrR9⟩ := sat_sbind h
 conv => whnf
 refine ⟨fun σ => ∃ (l6 : LI) (l7 : PT) (n8 : Nat), n8 = l7.length ∧ R9 (.inr (l6, l7)) ∧ σ = ⟨[(3, .c (.ptr (.s 9) 0 0)), (4, .c (.ptr (.s 4) 0 0)), (5, .c (.osl (.sub (.sub (.s 5) 727) 0) 0 n8))], [((.s 9), some (.var [.isl .int l6])), ((.s 4), some (.var [.int .i64 2, .str (⟨#[]⟩ : BA), .int .i64 0, .int .i64 9, .str (⟨#[]⟩ : BA), .isl .part []])), ((.sub (.sub (.s 5) 727) 0), some (.row false .dfn l7))]⟩, ?_, ?_⟩
 conv => whnf
 refine ⟨[(.s 9)], ?_⟩
 conv => whnf
 refine h15_Next _ _ _ _ ?_ (sat_bind h)
 rintro v10 l11 h
 conv => whnf
 refine kc h (fun h => ?_) fun h => ?_
 conv => whnf
 exact ⟨l11, [], _, LN, sat_some h, rfl⟩
 conv => whnf
 refine ⟨rfl, ?_⟩
 conv => whnf
 refine kp h fun hb13 h => ?_
 conv => whnf
 exact ⟨l11, ([((⟨#[116, 114, 101, 101]⟩ : BA), (Tp.mk 6 (⟨#[]⟩ : BA) 0 0 (⟨#[]⟩ : BA) ([((⟨#[118, 97, 108]⟩ : BA), (Tp.mk 2 (⟨#[]⟩ : BA) 0 9 (⟨#[]⟩ : BA) [])), ((⟨#[107, 105, 100, 115]⟩ : BA), (Tp.mk 8 (⟨#[]⟩ : BA) 0 2 (⟨#[]⟩ : BA) ([((⟨#[]⟩ : BA), (Tp.mk 10 (⟨#[116, 114, 101, 101]⟩ : BA) 0 0 (⟨#[]⟩ : BA) []))] : PT)))] : PT)))] : PT), _, LN, sat_some h, rfl⟩
 rintro _ ⟨l6, l7, _, rfl, h, rfl⟩
 replace h := hrR9 _ h
 obtain ⟨R27, h, hlR27, hrR27⟩ := sat_sbind h
 conv => whnf
 refine ⟨fun σ => ∃ (l24 : LI) (l25 : PT) (n26 : Nat), n26 = l25.length ∧ R27 (.inr (l24, l25)) ∧ σ = ⟨[(3, .c (.ptr (.s 9) 0 0)), (4, .c (.ptr (.s 4) 0 0)), (5, .c (.osl (.sub (.sub (.s 5) 726) 0) 0 n26))], [((.s 9), some (.var [.isl .int l24])), ((.s 4), some (.var [.int .i64 2, .str (⟨#[]⟩ : BA), .int .i64 0, .int .i64 9, .str (⟨#[]⟩ : BA), .isl .part []])), ((.sub (.sub (.s 5) 726) 0), some (.row false .dfn l25))]⟩, ?_, ?_⟩
 conv => whnf
 refine ⟨[(.s 9)], ?_⟩
 conv => whnf
 refine h15_Next _ _ _ _ ?_ (sat_bind h)
 rintro v28 l29 h
 conv => whnf
 refine kc h (fun h => ?_) fun h => ?_
 conv => whnf
 exact ⟨l29, l7, _, LN, sat_some h, rfl⟩
 conv => whnf
 refine ⟨[], ?_⟩
 conv => whnf
 refine h39_option _ _ _ _ _ _ _ _ ?_ (sat_bind h)
 rintro k31 m32 lo33 hi34 p35 ps36 h
 conv => whnf
 refine ⟨LN, rfl, ?_⟩
 conv => whnf
 refine ⟨rfl, ?_⟩
 conv => whnf
 refine kp h fun hb37 h => ?_
 conv => whnf
 exact ⟨l29, (l7 ++ ([((⟨#[109, 97, 121, 98, 101]⟩ : BA), (Tp.mk k31 m32 lo33 hi34 p35 ps36))] : PT)), _, LN, sat_some h, rfl⟩
 rintro _ ⟨l24, l25, _, rfl, h, rfl⟩
 replace h := hrR27 _ h
 conv => whnf
 refine ⟨[(.s 9)], ?_⟩
 conv => whnf
 refine h15_Next _ _ _ _ ?_ (sat_bind h)
 rintro v38 l39 h
 conv => whnf
 refine kc h (fun h => ?_) fun h => ?_
 conv => whnf
 refine ⟨LN, ?_⟩
 conv => whnf
 exact ⟨[], ND 0, hQ _ (sat_some h)⟩
 conv => whnf
 refine ⟨[(.s 9)], ?_⟩
 conv => whnf
 refine h40_pick _ _ _ _ ?_ (sat_bind h)
 rintro k41 m42 lo43 hi44 p45 ps46 l47 h
 conv => whnf
 refine ⟨LN, rfl, ?_⟩
 conv => whnf
 refine ⟨rfl, ?_⟩
 conv => whnf
 refine kp h fun hb48 h => ?_
 conv => whnf
 refine ⟨LN, ?_⟩
 conv => whnf
 exact ⟨[], ND 0, hQ _ (sat_some h)⟩
theorem c21_Schema {P : Program} {fid : Nat → FuncId} (mx : MX P) (k21_Schema : KF P fid 21 j21_Schema) (h15_Next : C15_Next (SP P fid) f15_Next) (h39_option : C39_option (SP P fid) f39_option) (h40_pick : C40_pick (SP P fid) f40_pick) : C21_Schema (SP P fid) f21_Schema :=
 fun a0 Q R hQ h => spec_of_vc mx k21_Schema (w21_Schema h15_Next h39_option h40_pick a0 Q R hQ h)
def f62_fieldName : Int → Option (BA)
  | v1 => (f26_Below v1 (8 : Int)).bind fun v2 => getL ([(⟨#[97]⟩ : BA), (⟨#[98]⟩ : BA), (⟨#[99]⟩ : BA), (⟨#[100]⟩ : BA), (⟨#[101]⟩ : BA), (⟨#[102]⟩ : BA), (⟨#[103]⟩ : BA), (⟨#[104]⟩ : BA)] : LB) v2 fun w3 => some w3
def C62_fieldName (O : Oracle TT) (m : Int → Option (BA)) : Prop :=
  ∀ (v1 : Int) (Q : BA → Prop) (R : RR) (_ : ∀ (s5 : BA), Q s5 → R (.c (.str s5)) []) (_ : sat (m v1) Q), O 62 [.c (.int .i64 v1)] [] R
def j62_fieldName : Fn TT := ⟨7, [.t 2], (.seq (.reg [qo 2 (.mv (.c (.str (⟨#[]⟩ : BA))))]) (.seq
 (.reg [qo 3 (.build [.str (⟨#[]⟩ : BA), .str (⟨#[]⟩ : BA), .str (⟨#[]⟩ : BA), .str (⟨#[]⟩ : BA), .str (⟨#[]⟩ : BA), .str (⟨#[]⟩ : BA), .str (⟨#[]⟩ : BA), .str (⟨#[]⟩ : BA)] [((0, 1), (.c (.str (⟨#[97]⟩ : BA)))), ((1, 1), (.c (.str (⟨#[98]⟩ : BA)))), ((2, 1), (.c (.str (⟨#[99]⟩ : BA)))), ((3, 1), (.c (.str (⟨#[100]⟩ : BA)))), ((4, 1), (.c (.str (⟨#[101]⟩ : BA)))), ((5, 1), (.c (.str (⟨#[102]⟩ : BA)))), ((6, 1), (.c (.str (⟨#[103]⟩ : BA)))), ((7, 1), (.c (.str (⟨#[104]⟩ : BA))))]),
 qo 4 (.mv 0),qo 5 (.call 5 26 [4, (iC 8)]),qo 6 (.idxG 3 5 8),qo 2 (.mv 6)]) .ret))⟩
theorem w62_fieldName {O : Oracle TT} (h26_Below : C26_Below O f26_Below) : C62_fieldName (fun _ => vcF (S := SS) O j62_fieldName) f62_fieldName := by
 intro v1 Q R hQ h
 unfold f62_fieldName at h
 refine ⟨nle rfl, rfl, ?_⟩
 conv => whnf
 refine ⟨[], ?_⟩
 conv => whnf
 refine h26_Below _ _ _ _ ?_ (sat_bind h)
 rintro v2 h
 conv => whnf
 obtain ⟨hbw3, h⟩ := sat_getL h
 refine ⟨hbw3, by decide, fun c4 hc4 => ?_⟩
 obtain ⟨w3, hw3, rfl⟩ := map_get (f := (C.str : _ → C TT)) (xs := ([(⟨#[97]⟩ : BA), (⟨#[98]⟩ : BA), (⟨#[99]⟩ : BA), (⟨#[100]⟩ : BA), (⟨#[101]⟩ : BA), (⟨#[102]⟩ : BA), (⟨#[103]⟩ : BA), (⟨#[104]⟩ : BA)] : LB)) hc4
 replace h := h _ hw3
 conv => whnf
 exact ⟨[], ND 0, hQ _ (sat_some h)⟩
theorem c62_fieldName {P : Program} {fid : Nat → FuncId} (mx : MX P) (k62_fieldName : KF P fid 62 j62_fieldName) (h26_Below : C26_Below (SP P fid) f26_Below) : C62_fieldName (SP P fid) f62_fieldName :=
 fun a0 Q R hQ h => spec_of_vc mx k62_fieldName (w62_fieldName h26_Below a0 Q R hQ h)
def f61_pick : LB → LI → Option (BA × LI)
  | l1, l2 => (f15_Next ((l1.length : Nat) : Int) l2).bind fun (v4, l5) => getL l1 v4 fun w6 => some (w6, l5)
def C61_pick (O : Oracle TT) (m : LB → LI → Option (BA × LI)) : Prop :=
  ∀ (l1 : LB) (l2 : LI) (Q : (BA × LI) → Prop) (R : RR) (_ : ∀ (s8 : BA) (l9 : LI), Q (s8, l9) → R (.c (.str s8)) [(.x 0, some (.var [.isl .int l9]))]) (_ : sat (m l1 l2) Q), O 61 [.c (.ptr (.x 0) 0 0), .c (.isl .str l1)] [((.x 0), some (.var [.isl .int l2]))] R
def j61_pick : Fn TT := ⟨12, [.t 4], (.seq (.reg [qo 4 (.mv (.c (.str (⟨#[]⟩ : BA))))]) (.seq (.reg [qo 5 (.mv 1),qo 6 (.mv 0),qo 7 (.mv 1),qo 8 (.len false 7),qo 9 (.call 9 15 [6, 8]),qo 10 (.idxA 5 9 1),qo 11 (.load 10 1 false),qo 4 (.mv 11)]) .ret))⟩
theorem w61_pick {O : Oracle TT} (h15_Next : C15_Next O f15_Next) : C61_pick (fun _ => vcF (S := SS) O j61_pick) f61_pick := by
 intro l1 l2 Q R hQ h
 unfold f61_pick at h
 refine ⟨nle rfl, rfl, ?_⟩
 conv => whnf
 intro hl3
 conv => whnf
 refine ⟨[(.x 0)], ?_⟩
 conv => whnf
 refine h15_Next _ _ _ _ ?_ (sat_bind h)
 rintro v4 l5 h
 conv => whnf
 refine kg (sat_getL h) fun w6 huu7 h => ?_
 conv => whnf
 exact ⟨[], ND 1, hQ _ _ (sat_some h)⟩
theorem c61_pick {P : Program} {fid : Nat → FuncId} (mx : MX P) (k61_pick : KF P fid 61 j61_pick) (h15_Next : C15_Next (SP P fid) f15_Next) : C61_pick (SP P fid) f61_pick :=
 fun a0 a1 Q R hQ h => spec_of_vc mx k61_pick (w61_pick h15_Next a0 a1 Q R hQ h)
def f60_pick : LI → LI → Option (Int × LI)
  | l1, l2 => (f15_Next ((l1.length : Nat) : Int) l2).bind fun (v4, l5) => getL l1 v4 fun v6 => some (v6, l5)
def C60_pick (O : Oracle TT) (m : LI → LI → Option (Int × LI)) : Prop :=
  ∀ (l1 : LI) (l2 : LI) (Q : (Int × LI) → Prop) (R : RR) (_ : ∀ (v8 : Int) (l9 : LI), Q (v8, l9) → R (.c (.int .i64 v8)) [(.x 0, some (.var [.isl .int l9]))]) (_ : sat (m l1 l2) Q), O 60 [.c (.ptr (.x 0) 0 0), .c (.isl .int l1)] [((.x 0), some (.var [.isl .int l2]))] R
def j60_pick : Fn TT := ⟨12, [.t 4], (.seq (.reg [qo 4 (.mv (iC 0))]) (.seq (.reg [qo 5 (.mv 1),qo 6 (.mv 0),qo 7 (.mv 1),qo 8 (.len false 7),qo 9 (.call 9 15 [6, 8]),qo 10 (.idxA 5 9 1),qo 11 (.load 10 1 false),qo 4 (.mv 11)]) .ret))⟩
theorem w60_pick {O : Oracle TT} (h15_Next : C15_Next O f15_Next) : C60_pick (fun _ => vcF (S := SS) O j60_pick) f60_pick := by
 intro l1 l2 Q R hQ h
 unfold f60_pick at h
 refine ⟨nle rfl, rfl, ?_⟩
 conv => whnf
 intro hl3
 conv => whnf
 refine ⟨[(.x 0)], ?_⟩
 conv => whnf
 refine h15_Next _ _ _ _ ?_ (sat_bind h)
 rintro v4 l5 h
 conv => whnf
 refine kg (sat_getL h) fun v6 huu7 h => ?_
 conv => whnf
 exact ⟨[], ND 1, hQ _ _ (sat_some h)⟩
theorem c60_pick {P : Program} {fid : Nat → FuncId} (mx : MX P) (k60_pick : KF P fid 60 j60_pick) (h15_Next : C15_Next (SP P fid) f15_Next) : C60_pick (SP P fid) f60_pick :=
 fun a0 a1 Q R hQ h => spec_of_vc mx k60_pick (w60_pick h15_Next a0 a1 Q R hQ h)
def f41_typ_L4 (self41_typ : PT → Int → LI → Option (Tp × LI)) (l1 : PT) (v2 : Int) : Nat → Int → PT → LI → Option (Sum (Sum (Tp × LI) (Unit)) (LI × PT))
  | 0, v233, l237, l238 => some (.inr (l238, l237))
  | g235 + 1, v233, l237, l238 => (f62_fieldName v233).bind fun s241 => (self41_typ l1 (wrap .i64 (v2 - 1)) l238).bind fun ((.mk k242 m243 lo244 hi245 p246 ps247), l248) => grdP (l237.length + ([(s241, (Tp.mk k242 m243 lo244 hi245 p246 ps247))] : PT).length ≤ 68719476736) (f41_typ_L4 self41_typ l1 v2 g235 (v233 + 1) (l237 ++ ([(s241, (Tp.mk k242 m243 lo244 hi245 p246 ps247))] : PT)) l248)
def f41_typ_L6 (self41_typ : PT → Int → LI → Option (Tp × LI)) (l1 : PT) (v2 : Int) : Nat → Int → PT → LI → Option (Sum (Tp × LI) (LI × PT))
  | 0, v368, l372, l373 => some (.inr (l373, l372))
  | g370 + 1, v368, l372, l373 => (f62_fieldName v368).bind fun s376 => (self41_typ l1 (wrap .i64 (v2 - 1)) l373).bind fun ((.mk k377 m378 lo379 hi380 p381 ps382), l383) => grdP (l372.length + ([(s376, (Tp.mk k377 m378 lo379 hi380 p381 ps382))] : PT).length ≤ 68719476736) (f41_typ_L6 self41_typ l1 v2 g370 (v368 + 1) (l372 ++ ([(s376, (Tp.mk k377 m378 lo379 hi380 p381 ps382))] : PT)) l383)
def b41_typ (self41_typ : PT → Int → LI → Option (Tp × LI)) : PT → Int → LI → Option (Tp × LI)
  | l1, v2, l3 => (f15_Next (14 : Int) l3).bind fun (v4, l5) => sbind (ο := Int) (cond (v2 == 0) (some (.inr (Int.tmod v4 7))) (some (.inr v4))) (fun v7 => sbind (ο := Unit) (cond (v7 == 0) (lft (some ((Tp.mk 0 (⟨#[]⟩ : BA) 0 0 (⟨#[]⟩ : BA) []), l5))) (cond (v7 == 1) ((f60_pick ([0, 0, 1] : LI) l5).bind fun (v309, l310) => lft (some ((Tp.mk 1 (⟨#[]⟩ : BA) v309 1 (⟨#[]⟩ : BA) []), l310))) (cond (v7 == 2) ((f40_pick ([(Tp.mk 2 (⟨#[]⟩ : BA) 0 9 (⟨#[]⟩ : BA) []), (Tp.mk 2 (⟨#[]⟩ : BA) 3 3 (⟨#[]⟩ : BA) []), (Tp.mk 2 (⟨#[]⟩ : BA) (-1) 3 (⟨#[]⟩ : BA) []), (Tp.mk 2 (⟨#[]⟩ : BA) (-9007199254740992) 9007199254740992 (⟨#[]⟩ : BA) [])] : List Tp) l5).bind fun ((.mk k302 m303 lo304 hi305 p306 ps307), l308) => lft (some ((Tp.mk k302 m303 lo304 hi305 p306 ps307), l308))) (cond (v7 == 3) ((f60_pick ([730000, 730003, 730005] : LI) l5).bind fun (v300, l301) => lft (some ((Tp.mk 4 (⟨#[]⟩ : BA) 730000 v300 (⟨#[]⟩ : BA) []), l301))) (sbind (ο := Bool) (cond (v7 == 4) (some (.inr true)) (cond (v7 == 5) (some (.inr true)) (some (.inr false)))) (fun q167 => cond q167 ((f61_pick ([(⟨#[46, 42]⟩ : BA), (⟨#[91, 97, 45, 99, 93, 42]⟩ : BA), (⟨#[40, 91, 97, 45, 99, 93, 42, 41, 45, 40, 91, 48, 45, 57, 93, 42, 41]⟩ : BA), (⟨#[91, 48, 45, 57, 93]⟩ : BA), (⟨#[97, 124, 98, 124, 99]⟩ : BA), (⟨#[91, 97, 45, 99, 93, 42]⟩ : BA)] : LB) l5).bind fun (s298, l299) => lft (some ((Tp.mk 5 (⟨#[]⟩ : BA) 0 0 s298 []), l299))) (cond (v7 == 6) (cond (decide (((l1.length : Nat) : Int) > 0)) ((f15_Next ((l1.length : Nat) : Int) l5).bind fun (v288, l289) => getL l1 v288 fun uu297 => match uu297 with | (a290, .mk k291 m292 lo293 hi294 p295 ps296) => lft (some ((Tp.mk 10 a290 0 0 (⟨#[]⟩ : BA) []), l289))) (lft (some ((Tp.mk 3 (⟨#[]⟩ : BA) 0 0 (⟨#[]⟩ : BA) []), l5)))) (cond (v7 == 7) ((f15_Next (3 : Int) l5).bind fun (v274, l275) => (f15_Next (3 : Int) l275).bind fun (v276, l277) => (self41_typ l1 (wrap .i64 (v2 - 1)) l277).bind fun ((.mk k278 m279 lo280 hi281 p282 ps283), l284) => lft (some ((Tp.mk 8 (⟨#[]⟩ : BA) v274 (wrap .i64 (v274 + v276)) (⟨#[]⟩ : BA) ([((⟨#[]⟩ : BA), (Tp.mk k278 m279 lo280 hi281 p282 ps283))] : PT)), l284))) (cond (v7 == 8) ((f15_Next (2 : Int) l5).bind fun (v263, l264) => (f15_Next (2 : Int) l264).bind fun (v265, l266) => (self41_typ l1 (wrap .i64 (v2 - 1)) l266).bind fun ((.mk k267 m268 lo269 hi270 p271 ps272), l273) => lft (some ((Tp.mk 9 (⟨#[]⟩ : BA) v263 (wrap .i64 ((2 : Int) + v265)) (⟨#[91, 97, 45, 101, 93]⟩ : BA) ([((⟨#[]⟩ : BA), (Tp.mk k267 m268 lo269 hi270 p271 ps272))] : PT)), l273))) (cond (v7 == 9) ((self41_typ l1 (wrap .i64 (v2 - 1)) l5).bind fun ((.mk k250 m251 lo252 hi253 p254 ps255), l256) => (f39_option (Tp.mk k250 m251 lo252 hi253 p254 ps255)).bind fun (.mk k257 m258 lo259 hi260 p261 ps262) => lft (some ((Tp.mk k257 m258 lo259 hi260 p261 ps262), l256))) (cond (v7 == 10) (sbind (ο := LI × PT) ((f15_Next (3 : Int) l5).bind fun (v215, l216) => grdP ((wrap .i64 ((1 : Int) + v215)) ≤ 9223372036854775807) (f41_typ_L4 self41_typ l1 v2 ((wrap .i64 ((1 : Int) + v215)) - 0).toNat 0 [] l216)) (fun (l211, l212) => lft (some ((Tp.mk 7 (⟨#[]⟩ : BA) 0 0 (⟨#[]⟩ : BA) l212), l211)))) (some (.inr ()))))))))))))) (fun () => sbind (ο := LI × PT) ((f15_Next (5 : Int) l5).bind fun (v350, l351) => grdP (v350 ≤ 9223372036854775807) (f41_typ_L6 self41_typ l1 v2 (v350 - 0).toNat 0 [] l351)) (fun (l346, l347) => some ((Tp.mk 6 (⟨#[]⟩ : BA) 0 0 (⟨#[]⟩ : BA) l347), l346))))
def f41_typ : Nat → PT → Int → LI → Option (Tp × LI)
  | 0 => fun _ _ _ => none
  | n + 1 => b41_typ (f41_typ n)
def C41_typ (O : Oracle TT) (m : PT → Int → LI → Option (Tp × LI)) : Prop :=
  ∀ (l1 : PT) (v2 : Int) (l3 : LI) (Q : (Tp × LI) → Prop) (R : RR) (_ : ∀ (k385 : Int) (m386 : BA) (lo387 : Int) (hi388 : Int) (p389 : BA) (ps390 : PT) (l391 : LI), Q ((Tp.mk k385 m386 lo387 hi388 p389 ps390), l391) → R (.agg [.int .i64 k385, .str m386, .int .i64 lo387, .int .i64 hi388, .str p389, .isl .part ps390]) [(.x 0, some (.var [.isl .int l391]))]) (_ : sat (m l1 v2 l3) Q), O 41 [.c (.isl .dfn l1), .c (.ptr (.x 0) 0 0), .c (.int .i64 v2)] [((.x 0), some (.var [.isl .int l3]))] R
def j41_typ : Fn TT := ⟨151, [.cell 6 6 true], (.seq (.reg [qo 6 (.alloc 6 [.int .i64 0, .str (⟨#[]⟩ : BA), .int .i64 0, .int .i64 0, .str (⟨#[]⟩ : BA), .isl .part []])]) (.seq (.reg [qo 13 (.mv 1),qo 14 (.call 14 15 [13, (iC 14)]),qo 7 (.mv 14)]) (.cut [0, 1, 2, 6, 7] [(.x 0), (.s 6)] (.seq (.reg [qo 15 (.mv 2),qo 16 (.bin .eql .num 15 (iC 0))]) (.cond 16 (.reg [qo 17 (.mv 7),
 qo 18 (.bin .rem .num 17 (iC 7)),qo 7 (.mv 18)]) .skip)) (.cut [0, 1, 2, 6] [(.x 0), (.s 6)] (.seq (.reg [qo 19 (.mv 7)]) (.block 0 (.seq (.reg [qo 21 (.bin .eql .num 19 (iC 0)),qo 20 (.mv 21)]) (.cond 20 (.seq (.reg [qo 22 (.build [.int .i64 0, .str (⟨#[]⟩ : BA), .int .i64 0, .int .i64 0, .str (⟨#[]⟩ : BA), .isl .part []] []),qp (.store 6 22 6)]) .ret) (.seq
 (.reg [qo 24 (.bin .eql .num 19 (iC 1)),qo 23 (.mv 24)]) (.cond 23 (.seq (.reg [qo 25 (.mv 1),qo 26 (.bsl .int [(iC 0), (iC 0), (iC 1)]),qo 27 (.call 27 60 [25, 26]),qo 28 (.build [.int .i64 0, .str (⟨#[]⟩ : BA), .int .i64 0, .int .i64 0, .str (⟨#[]⟩ : BA), .isl .part []] [((0, 1), (iC 1)), ((2, 1), 27), ((3, 1), (iC 1))]),qp (.store 6 28 6)]) .ret) (.seq
 (.reg [qo 30 (.bin .eql .num 19 (iC 2)),qo 29 (.mv 30)]) (.cond 29 (.seq (.reg [qo 31 (.mv 1),qo 32 (.build [.int .i64 0, .str (⟨#[]⟩ : BA), .int .i64 0, .int .i64 0, .str (⟨#[]⟩ : BA), .isl .part []] [((0, 1), (iC 2)), ((3, 1), (iC 9))]),
 qo 33 (.build [.int .i64 0, .str (⟨#[]⟩ : BA), .int .i64 0, .int .i64 0, .str (⟨#[]⟩ : BA), .isl .part []] [((0, 1), (iC 2)), ((2, 1), (iC 3)), ((3, 1), (iC 3))]),qo 34 (.build [.int .i64 0, .str (⟨#[]⟩ : BA), .int .i64 0, .int .i64 0, .str (⟨#[]⟩ : BA), .isl .part []] [((0, 1), (iC 2)), ((2, 1), (iC (-1))), ((3, 1), (iC 3))]),
 qo 35 (.build [.int .i64 0, .str (⟨#[]⟩ : BA), .int .i64 0, .int .i64 0, .str (⟨#[]⟩ : BA), .isl .part []] [((0, 1), (iC 2)), ((2, 1), (iC (-9007199254740992))), ((3, 1), (iC 9007199254740992))]),qo 36 (.bsl .typ [32, 33, 34, 35]),qo 37 (.call 37 40 [31, 36]),qp (.store 6 37 6)]) .ret) (.seq (.reg [qo 39 (.bin .eql .num 19 (iC 3)),qo 38 (.mv 39)]) (.cond 38 (.seq
 (.reg [qo 40 (.mv 1),qo 41 (.bsl .int [(iC 730000), (iC 730003), (iC 730005)]),qo 42 (.call 42 60 [40, 41]),qo 43 (.build [.int .i64 0, .str (⟨#[]⟩ : BA), .int .i64 0, .int .i64 0, .str (⟨#[]⟩ : BA), .isl .part []] [((0, 1), (iC 4)), ((2, 1), (iC 730000)), ((3, 1), 42)]),qp (.store 6 43 6)]) .ret) (.cut [0, 1, 2, 6, 19, 44] [(.x 0), (.s 6)] (.seq
 (.reg [qo 45 (.bin .eql .num 19 (iC 4)),qo 44 (.mv 45)]) (.cond 44 .skip (.reg [qo 46 (.bin .eql .num 19 (iC 5)),qo 44 (.mv 46)]))) (.cond 44 (.seq (.reg [qo 47 (.mv 1),
 qo 48 (.bsl .str [(.c (.str (⟨#[46, 42]⟩ : BA))), (.c (.str (⟨#[91, 97, 45, 99, 93, 42]⟩ : BA))), (.c (.str (⟨#[40, 91, 97, 45, 99, 93, 42, 41, 45, 40, 91, 48, 45, 57, 93, 42, 41]⟩ : BA))), (.c (.str (⟨#[91, 48, 45, 57, 93]⟩ : BA))), (.c (.str (⟨#[97, 124, 98, 124, 99]⟩ : BA))), (.c (.str (⟨#[91, 97, 45, 99, 93, 42]⟩ : BA)))]),
 qo 49 (.call 49 61 [47, 48]),qo 50 (.build [.int .i64 0, .str (⟨#[]⟩ : BA), .int .i64 0, .int .i64 0, .str (⟨#[]⟩ : BA), .isl .part []] [((0, 1), (iC 5)), ((4, 1), 49)]),qp (.store 6 50 6)]) .ret) (.seq (.reg [qo 52 (.bin .eql .num 19 (iC 6)),qo 51 (.mv 52)]) (.cond 51 (.seq (.seq (.reg [qo 53 (.mv 0),qo 54 (.len false 53),qo 55 (.bin .gtr .num 54 (iC 0))]) (.cond 55 (.seq
 (.reg [qo 56 (.mv 0),qo 57 (.mv 1),qo 58 (.mv 0),qo 59 (.len false 58),qo 60 (.call 60 15 [57, 59]),qo 61 (.idxA 56 60 7),qo 62 (.fa 61 0),qo 63 (.load 62 1 false),qo 64 (.build [.int .i64 0, .str (⟨#[]⟩ : BA), .int .i64 0, .int .i64 0, .str (⟨#[]⟩ : BA), .isl .part []] [((0, 1), (iC 10)), ((1, 1), 63)]),qp (.store 6 64 6)]) .ret) .skip)) (.seq
 (.reg [qo 65 (.build [.int .i64 0, .str (⟨#[]⟩ : BA), .int .i64 0, .int .i64 0, .str (⟨#[]⟩ : BA), .isl .part []] [((0, 1), (iC 3))]),qp (.store 6 65 6)]) .ret)) (.seq (.reg [qo 67 (.bin .eql .num 19 (iC 7)),qo 66 (.mv 67)]) (.cond 66 (.seq (.reg [qo 68 (.mv 1),qo 69 (.call 69 15 [68, (iC 3)]),qo 8 (.mv 69)]) (.seq (.reg [qo 70 (.mv 8),qo 71 (.mv 8),qo 72 (.mv 1),
 qo 73 (.call 73 15 [72, (iC 3)]),qo 74 (.bin .add .num 71 73),qo 75 (.mv 0),qo 76 (.mv 1),qo 77 (.mv 2),qo 78 (.bin .sub .num 77 (iC 1)),qo 79 (.call 79 41 [75, 76, 78]),qo 80 (.build [.str (⟨#[]⟩ : BA), .int .i64 0, .str (⟨#[]⟩ : BA), .int .i64 0, .int .i64 0, .str (⟨#[]⟩ : BA), .isl .part []] [((1, 6), 79)]),qo 81 (.bsl .part [80]),
 qo 82 (.build [.int .i64 0, .str (⟨#[]⟩ : BA), .int .i64 0, .int .i64 0, .str (⟨#[]⟩ : BA), .isl .part []] [((0, 1), (iC 8)), ((2, 1), 70), ((3, 1), 74), ((5, 1), 81)]),qp (.store 6 82 6)]) .ret)) (.seq (.reg [qo 84 (.bin .eql .num 19 (iC 8)),qo 83 (.mv 84)]) (.cond 83 (.seq (.reg [qo 85 (.mv 1),qo 86 (.call 86 15 [85, (iC 2)]),qo 87 (.mv 1),qo 88 (.call 88 15 [87, (iC 2)]),
 qo 89 (.bin .add .num (iC 2) 88),qo 90 (.mv 0),qo 91 (.mv 1),qo 92 (.mv 2),qo 93 (.bin .sub .num 92 (iC 1)),qo 94 (.call 94 41 [90, 91, 93]),qo 95 (.build [.str (⟨#[]⟩ : BA), .int .i64 0, .str (⟨#[]⟩ : BA), .int .i64 0, .int .i64 0, .str (⟨#[]⟩ : BA), .isl .part []] [((1, 6), 94)]),qo 96 (.bsl .part [95]),
 qo 97 (.build [.int .i64 0, .str (⟨#[]⟩ : BA), .int .i64 0, .int .i64 0, .str (⟨#[]⟩ : BA), .isl .part []] [((0, 1), (iC 9)), ((2, 1), 86), ((3, 1), 89), ((4, 1), (.c (.str (⟨#[91, 97, 45, 101, 93]⟩ : BA)))), ((5, 1), 96)]),qp (.store 6 97 6)]) .ret) (.seq (.reg [qo 99 (.bin .eql .num 19 (iC 9)),qo 98 (.mv 99)]) (.cond 98 (.seq (.reg [qo 100 (.mv 0),qo 101 (.mv 1),
 qo 102 (.mv 2),qo 103 (.bin .sub .num 102 (iC 1)),qo 104 (.call 104 41 [100, 101, 103]),qo 105 (.call 105 39 [104]),qp (.store 6 105 6)]) .ret) (.seq (.reg [qo 107 (.bin .eql .num 19 (iC 10)),qo 106 (.mv 107)]) (.cond 106 (.seq (.reg [qo 108 (.build [.int .i64 0, .str (⟨#[]⟩ : BA), .int .i64 0, .int .i64 0, .str (⟨#[]⟩ : BA), .nils] [((0, 1), (iC 7))]),
 qo 9 (.alloc 9 [.int .i64 0, .str (⟨#[]⟩ : BA), .int .i64 0, .int .i64 0, .str (⟨#[]⟩ : BA), .isl .part []]),qp (.store 9 108 6)]) (.cut [6, 9] [(.s 6), (.s 9), (.x 0), (.sub (.sub (.s 9) 600) 5)] (.seq (.reg [qo 109 (.mv 1),qo 110 (.call 110 15 [109, (iC 3)]),qo 111 (.bin .add .num (iC 1) 110),qo 112 (.mv (iC 0))]) (.block 1
 (.pre [.ownc (.s 9) 5 .part (.sub (.sub (.s 9) 600) 5)] (.loop (.keep [0, 1, 2, 6, 9, 111, 112] [(.x 0), (.s 6), (.s 9), (.sub (.sub (.s 9) 600) 5)] (.aft (.seq (.reg [qo 113 (.bin .lss .num 112 111)]) (.seq (.cond 113 .skip (.exit 1)) (.seq (.block 2 (.seq (.reg [qo 114 (.mv 112),qo 10 (.mv 114)])
 (.drw [(.x 0), (.sub (.sub (.s 9) 600) 5)] (ol [0, 1, 2, 4, 5, 6, 7, 3, 8, 9, 10, 11, 12, 13]) [13] [0, 1, 2, 4, 5, 6, 7, 9, 12] [qo 115 (.fa 9 5),qo 116 (.load 115 1 false),qo 117 (.mv 10),qo 118 (.call 118 62 [117]),qo 119 (.mv 0),qo 120 (.mv 1),qo 121 (.mv 2),qo 122 (.bin .sub .num 121 (iC 1)),qo 123 (.call 123 41 [119, 120, 122]),
 qo 124 (.build [.str (⟨#[]⟩ : BA), .int .i64 0, .str (⟨#[]⟩ : BA), .int .i64 0, .int .i64 0, .str (⟨#[]⟩ : BA), .isl .part []] [((0, 1), 118), ((1, 6), 123)]),qo 125 (.bsl .part [124]),qo 126 (.app 126 .part 68719476736 116 125),qo 127 (.fa 9 5),qp (.store 127 126 1)]))) (.reg [qo 128 (.bin .add .num 112 (iC 1)),
 qo 112 (.mv 128)])))) [.keep [0, 1, 2, 6, 9, 111, 112] [(.x 0), (.s 6), (.s 9), (.s 126)], .ownc (.s 9) 5 .part (.sub (.sub (.s 9) 600) 5)])))))) (.seq (.reg [qo 129 (.load 9 6 true),qp (.store 6 129 6)]) (.pre [.frzc (.s 6) 5 .part] .ret)))) .skip)))))))))))))))))))))) (.seq
 (.reg [qo 130 (.build [.int .i64 0, .str (⟨#[]⟩ : BA), .int .i64 0, .int .i64 0, .str (⟨#[]⟩ : BA), .nils] [((0, 1), (iC 6))]),qo 11 (.alloc 11 [.int .i64 0, .str (⟨#[]⟩ : BA), .int .i64 0, .int .i64 0, .str (⟨#[]⟩ : BA), .isl .part []]),qp (.store 11 130 6)]) (.cut [6, 11] [(.s 6), (.s 11), (.x 0), (.sub (.sub (.s 11) 601) 5)] (.seq (.reg [qo 131 (.mv 1),
 qo 132 (.call 132 15 [131, (iC 5)]),qo 133 (.mv (iC 0))]) (.block 3 (.pre [.ownc (.s 11) 5 .part (.sub (.sub (.s 11) 601) 5)] (.loop (.keep [0, 1, 2, 6, 11, 132, 133] [(.x 0), (.s 6), (.s 11), (.sub (.sub (.s 11) 601) 5)] (.aft (.seq (.reg [qo 134 (.bin .lss .num 133 132)]) (.seq (.cond 134 .skip (.exit 3)) (.seq (.block 4 (.seq (.reg [qo 135 (.mv 133),qo 12 (.mv 135)])
 (.drw [(.x 0), (.sub (.sub (.s 11) 601) 5)] (ol [0, 1, 2, 4, 5, 6, 7, 3, 8, 9, 10, 11, 12, 13]) [13] [0, 1, 2, 4, 5, 6, 7, 9, 12] [qo 136 (.fa 11 5),qo 137 (.load 136 1 false),qo 138 (.mv 12),qo 139 (.call 139 62 [138]),qo 140 (.mv 0),qo 141 (.mv 1),qo 142 (.mv 2),qo 143 (.bin .sub .num 142 (iC 1)),qo 144 (.call 144 41 [140, 141, 143]),
 qo 145 (.build [.str (⟨#[]⟩ : BA), .int .i64 0, .str (⟨#[]⟩ : BA), .int .i64 0, .int .i64 0, .str (⟨#[]⟩ : BA), .isl .part []] [((0, 1), 139), ((1, 6), 144)]),qo 146 (.bsl .part [145]),qo 147 (.app 147 .part 68719476736 137 146),qo 148 (.fa 11 5),qp (.store 148 147 1)]))) (.reg [qo 149 (.bin .add .num 133 (iC 1)),
 qo 133 (.mv 149)])))) [.keep [0, 1, 2, 6, 11, 132, 133] [(.x 0), (.s 6), (.s 11), (.s 147)], .ownc (.s 11) 5 .part (.sub (.sub (.s 11) 601) 5)])))))) (.seq (.reg [qo 150 (.load 11 6 true),qp (.store 6 150 6)]) (.pre [.frzc (.s 6) 5 .part] .ret))))))))⟩
theorem w41_typ {O : Oracle TT} (self41_typ : PT → Int → LI → Option (Tp × LI)) (h15_Next : C15_Next O f15_Next) (h39_option : C39_option O f39_option) (h40_pick : C40_pick O f40_pick) (h41_typ : C41_typ O self41_typ) (h62_fieldName : C62_fieldName O f62_fieldName) (h61_pick : C61_pick O f61_pick) (h60_pick : C60_pick O f60_pick) : C41_typ (fun _ => vcF (S := SS) O j41_typ) (b41_typ self41_typ) := by
 intro l1 v2 l3 Q R hQ h
 unfold b41_typ at h
 refine ⟨nle rfl, rfl, ?_⟩
 conv => whnf
 refine ⟨[(.x 0)], ?_⟩
 conv => whnf
 refine h15_Next _ _ _ _ ?_ (sat_bind h)
 rintro v4 l5 h
 obtain ⟨R8, h, hlR8, hrR8⟩ := sat_sbind h
 conv => whnf
 refine ⟨fun σ => ∃ (v7 : Int), R8 (.inr v7) ∧ σ = ⟨[(0, .c (.isl .dfn l1)), (1, .c (.ptr (.x 0) 0 0)), (2, .c (.int .i64 v2)), (6, .c (.ptr (.s 6) 0 0)), (7, .c (.int .i64 v7))], [((.x 0), some (.var [.isl .int l5])), ((.s 6), some (.var [.int .i64 0, .str (⟨#[]⟩ : BA), .int .i64 0, .int .i64 0, .str (⟨#[]⟩ : BA), .isl .part []]))]⟩, ?_, ?_⟩
 conv => whnf
 refine kc h (fun h => ?_) fun h => ?_
 conv => whnf
 exact ⟨v4, sat_some h, rfl⟩
 conv => whnf
 refine ⟨by decide, ?_⟩
 conv => whnf
 exact ⟨(Int.tmod v4 7), sat_some h, rfl⟩
 rintro _ ⟨v7, h, rfl⟩
 replace h := hrR8 _ h
 obtain ⟨R160, h, hlR160, hrR160⟩ := sat_sbind h
 conv => whnf
 refine ⟨fun σ => R160 (.inr ()) ∧ σ = ⟨[(0, .c (.isl .dfn l1)), (1, .c (.ptr (.x 0) 0 0)), (2, .c (.int .i64 v2)), (6, .c (.ptr (.s 6) 0 0))], [((.x 0), some (.var [.isl .int l5])), ((.s 6), some (.var [.int .i64 0, .str (⟨#[]⟩ : BA), .int .i64 0, .int .i64 0, .str (⟨#[]⟩ : BA), .isl .part []]))]⟩, ?_, ?_⟩
 conv => whnf
 refine kc h (fun h => ?_) fun h => ?_
 conv => whnf
 refine kc h (fun h => ?_) fun h => ?_
 conv => whnf
 refine kc h (fun h => ?_) fun h => ?_
 conv => whnf
 refine kc h (fun h => ?_) fun h => ?_
 obtain ⟨R168, h, hlR168, hrR168⟩ := sat_sbind h
 conv => whnf
 refine ⟨fun σ => ∃ (q167 : Bool), R168 (.inr q167) ∧ σ = ⟨[(0, .c (.isl .dfn l1)), (1, .c (.ptr (.x 0) 0 0)), (2, .c (.int .i64 v2)), (6, .c (.ptr (.s 6) 0 0)), (19, .c (.int .i64 v7)), (44, .c (.bool q167))], [((.x 0), some (.var [.isl .int l5])), ((.s 6), some (.var [.int .i64 0, .str (⟨#[]⟩ : BA), .int .i64 0, .int .i64 0, .str (⟨#[]⟩ : BA), .isl .part []]))]⟩, ?_, ?_⟩
 conv => whnf
 refine kc h (fun h => ?_) fun h => ?_
 conv => whnf
 refine kc h (fun h => ?_) fun h => ?_
 conv => whnf
 exact ⟨false, sat_some h, rfl⟩
 conv => whnf
 exact ⟨true, sat_some h, rfl⟩
 conv => whnf
 exact ⟨true, sat_some h, rfl⟩
 rintro _ ⟨q167, h, rfl⟩
 replace h := hrR168 _ h
 cases q167
 replace h := sat_cf h
 conv => whnf
 refine kc h (fun h => ?_) fun h => ?_
 conv => whnf
 refine kc h (fun h => ?_) fun h => ?_
 conv => whnf
 refine kc h (fun h => ?_) fun h => ?_
 conv => whnf
 refine kc h (fun h => ?_) fun h => ?_
 conv => whnf
 refine kc h (fun h => ?_) fun h => ?_
 conv => whnf
 exact ⟨sat_some h, rfl⟩
 obtain ⟨R214, h, hlR214, hrR214⟩ := sat_sbind h
 conv => whnf
 refine ⟨fun σ => ∃ (l211 : LI) (l212 : PT) (n213 : Nat), n213 = l212.length ∧ R214 (.inr (l211, l212)) ∧ σ = ⟨[(6, .c (.ptr (.s 6) 0 0)), (9, .c (.ptr (.s 9) 0 0))], [((.s 6), some (.var [.int .i64 0, .str (⟨#[]⟩ : BA), .int .i64 0, .int .i64 0, .str (⟨#[]⟩ : BA), .isl .part []])), ((.s 9), some (.var [.int .i64 7, .str (⟨#[]⟩ : BA), .int .i64 0, .int .i64 0, .str (⟨#[]⟩ : BA), .osl (.sub (.sub (.s 9) 600) 5) 0 n213])), ((.x 0), some (.var [.isl .int l211])), ((.sub (.sub (.s 9) 600) 5), some (.row false .part l212))]⟩, ?_, ?_⟩
 conv => whnf
 refine ⟨[(.x 0)], ?_⟩
 conv => whnf
 refine h15_Next _ _ _ _ ?_ (sat_bind h)
 rintro v215 l216 h
 obtain ⟨hN236, h⟩ := sat_grdP h
 conv => whnf
 refine ⟨fun σ n => ∃ (f234 : Nat) (v233 : Int) (z : Int) (l237 : PT) (l238 : LI) (n239 : Nat), f234 = n ∧ f234 = ((wrap .i64 ((1 : Int) + v215)) - v233).toNat ∧ 0 ≤ v233 ∧ v233 = z ∧ n239 = l237.length ∧ sat (f41_typ_L4 self41_typ l1 v2 f234 v233 l237 l238) R214 ∧ σ.keep [0, 1, 2, 6, 9, 111, 112] [(.x 0), (.s 6), (.s 9), (.sub (.sub (.s 9) 600) 5)] = ⟨[(0, .c (.isl .dfn l1)), (1, .c (.ptr (.x 0) 0 0)), (2, .c (.int .i64 v2)), (6, .c (.ptr (.s 6) 0 0)), (9, .c (.ptr (.s 9) 0 0)), (111, .c (.int .i64 (wrap .i64 ((1 : Int) + v215)))), (112, .c (.int .i64 z))], [((.x 0), some (.var [.isl .int l238])), ((.s 6), some (.var [.int .i64 0, .str (⟨#[]⟩ : BA), .int .i64 0, .int .i64 0, .str (⟨#[]⟩ : BA), .isl .part []])), ((.s 9), some (.var [.int .i64 7, .str (⟨#[]⟩ : BA), .int .i64 0, .int .i64 0, .str (⟨#[]⟩ : BA), .osl (.sub (.sub (.s 9) 600) 5) 0 n239])), ((.sub (.sub (.s 9) 600) 5), some (.row false .part l237))]⟩, ⟨_, _, 0, _, [], l216, _, rfl, rfl, (by decide), rfl, LN, h, rfl⟩, ?_⟩
 rintro σ n ⟨f234, v233, _, l237, l238, _, rfl, hf234, hpf234, rfl, rfl, h, hσ⟩
 refine kk hσ ?_
 conv => whnf
 intro t240 (ht240 : t240 = decide (v233 < (wrap .i64 ((1 : Int) + v215))))
 cases t240
 obtain rfl := il_nil hf234 ht240
 rw [f41_typ_L4] at h
 conv => whnf
 exact ⟨l238, l237, _, LN, sat_some h, rfl⟩
 obtain ⟨g235, rfl, hwg235, hpg235, hfg235⟩ := il_cons hf234 hpf234 ht240 hN236
 rw [f41_typ_L4] at h
 conv => whnf
 refine ⟨[], ?_⟩
 conv => whnf
 refine h62_fieldName _ _ _ ?_ (sat_bind h)
 rintro s241 h
 conv => whnf
 refine ⟨[(.x 0)], ?_⟩
 conv => whnf
 refine h41_typ _ _ _ _ _ ?_ (sat_bind h)
 rintro k242 m243 lo244 hi245 p246 ps247 l248 h
 conv => whnf
 refine ⟨LN, rfl, ?_⟩
 conv => whnf
 refine ⟨rfl, ?_⟩
 conv => whnf
 refine kp h fun hb249 h => ?_
 conv => whnf
 exact ⟨g235, nls, g235, v233 + 1, _, (l237 ++ ([(s241, (Tp.mk k242 m243 lo244 hi245 p246 ps247))] : PT)), l248, _, rfl, hfg235, hpg235, hwg235.symm, LN, h, rfl⟩
 rintro _ ⟨l211, l212, _, rfl, h, rfl⟩
 replace h := hrR214 _ h
 conv => whnf
 refine ⟨LN, ?_⟩
 replace h := sat_lft hlR160 h
 conv => whnf
 exact ⟨[], ND 1, hQ _ _ _ _ _ _ _ (sat_some h)⟩
 conv => whnf
 refine ⟨[(.x 0)], ?_⟩
 conv => whnf
 refine h41_typ _ _ _ _ _ ?_ (sat_bind h)
 rintro k250 m251 lo252 hi253 p254 ps255 l256 h
 conv => whnf
 refine ⟨[], ?_⟩
 conv => whnf
 refine h39_option _ _ _ _ _ _ _ _ ?_ (sat_bind h)
 rintro k257 m258 lo259 hi260 p261 ps262 h
 replace h := sat_lft hlR160 h
 conv => whnf
 exact ⟨[], ND 1, hQ _ _ _ _ _ _ _ (sat_some h)⟩
 conv => whnf
 refine ⟨[(.x 0)], ?_⟩
 conv => whnf
 refine h15_Next _ _ _ _ ?_ (sat_bind h)
 rintro v263 l264 h
 conv => whnf
 refine ⟨[(.x 0)], ?_⟩
 conv => whnf
 refine h15_Next _ _ _ _ ?_ (sat_bind h)
 rintro v265 l266 h
 conv => whnf
 refine ⟨[(.x 0)], ?_⟩
 conv => whnf
 refine h41_typ _ _ _ _ _ ?_ (sat_bind h)
 rintro k267 m268 lo269 hi270 p271 ps272 l273 h
 replace h := sat_lft hlR160 h
 conv => whnf
 exact ⟨[], ND 1, hQ _ _ _ _ _ _ _ (sat_some h)⟩
 conv => whnf
 refine ⟨[(.x 0)], ?_⟩
 conv => whnf
 refine h15_Next _ _ _ _ ?_ (sat_bind h)
 rintro v274 l275 h
 conv => whnf
 refine ⟨[(.x 0)], ?_⟩
 conv => whnf
 refine h15_Next _ _ _ _ ?_ (sat_bind h)
 rintro v276 l277 h
 conv => whnf
 refine ⟨[(.x 0)], ?_⟩
 conv => whnf
 refine h41_typ _ _ _ _ _ ?_ (sat_bind h)
 rintro k278 m279 lo280 hi281 p282 ps283 l284 h
 replace h := sat_lft hlR160 h
 conv => whnf
 exact ⟨[], ND 1, hQ _ _ _ _ _ _ _ (sat_some h)⟩
 conv => whnf
 intro hl285
 conv => whnf
 refine kc h (fun h => ?_) fun h => ?_
 replace h := sat_lft hlR160 h
 conv => whnf
 exact ⟨[], ND 1, hQ _ _ _ _ _ _ _ (sat_some h)⟩
 conv => whnf
 intro hl287
 conv => whnf
 refine ⟨[(.x 0)], ?_⟩
 conv => whnf
 refine h15_Next _ _ _ _ ?_ (sat_bind h)
 rintro v288 l289 h
 conv => whnf
 refine kg (sat_getL h) fun uu297 huu297 h => ?_
 obtain ⟨a290, ⟨k291, m292, lo293, hi294, p295, ps296⟩⟩ := uu297
 replace h := sat_lft hlR160 h
 conv => whnf
 exact ⟨[], ND 1, hQ _ _ _ _ _ _ _ (sat_some h)⟩
 replace h := sat_ct h
 conv => whnf
 refine ⟨[(.x 0)], ?_⟩
 conv => whnf
 refine h61_pick _ _ _ _ ?_ (sat_bind h)
 rintro s298 l299 h
 replace h := sat_lft hlR160 h
 conv => whnf
 exact ⟨[], ND 1, hQ _ _ _ _ _ _ _ (sat_some h)⟩
 conv => whnf
 refine ⟨[(.x 0)], ?_⟩
 conv => whnf
 refine h60_pick _ _ _ _ ?_ (sat_bind h)
 rintro v300 l301 h
 replace h := sat_lft hlR160 h
 conv => whnf
 exact ⟨[], ND 1, hQ _ _ _ _ _ _ _ (sat_some h)⟩
 conv => whnf
 refine ⟨[(.x 0)], ?_⟩
 conv => whnf
 refine h40_pick _ _ _ _ ?_ (sat_bind h)
 rintro k302 m303 lo304 hi305 p306 ps307 l308 h
 replace h := sat_lft hlR160 h
 conv => whnf
 exact ⟨[], ND 1, hQ _ _ _ _ _ _ _ (sat_some h)⟩
 conv => whnf
 refine ⟨[(.x 0)], ?_⟩
 conv => whnf
 refine h60_pick _ _ _ _ ?_ (sat_bind h)
 rintro v309 l310 h
 replace h := sat_lft hlR160 h
 conv => whnf
 exact ⟨[], ND 1, hQ _ _ _ _ _ _ _ (sat_some h)⟩
 replace h := sat_lft hlR160 h
 conv => whnf
 exact ⟨[], ND 1, hQ _ _ _ _ _ _ _ (sat_some h)⟩
 rintro _ ⟨h, rfl⟩
 replace h := hrR160 _ h
 obtain ⟨R349, h, hlR349, hrR349⟩ := sat_sbind h
 conv => whnf
 refine ⟨fun σ => ∃ (l346 : LI) (l347 : PT) (n348 : Nat), n348 = l347.length ∧ R349 (.inr (l346, l347)) ∧ σ = ⟨[(6, .c (.ptr (.s 6) 0 0)), (11, .c (.ptr (.s 11) 0 0))], [((.s 6), some (.var [.int .i64 0, .str (⟨#[]⟩ : BA), .int .i64 0, .int .i64 0, .str (⟨#[]⟩ : BA), .isl .part []])), ((.s 11), some (.var [.int .i64 6, .str (⟨#[]⟩ : BA), .int .i64 0, .int .i64 0, .str (⟨#[]⟩ : BA), .osl (.sub (.sub (.s 11) 601) 5) 0 n348])), ((.x 0), some (.var [.isl .int l346])), ((.sub (.sub (.s 11) 601) 5), some (.row false .part l347))]⟩, ?_, ?_⟩
 conv => whnf
 refine ⟨[(.x 0)], ?_⟩
 conv => whnf
 refine h15_Next _ _ _ _ ?_ (sat_bind h)
 rintro v350 l351 h
 obtain ⟨hN371, h⟩ := sat_grdP h
 conv => whnf
 refine ⟨fun σ n => ∃ (f369 : Nat) (v368 : Int) (z : Int) (l372 : PT) (l373 : LI) (n374 : Nat), f369 = n ∧ f369 = (v350 - v368).toNat ∧ 0 ≤ v368 ∧ v368 = z ∧ n374 = l372.length ∧ sat (f41_typ_L6 self41_typ l1 v2 f369 v368 l372 l373) R349 ∧ σ.keep [0, 1, 2, 6, 11, 132, 133] [(.x 0), (.s 6), (.s 11), (.sub (.sub (.s 11) 601) 5)] = ⟨[(0, .c (.isl .dfn l1)), (1, .c (.ptr (.x 0) 0 0)), (2, .c (.int .i64 v2)), (6, .c (.ptr (.s 6) 0 0)), (11, .c (.ptr (.s 11) 0 0)), (132, .c (.int .i64 v350)), (133, .c (.int .i64 z))], [((.x 0), some (.var [.isl .int l373])), ((.s 6), some (.var [.int .i64 0, .str (⟨#[]⟩ : BA), .int .i64 0, .int .i64 0, .str (⟨#[]⟩ : BA), .isl .part []])), ((.s 11), some (.var [.int .i64 6, .str (⟨#[]⟩ : BA), .int .i64 0, .int .i64 0, .str (⟨#[]⟩ : BA), .osl (.sub (.sub (.s 11) 601) 5) 0 n374])), ((.sub (.sub (.s 11) 601) 5), some (.row false .part l372))]⟩, ⟨_, _, 0, _, [], l351, _, rfl, rfl, (by decide), rfl, LN, h, rfl⟩, ?_⟩
 rintro σ n ⟨f369, v368, _, l372, l373, _, rfl, hf369, hpf369, rfl, rfl, h, hσ⟩
 refine kk hσ ?_
 conv => whnf
 intro t375 (ht375 : t375 = decide (v368 < v350))
 cases t375
 obtain rfl := il_nil hf369 ht375
 rw [f41_typ_L6] at h
 conv => whnf
 exact ⟨l373, l372, _, LN, sat_some h, rfl⟩
 obtain ⟨g370, rfl, hwg370, hpg370, hfg370⟩ := il_cons hf369 hpf369 ht375 hN371
 rw [f41_typ_L6] at h
 conv => whnf
 refine ⟨[], ?_⟩
 conv => whnf
 refine h62_fieldName _ _ _ ?_ (sat_bind h)
 rintro s376 h
 conv => whnf
 refine ⟨[(.x 0)], ?_⟩
 conv => whnf
 refine h41_typ _ _ _ _ _ ?_ (sat_bind h)
 rintro k377 m378 lo379 hi380 p381 ps382 l383 h
 conv => whnf
 refine ⟨LN, rfl, ?_⟩
 conv => whnf
 refine ⟨rfl, ?_⟩
 conv => whnf
 refine kp h fun hb384 h => ?_
 conv => whnf
 exact ⟨g370, nls, g370, v368 + 1, _, (l372 ++ ([(s376, (Tp.mk k377 m378 lo379 hi380 p381 ps382))] : PT)), l383, _, rfl, hfg370, hpg370, hwg370.symm, LN, h, rfl⟩
 rintro _ ⟨l346, l347, _, rfl, h, rfl⟩
 replace h := hrR349 _ h
 conv => whnf
 refine ⟨LN, ?_⟩
 conv => whnf
 exact ⟨[], ND 1, hQ _ _ _ _ _ _ _ (sat_some h)⟩
theorem cg41_typ {P : Program} {fid : Nat → FuncId} (mx : MX P) (k41_typ : KF P fid 41 j41_typ) (h15_Next : C15_Next (SP P fid) f15_Next) (h39_option : C39_option (SP P fid) f39_option) (h40_pick : C40_pick (SP P fid) f40_pick) (h62_fieldName : C62_fieldName (SP P fid) f62_fieldName) (h61_pick : C61_pick (SP P fid) f61_pick) (h60_pick : C60_pick (SP P fid) f60_pick) : ∀ n, C41_typ (SP P fid) (f41_typ n) := by
 intro n
 induction n with
 | zero => exact fun a0 a1 a2 Q R hQ h => (sat_none h).elim
 | succ n ih =>
  have ih0 := ih
  exact fun a0 a1 a2 Q R hQ h => spec_of_vc mx k41_typ (w41_typ (f41_typ n) h15_Next h39_option h40_pick ih0 h62_fieldName h61_pick h60_pick a0 a1 a2 Q R hQ h)
theorem c41_typ {P : Program} {fid : Nat → FuncId} (mx : MX P) (k41_typ : KF P fid 41 j41_typ) (h15_Next : C15_Next (SP P fid) f15_Next) (h39_option : C39_option (SP P fid) f39_option) (h40_pick : C40_pick (SP P fid) f40_pick) (h62_fieldName : C62_fieldName (SP P fid) f62_fieldName) (h61_pick : C61_pick (SP P fid) f61_pick) (h60_pick : C60_pick (SP P fid) f60_pick) : ∀ n, C41_typ (SP P fid) (f41_typ n) := fun n => (cg41_typ mx k41_typ h15_Next h39_option h40_pick h62_fieldName h61_pick h60_pick n)
def f22_Type (fuel : Nat) : PT → LI → Option (Tp)
  | l1, l2 => (f41_typ fuel l1 (3 : Int) l2).bind fun ((.mk k3 m4 lo5 hi6 p7 ps8), l9) => some (Tp.mk k3 m4 lo5 hi6 p7 ps8)
def C22_Type (O : Oracle TT) (m : PT → LI → Option (Tp)) : Prop :=
  ∀ (l1 : PT) (l2 : LI) (Q : Tp → Prop) (R : RR) (_ : ∀ (k10 : Int) (m11 : BA) (lo12 : Int) (hi13 : Int) (p14 : BA) (ps15 : PT), Q (Tp.mk k10 m11 lo12 hi13 p14 ps15) → R (.agg [.int .i64 k10, .str m11, .int .i64 lo12, .int .i64 hi13, .str p14, .isl .part ps15]) []) (_ : sat (m l1 l2) Q), O 22 [.c (.isl .dfn l1), .c (.isl .int l2)] [] R
def j22_Type : Fn TT := ⟨10, [.cell 4 6 true], (.seq (.reg [qo 4 (.alloc 4 [.int .i64 0, .str (⟨#[]⟩ : BA), .int .i64 0, .int .i64 0, .str (⟨#[]⟩ : BA), .isl .part []])]) (.seq (.reg [qo 5 (.mv 0),qo 6 (.mv 1),qo 7 (.build [.isl .int []] [((0, 1), 6)]),qo 8 (.box 8 7),qo 9 (.call 9 41 [5, 8, (iC 3)]),qp (.store 4 9 6)]) .ret))⟩
theorem w22_Type {O : Oracle TT} (fuel : Nat) (h41_typ : C41_typ O (f41_typ fuel)) : C22_Type (fun _ => vcF (S := SS) O j22_Type) (f22_Type fuel) := by
 intro l1 l2 Q R hQ h
 unfold f22_Type at h
 refine ⟨nle rfl, rfl, ?_⟩
 conv => whnf
 refine ⟨[(.s 8)], ?_⟩
 conv => whnf
 refine h41_typ _ _ _ _ _ ?_ (sat_bind h)
 rintro k3 m4 lo5 hi6 p7 ps8 l9 h
 conv => whnf
 exact ⟨[], ND 0, hQ _ _ _ _ _ _ (sat_some h)⟩
theorem c22_Type {P : Program} {fid : Nat → FuncId} (mx : MX P) (k22_Type : KF P fid 22 j22_Type) (h41_typ : ∀ n, C41_typ (SP P fid) (f41_typ n)) : ∀ n, C22_Type (SP P fid) (f22_Type n) :=
 fun n => fun a0 a1 Q R hQ h => spec_of_vc mx k22_Type (w22_Type n (h41_typ n) a0 a1 Q R hQ h)
def f63_Resolve_L10 (v247 : Int) (s248 : BA) (v249 : Int) (v250 : Int) (s251 : BA) (l252 : PT) : PT → Nat → Option (Sum (Sum (Tp) (Int × BA × Int × Int × BA × PT)) (Int × BA × Int × Int × BA × PT))
  | [], j305 => some (.inr (v247, s248, v249, v250, s251, l252))
  | ((a310, .mk k311 m312 lo313 hi314 p315 ps316)) :: tl307, j305 => cond (a310.toList == s248.toList) (some (.inr (k311, m312, lo313, hi314, p315, ps316))) (f63_Resolve_L10 v247 s248 v249 v250 s251 l252 tl307 (j305 + 1))
def f63_Resolve_L8 (l1 : PT) : Nat → Int → Int → BA → Int → Int → BA → PT → Option (Sum (Tp) (Int × BA × Int × Int × BA × PT))
  | 0, v243, v247, s248, v249, v250, s251, l252 => some (.inr (v247, s248, v249, v250, s251, l252))
  | g245 + 1, v243, v247, s248, v249, v250, s251, l252 => sbind (ο := Int × BA × Int × Int × BA × PT) (cond (v247 != 10) (lft (lft (some (Tp.mk v247 s248 v249 v250 s251 l252)))) (f63_Resolve_L10 v247 s248 v249 v250 s251 l252 l1 0)) (fun (v283, s284, v285, v286, s287, l288) => f63_Resolve_L8 l1 g245 (v243 + 1) v283 s284 v285 v286 s287 l288)
def f63_Resolve : PT → Tp → Option (Tp)
  | l1, .mk k2 m3 lo4 hi5 p6 ps7 => sbind (ο := Int × BA × Int × Int × BA × PT) (grdP ((wrap .i64 (((l1.length : Nat) : Int) + 1)) ≤ 9223372036854775807) (f63_Resolve_L8 l1 ((wrap .i64 (((l1.length : Nat) : Int) + 1)) - 0).toNat 0 k2 m3 lo4 hi5 p6 ps7)) (fun (v160, s161, v162, v163, s164, l165) => some (Tp.mk v160 s161 v162 v163 s164 l165))
def C63_Resolve (O : Oracle TT) (m : PT → Tp → Option (Tp)) : Prop :=
  ∀ (l1 : PT) (k2 : Int) (m3 : BA) (lo4 : Int) (hi5 : Int) (p6 : BA) (ps7 : PT) (Q : Tp → Prop) (R : RR) (_ : ∀ (k319 : Int) (m320 : BA) (lo321 : Int) (hi322 : Int) (p323 : BA) (ps324 : PT), Q (Tp.mk k319 m320 lo321 hi322 p323 ps324) → R (.agg [.int .i64 k319, .str m320, .int .i64 lo321, .int .i64 hi322, .str p323, .isl .part ps324]) []) (_ : sat (m l1 (Tp.mk k2 m3 lo4 hi5 p6 ps7)) Q), O 63 [.c (.isl .dfn l1), .agg [.int .i64 k2, .str m3, .int .i64 lo4, .int .i64 hi5, .str p6, .isl .part ps7]] [] R
def j63_Resolve : Fn TT := ⟨32, [.cell 4 6 true], (.seq (.reg [qo 3 (.box 3 1),qo 4 (.alloc 4 [.int .i64 0, .str (⟨#[]⟩ : BA), .int .i64 0, .int .i64 0, .str (⟨#[]⟩ : BA), .isl .part []])]) (.cut [3, 4] [(.s 3), (.s 4)] (.seq (.reg [qo 7 (.mv 0),qo 8 (.len false 7),qo 9 (.bin .add .num 8 (iC 1)),qo 10 (.mv (iC 0))]) (.block 0 (.loop (.keep [0, 3, 4, 9, 10] [(.s 3), (.s 4)] (.aft
 (.seq (.reg [qo 11 (.bin .lss .num 10 9)]) (.seq (.cond 11 .skip (.exit 0)) (.cut [0, 3, 4, 9, 10] [(.s 3), (.s 4)] (.block 1 (.seq (.seq (.reg [qo 12 (.fa 3 0),qo 13 (.load 12 1 false),qo 14 (.bin .neq .num 13 (iC 10))]) (.cond 14 (.seq (.reg [qo 15 (.load 3 6 true),qp (.store 4 15 6)]) .ret) .skip)) (.seq (.reg [qo 16 (.mv 0),qo 17 (.len false 16),qo 18 (.mv (iC 0))]) (.block 2
 (.loop (.keep [0, 3, 4, 9, 10, 16, 17, 18] [(.s 3), (.s 4)] (.aft (.seq (.reg [qo 19 (.bin .lss .num 18 17)]) (.seq (.cond 19 .skip (.exit 2)) (.seq (.block 3 (.seq (.reg [qo 20 (.idxA 16 18 7),qo 21 (.load 20 7 true),qo 6 (.alloc 6 [.str (⟨#[]⟩ : BA), .int .i64 0, .str (⟨#[]⟩ : BA), .int .i64 0, .int .i64 0, .str (⟨#[]⟩ : BA), .isl .part []]),qp (.store 6 21 7)]) (.seq
 (.reg [qo 22 (.fa 6 0),qo 23 (.load 22 1 false),qo 24 (.fa 3 1),qo 25 (.load 24 1 false),qo 26 (.bin .eql .str 23 25)]) (.cond 26 (.seq (.reg [qo 27 (.fa 6 1),qo 28 (.load 27 6 true),qp (.store 3 28 6)]) (.exit 2)) .skip)))) (.reg [qo 29 (.bin .add .num 18 (iC 1)),qo 18 (.mv 29)])))) [.keep [0, 3, 4, 9, 10, 16, 17, 18] [(.s 3), (.s 4)]]))))))) (.reg [qo 30 (.bin .add .num 10 (iC 1)),
 qo 10 (.mv 30)])))) [.keep [0, 3, 4, 9, 10] [(.s 3), (.s 4)]]))))) (.seq (.reg [qo 31 (.load 3 6 true),qp (.store 4 31 6)]) .ret)))⟩
theorem w63_Resolve {O : Oracle TT} : C63_Resolve (fun _ => vcF (S := SS) O j63_Resolve) f63_Resolve := by
 intro l1 k2 m3 lo4 hi5 p6 ps7 Q R hQ h
 unfold f63_Resolve at h
 refine ⟨nle rfl, rfl, ?_⟩
 obtain ⟨R166, h, hlR166, hrR166⟩ := sat_sbind h
 conv => whnf
 refine ⟨fun σ => ∃ (v160 : Int) (s161 : BA) (v162 : Int) (v163 : Int) (s164 : BA) (l165 : PT), R166 (.inr (v160, s161, v162, v163, s164, l165)) ∧ σ = ⟨[(3, .c (.ptr (.s 3) 0 0)), (4, .c (.ptr (.s 4) 0 0))], [((.s 3), some (.var [.int .i64 v160, .str s161, .int .i64 v162, .int .i64 v163, .str s164, .isl .part l165])), ((.s 4), some (.var [.int .i64 0, .str (⟨#[]⟩ : BA), .int .i64 0, .int .i64 0, .str (⟨#[]⟩ : BA), .isl .part []]))]⟩, ?_, ?_⟩
 conv => whnf
 intro hl167
 obtain ⟨hN246, h⟩ := sat_grdP h
 conv => whnf
 refine ⟨fun σ n => ∃ (f244 : Nat) (v243 : Int) (z : Int) (v247 : Int) (s248 : BA) (v249 : Int) (v250 : Int) (s251 : BA) (l252 : PT), f244 = n ∧ f244 = ((wrap .i64 (((l1.length : Nat) : Int) + 1)) - v243).toNat ∧ 0 ≤ v243 ∧ v243 = z ∧ sat (f63_Resolve_L8 l1 f244 v243 v247 s248 v249 v250 s251 l252) R166 ∧ σ.keep [0, 3, 4, 9, 10] [(.s 3), (.s 4)] = ⟨[(0, .c (.isl .dfn l1)), (3, .c (.ptr (.s 3) 0 0)), (4, .c (.ptr (.s 4) 0 0)), (9, .c (.int .i64 (wrap .i64 (((l1.length : Nat) : Int) + 1)))), (10, .c (.int .i64 z))], [((.s 3), some (.var [.int .i64 v247, .str s248, .int .i64 v249, .int .i64 v250, .str s251, .isl .part l252])), ((.s 4), some (.var [.int .i64 0, .str (⟨#[]⟩ : BA), .int .i64 0, .int .i64 0, .str (⟨#[]⟩ : BA), .isl .part []]))]⟩, ⟨_, _, 0, _, k2, m3, lo4, hi5, p6, ps7, rfl, rfl, (by decide), rfl, h, rfl⟩, ?_⟩
 rintro σ n ⟨f244, v243, _, v247, s248, v249, v250, s251, l252, rfl, hf244, hpf244, rfl, h, hσ⟩
 refine kk hσ ?_
 conv => whnf
 intro t253 (ht253 : t253 = decide (v243 < (wrap .i64 (((l1.length : Nat) : Int) + 1))))
 cases t253
 obtain rfl := il_nil hf244 ht253
 rw [f63_Resolve_L8] at h
 conv => whnf
 exact ⟨v247, s248, v249, v250, s251, l252, sat_some h, rfl⟩
 obtain ⟨g245, rfl, hwg245, hpg245, hfg245⟩ := il_cons hf244 hpf244 ht253 hN246
 rw [f63_Resolve_L8] at h
 obtain ⟨R289, h, hlR289, hrR289⟩ := sat_sbind h
 conv => whnf
 refine ⟨fun σ => ∃ (v283 : Int) (s284 : BA) (v285 : Int) (v286 : Int) (s287 : BA) (l288 : PT), R289 (.inr (v283, s284, v285, v286, s287, l288)) ∧ σ = ⟨[(0, .c (.isl .dfn l1)), (3, .c (.ptr (.s 3) 0 0)), (4, .c (.ptr (.s 4) 0 0)), (9, .c (.int .i64 (wrap .i64 (((l1.length : Nat) : Int) + 1)))), (10, .c (.int .i64 v243))], [((.s 3), some (.var [.int .i64 v283, .str s284, .int .i64 v285, .int .i64 v286, .str s287, .isl .part l288])), ((.s 4), some (.var [.int .i64 0, .str (⟨#[]⟩ : BA), .int .i64 0, .int .i64 0, .str (⟨#[]⟩ : BA), .isl .part []]))]⟩, ?_, ?_⟩
 conv => whnf
 refine kc h (fun h => ?_) fun h => ?_
 conv => whnf
 intro hl291
 conv => whnf
 refine ⟨fun σ n => ∃ (rem306 : PT) (j305 : Nat) (z : Int), n = rem306.length ∧ l1.drop j305 = rem306 ∧ z = ((j305 : Nat) : Int) ∧ sat (f63_Resolve_L10 v247 s248 v249 v250 s251 l252 rem306 j305) R289 ∧ σ.keep [0, 3, 4, 9, 10, 16, 17, 18] [(.s 3), (.s 4)] = ⟨[(0, .c (.isl .dfn l1)), (3, .c (.ptr (.s 3) 0 0)), (4, .c (.ptr (.s 4) 0 0)), (9, .c (.int .i64 (wrap .i64 (((l1.length : Nat) : Int) + 1)))), (10, .c (.int .i64 v243)), (16, .c (.isl .dfn l1)), (17, .c (.int .i64 ((l1.length : Nat) : Int))), (18, .c (.int .i64 z))], [((.s 3), some (.var [.int .i64 v247, .str s248, .int .i64 v249, .int .i64 v250, .str s251, .isl .part l252])), ((.s 4), some (.var [.int .i64 0, .str (⟨#[]⟩ : BA), .int .i64 0, .int .i64 0, .str (⟨#[]⟩ : BA), .isl .part []]))]⟩, ⟨_, l1, 0, _, rfl, rfl, rfl, h, rfl⟩, ?_⟩
 rintro σ n ⟨rem306, j305, _, rfl, hrem306, rfl, h, hσ⟩
 refine kk hσ ?_
 conv => whnf
 intro t309 (ht309 : t309 = decide (((j305 : Nat) : Int) < ((l1.length : Nat) : Int)))
 cases t309
 obtain rfl := ll_nil hrem306 ht309
 rw [f63_Resolve_L10] at h
 conv => whnf
 exact ⟨v247, s248, v249, v250, s251, l252, sat_some h, rfl⟩
 obtain ⟨x308, tl307, rfl, hx308, htl307⟩ := ll_cons hrem306 ht309
 obtain ⟨a310, ⟨k311, m312, lo313, hi314, p315, ps316⟩⟩ := x308
 rw [f63_Resolve_L10] at h
 conv => whnf
 refine ⟨lx_bd hx308, fun uu317 huu317 => ?_⟩
 obtain rfl := lx_eq hx308 huu317
 conv => whnf
 refine kc h (fun h => ?_) fun h => ?_
 conv => whnf
 exact ⟨tl307.length, nls, tl307, j305 + 1, _, rfl, htl307, lx_wr hx308 hl291, h, rfl⟩
 conv => whnf
 exact ⟨k311, m312, lo313, hi314, p315, ps316, sat_some h, rfl⟩
 replace h := sat_lft hlR289 h
 replace h := sat_lft hlR166 h
 conv => whnf
 exact ⟨[], ND 0, hQ _ _ _ _ _ _ (sat_some h)⟩
 rintro _ ⟨v283, s284, v285, v286, s287, l288, h, rfl⟩
 replace h := hrR289 _ h
 conv => whnf
 exact ⟨g245, nls, g245, v243 + 1, _, v283, s284, v285, v286, s287, l288, rfl, hfg245, hpg245, hwg245.symm, h, rfl⟩
 rintro _ ⟨v160, s161, v162, v163, s164, l165, h, rfl⟩
 replace h := hrR166 _ h
 conv => whnf
 exact ⟨[], ND 0, hQ _ _ _ _ _ _ (sat_some h)⟩
theorem c63_Resolve {P : Program} {fid : Nat → FuncId} (mx : MX P) (k63_Resolve : KF P fid 63 j63_Resolve) : C63_Resolve (SP P fid) f63_Resolve :=
 fun a0 a1 a2 a3 a4 a5 a6 Q R hQ h => spec_of_vc mx k63_Resolve (w63_Resolve a0 a1 a2 a3 a4 a5 a6 Q R hQ h)
def f164_byte : BA → Int → LI → Option (Int × Int)
  | s1, v2, l3 => sbind (ο := Int) (getB s1 v2 fun c8 => cond ((c8.toNat : Int) == 92) (some (.inr (wrap .i64 (v2 + 1)))) (some (.inr v2))) (fun v6 => getB s1 (wrap .i64 ((wrap .i64 (v6 + 1)) - 1)) fun c10 => some ((c10.toNat : Int), (wrap .i64 (v6 + 1))))
def C164_byte (O : Oracle TT) (m : BA → Int → LI → Option (Int × Int)) : Prop :=
  ∀ (s1 : BA) (v2 : Int) (l3 : LI) (Q : (Int × Int) → Prop) (R : RR) (_ : ∀ (v11 : Int) (v12 : Int), Q (v11, v12) → R (.c (.int .u8 v11)) [(.x 0, some (.var [.str s1, .int .i64 v12, .ptr (.x 1) 0 0])), (.x 1, some (.var [.isl .int l3]))]) (_ : sat (m s1 v2 l3) Q), O 164 [.c (.ptr (.x 0) 0 0)] [((.x 0), some (.var [.str s1, .int .i64 v2, .ptr (.x 1) 0 0])), ((.x 1), some (.var [.isl .int l3]))] R
def j164_byte : Fn TT := ⟨37, [.t 2], (.seq (.reg [qo 2 (.mv (.c (.int .u8 0)))]) (.cut [0] [(.x 0), (.x 1)] (.seq (.drw [] (oR 10) [] (List.range 10) [qo 3 (.mv 0),qo 4 (.nilck 3),qo 5 (.fa 4 0),qo 6 (.load 5 1 false),qo 7 (.mv 0),qo 8 (.nilck 7),qo 9 (.fa 8 1),qo 10 (.load 9 1 false),qo 11 (.idxS 6 10),qo 12 (.bin .eql .num 11 (.c (.int .u8 92)))]) (.cond 12 (.reg [qo 13 (.mv 0),
 qo 14 (.nilck 13),qo 15 (.fa 14 1),qo 16 (.load 15 1 false),qo 17 (.bin .add .num 16 (iC 1)),qo 18 (.nilck 13),qo 19 (.fa 18 1),qp (.store 19 17 1)]) .skip)) (.seq (.reg [qo 20 (.mv 0),qo 21 (.nilck 20),qo 22 (.fa 21 1),qo 23 (.load 22 1 false),qo 24 (.bin .add .num 23 (iC 1)),qo 25 (.nilck 20),qo 26 (.fa 25 1),qp (.store 26 24 1)]) (.seq
 (.drw [] (oR 11) [] (List.range 11) [qo 27 (.mv 0),qo 28 (.nilck 27),qo 29 (.fa 28 0),qo 30 (.load 29 1 false),qo 31 (.mv 0),qo 32 (.nilck 31),qo 33 (.fa 32 1),qo 34 (.load 33 1 false),qo 35 (.bin .sub .num 34 (iC 1)),qo 36 (.idxS 30 35),qo 2 (.mv 36)]) .ret))))⟩
theorem w164_byte {O : Oracle TT} : C164_byte (fun _ => vcF (S := SS) O j164_byte) f164_byte := by
 intro s1 v2 l3 Q R hQ h
 unfold f164_byte at h
 refine ⟨nle rfl, rfl, ?_⟩
 obtain ⟨R7, h, hlR7, hrR7⟩ := sat_sbind h
 conv => whnf
 refine ⟨fun σ => ∃ (v6 : Int), R7 (.inr v6) ∧ σ = ⟨[(0, .c (.ptr (.x 0) 0 0))], [((.x 0), some (.var [.str s1, .int .i64 v6, .ptr (.x 1) 0 0])), ((.x 1), some (.var [.isl .int l3]))]⟩, ?_, ?_⟩
 conv => whnf
 refine kg (sat_getB h) fun c8 hc8 h => ?_
 conv => whnf
 refine kc h (fun h => ?_) fun h => ?_
 conv => whnf
 exact ⟨v2, sat_some h, rfl⟩
 conv => whnf
 exact ⟨(wrap .i64 (v2 + 1)), sat_some h, rfl⟩
 rintro _ ⟨v6, h, rfl⟩
 replace h := hrR7 _ h
 conv => whnf
 refine kg (sat_getB h) fun c10 hc10 h => ?_
 conv => whnf
 exact ⟨[], ND 2, hQ _ _ (sat_some h)⟩
theorem c164_byte {P : Program} {fid : Nat → FuncId} (mx : MX P) (k164_byte : KF P fid 164 j164_byte) : C164_byte (SP P fid) f164_byte :=
 fun a0 a1 a2 Q R hQ h => spec_of_vc mx k164_byte (w164_byte a0 a1 a2 Q R hQ h)
def f153_class_L10 (v237 : Int) (v238 : Int) : Nat → (List Bool) → Int → Option (Sum (Sum BIL (Int × (List Bool))) (Int × (List Bool)))
  | 0, _, _ => none
  | g250 + 1, l252, v253 => cond (decide (v253 ≤ (wrap .i64 v237))) (grdP ((0 : Int) ≤ v253 ∧ v253 < 256) (getN l252 v253.toNat fun b256 => f153_class_L10 v237 v238 g250 (l252.set v253.toNat true) (wrap .i64 (v253 + 1)))) (some (.inr (v238, l252)))
def f153_class_L8 (fuel : Nat) (s1 : BA) (l3 : LI) : Nat → (List Bool) → Int → Option (Sum BIL (Int × (List Bool)))
  | 0, _, _ => none
  | g195 + 1, l197, v198 => getB s1 v198 fun c199 => cond ((c199.toNat : Int) != 93) (sbind (ο := Int × (List Bool)) ((f164_byte s1 v198 l3).bind fun (v231, v232) => sbind (ο := Int × Int) (getB s1 v232 fun c240 => cond ((c240.toNat : Int) == 45) ((f164_byte s1 (wrap .i64 (v232 + 1)) l3).bind fun (v242, v243) => some (.inr (v242, v243))) (some (.inr (v231, v232)))) (fun (v237, v238) => f153_class_L10 v237 v238 fuel l197 (wrap .i64 v231))) (fun (v228, l229) => f153_class_L8 fuel s1 l3 g195 l229 v228)) (some (.inr (v198, l197)))
def f153_class_L12 (l132 : List Bool) : Nat → Int → LI → Option (Sum BIL (LI))
  | 0, v292, l296 => some (.inr l296)
  | g294 + 1, v292, l296 => grdP ((0 : Int) ≤ v292 ∧ v292 < 256) (getN l132 v292.toNat fun b300 => cond b300 (grdP (l296.length + ([(wrap .u8 v292)] : LI).length ≤ 68719476736) (f153_class_L12 l132 g294 (v292 + 1) (l296 ++ ([(wrap .u8 v292)] : LI)))) (f153_class_L12 l132 g294 (v292 + 1) l296))
def f153_class_L22 (v540 : Int) (v541 : Int) : Nat → (List Bool) → Int → Option (Sum (Sum BIL (Int × (List Bool))) (Int × (List Bool)))
  | 0, _, _ => none
  | g553 + 1, l555, v556 => cond (decide (v556 ≤ (wrap .i64 v540))) (grdP ((0 : Int) ≤ v556 ∧ v556 < 256) (getN l555 v556.toNat fun b559 => f153_class_L22 v540 v541 g553 (l555.set v556.toNat true) (wrap .i64 (v556 + 1)))) (some (.inr (v541, l555)))
def f153_class_L20 (fuel : Nat) (s1 : BA) (l3 : LI) : Nat → (List Bool) → Int → Option (Sum BIL (Int × (List Bool)))
  | 0, _, _ => none
  | g498 + 1, l500, v501 => getB s1 v501 fun c502 => cond ((c502.toNat : Int) != 93) (sbind (ο := Int × (List Bool)) ((f164_byte s1 v501 l3).bind fun (v534, v535) => sbind (ο := Int × Int) (getB s1 v535 fun c543 => cond ((c543.toNat : Int) == 45) ((f164_byte s1 (wrap .i64 (v535 + 1)) l3).bind fun (v545, v546) => some (.inr (v545, v546))) (some (.inr (v534, v535)))) (fun (v540, v541) => f153_class_L22 v540 v541 fuel l500 (wrap .i64 v534))) (fun (v531, l532) => f153_class_L20 fuel s1 l3 g498 l532 v531)) (some (.inr (v501, l500)))
def f153_class_L24 (l435 : List Bool) : Nat → Int → LI → Option (Sum BIL (LI))
  | 0, v595, l599 => some (.inr l599)
  | g597 + 1, v595, l599 => grdP ((0 : Int) ≤ v595 ∧ v595 < 256) (getN l435 v595.toNat fun b603 => cond b603 (f153_class_L24 l435 g597 (v595 + 1) l599) (grdP (l599.length + ([(wrap .u8 v595)] : LI).length ≤ 68719476736) (f153_class_L24 l435 g597 (v595 + 1) (l599 ++ ([(wrap .u8 v595)] : LI)))))
def f153_class (fuel : Nat) : BA → Int → LI → Option BIL
  | s1, v2, l3 => getB s1 v2 fun c4 => cond ((c4.toNat : Int) == 94) (sbind (ο := Unit) (some (.inr ())) (fun () => sbind (ο := Int × (List Bool)) (f153_class_L20 fuel s1 l3 fuel (List.replicate 256 false) (wrap .i64 (v2 + 1))) (fun (v434, l435) => sbind (ο := LI) (grdP ((256 : Int) ≤ 9223372036854775807) (f153_class_L24 l435 ((256 : Int) - 0).toNat 0 [])) (fun l582 => (f15_Next ((l582.length : Nat) : Int) l3).bind fun (v607, l608) => grdP ((0 : Int) ≤ v607 ∧ v607 < ((l582.length : Nat) : Int)) (getN l582 (0 + v607.toNat) fun c610 => some ((strOfNums ([c610] : LI)), (wrap .i64 (v434 + 1)), l608)))))) (sbind (ο := Unit) (some (.inr ())) (fun () => sbind (ο := Int × (List Bool)) (f153_class_L8 fuel s1 l3 fuel (List.replicate 256 false) v2) (fun (v131, l132) => sbind (ο := LI) (grdP ((256 : Int) ≤ 9223372036854775807) (f153_class_L12 l132 ((256 : Int) - 0).toNat 0 [])) (fun l279 => (f15_Next ((l279.length : Nat) : Int) l3).bind fun (v304, l305) => grdP ((0 : Int) ≤ v304 ∧ v304 < ((l279.length : Nat) : Int)) (getN l279 (0 + v304.toNat) fun c307 => some ((strOfNums ([c307] : LI)), (wrap .i64 (v131 + 1)), l305))))))
def C153_class (O : Oracle TT) (m : BA → Int → LI → Option BIL) : Prop :=
  ∀ (s1 : BA) (v2 : Int) (l3 : LI) (Q : BIL → Prop) (R : RR) (_ : ∀ (s612 : BA) (v613 : Int) (l614 : LI), Q (s612, v613, l614) → R (.c (.str s612)) [(.x 0, some (.var [.str s1, .int .i64 v613, .ptr (.x 1) 0 0])), (.x 1, some (.var [.isl .int l614]))]) (_ : sat (m s1 v2 l3) Q), O 153 [.c (.ptr (.x 0) 0 0)] [((.x 0), some (.var [.str s1, .int .i64 v2, .ptr (.x 1) 0 0])), ((.x 1), some (.var [.isl .int l3]))] R
def j153_class : Fn TT := ⟨103, [.t 2], (.seq (.reg [qo 2 (.mv (.c (.str (⟨#[]⟩ : BA))))]) (.seq (.reg [qo 3 (.allocR 3 .bool 256 false)]) (.seq (.drw [] (oR 11) [] (List.range 11) [qo 10 (.mv 0),qo 11 (.nilck 10),qo 12 (.fa 11 0),qo 13 (.load 12 1 false),qo 14 (.mv 0),qo 15 (.nilck 14),qo 16 (.fa 15 1),qo 17 (.load 16 1 false),qo 18 (.idxS 13 17),
 qo 19 (.bin .eql .num 18 (.c (.int .u8 94))),qo 4 (.mv 19)]) (.cut [0, 3, 4] [(.x 0), (.s 3), (.x 1)] (.seq (.reg [qo 20 (.mv 4)]) (.cond 20 (.reg [qo 21 (.mv 0),qo 22 (.nilck 21),qo 23 (.fa 22 1),qo 24 (.load 23 1 false),qo 25 (.bin .add .num 24 (iC 1)),qo 26 (.nilck 21),qo 27 (.fa 26 1),qp (.store 27 25 1)]) .skip)) (.cut [0, 3, 4] [(.x 0), (.s 3), (.x 1)] (.block 0
 (.loop (.keep [0, 3, 4] [(.x 0), (.s 3), (.x 1)] (.aft (.seq (.seq (.drw [] (oR 10) [] (List.range 10) [qo 28 (.mv 0),qo 29 (.nilck 28),qo 30 (.fa 29 0),qo 31 (.load 30 1 false),qo 32 (.mv 0),qo 33 (.nilck 32),qo 34 (.fa 33 1),qo 35 (.load 34 1 false),qo 36 (.idxS 31 35),qo 37 (.bin .neq .num 36 (.c (.int .u8 93)))]) (.cond 37 .skip (.exit 0))) (.cut1 [0, 3, 4] [(.x 0), (.s 3), (.x 1)]
 (.block 1 (.seq (.reg [qo 38 (.mv 0),qo 39 (.call 39 164 [38]),qo 5 (.mv 39)]) (.seq (.reg [qo 40 (.mv 5),qo 6 (.mv 40)]) (.cut [0, 3, 4, 5, 6] [(.x 0), (.s 3), (.x 1)] (.seq (.drw [] (oR 10) [] (List.range 10) [qo 41 (.mv 0),qo 42 (.nilck 41),qo 43 (.fa 42 0),qo 44 (.load 43 1 false),qo 45 (.mv 0),qo 46 (.nilck 45),qo 47 (.fa 46 1),qo 48 (.load 47 1 false),qo 49 (.idxS 44 48),
 qo 50 (.bin .eql .num 49 (.c (.int .u8 45)))]) (.cond 50 (.seq (.reg [qo 51 (.mv 0),qo 52 (.nilck 51),qo 53 (.fa 52 1),qo 54 (.load 53 1 false),qo 55 (.bin .add .num 54 (iC 1)),qo 56 (.nilck 51),qo 57 (.fa 56 1),qp (.store 57 55 1)]) (.reg [qo 58 (.mv 0),qo 59 (.call 59 164 [58]),qo 6 (.mv 59)])) .skip)) (.seq (.reg [qo 60 (.mv 5),qo 61 (.conv .i64 60),qo 7 (.mv 61)]) (.block 2
 (.loop (.keep [0, 3, 4, 6, 7] [(.x 0), (.s 3), (.x 1)] (.aft (.seq (.seq (.reg [qo 62 (.mv 7),qo 63 (.mv 6),qo 64 (.conv .i64 63),qo 65 (.bin .leq .num 62 64)]) (.cond 65 .skip (.exit 2))) (.seq (.block 3 (.reg [qo 68 (.mv 7),qo 69 (.idxR 3 68 1 256),qp (.store 69 bT 1)])) (.reg [qo 66 (.mv 7),qo 67 (.bin .add .num 66 (iC 1)),
 qo 7 (.mv 67)]))) [.keep [0, 3, 4, 6, 7] [(.x 0), (.s 3), (.x 1)]]))))))))))) [.keep [0, 3, 4] [(.x 0), (.s 3), (.x 1)]])))) (.seq (.reg [qo 70 (.mv 0),qo 71 (.nilck 70),qo 72 (.fa 71 1),qo 73 (.load 72 1 false),qo 74 (.bin .add .num 73 (iC 1)),qo 75 (.nilck 70),qo 76 (.fa 75 1),qp (.store 76 74 1)]) (.seq (.reg [qo 8 (.mv (.c (.nils)))])
 (.cut [0, 8] [(.x 0), (.sub (.sub (.s 8) 602) 0), (.x 1)] (.seq (.reg [qo 77 (.mv (iC 0))]) (.block 4 (.pre [.own 8 0 .u8 (.sub (.sub (.s 8) 602) 0)] (.loop (.keep [0, 3, 4, 8, 77] [(.x 0), (.s 3), (.sub (.sub (.s 8) 602) 0), (.x 1)] (.aft (.seq (.reg [qo 78 (.bin .lss .num 77 (iC 256))]) (.seq (.cond 78 .skip (.exit 4)) (.seq (.block 5 (.seq (.reg [qo 79 (.mv 77),qo 9 (.mv 79)]) (.seq
 (.reg [qo 80 (.mv 9),qo 81 (.idxR 3 80 1 256),qo 82 (.load 81 1 false),qo 83 (.mv 4),qo 84 (.bin .neq .bool 82 83)]) (.cond 84 (.reg [qo 85 (.mv 8),qo 86 (.mv 9),qo 87 (.conv .u8 86),qo 88 (.bsl .u8 [87]),qo 89 (.app 89 .u8 68719476736 85 88),qo 8 (.mv 89)]) .skip)))) (.reg [qo 90 (.bin .add .num 77 (iC 1)),
 qo 77 (.mv 90)])))) [.keep [0, 3, 4, 8, 77] [(.x 0), (.s 3), (.sub (.sub (.s 8) 602) 0), (.x 1), (.s 89)], .own 8 0 .u8 (.sub (.sub (.s 8) 602) 0)])))))) (.seq (.reg [qo 91 (.mv 8),qo 92 (.mv 0),qo 93 (.nilck 92),qo 94 (.fa 93 2),qo 95 (.load 94 1 false),qo 96 (.mv 8),qo 97 (.len false 96),qo 98 (.call 98 15 [95, 97]),qo 99 (.idxA 91 98 1),qo 100 (.load 99 1 false),
 qo 101 (.bsl .u8 [100]),qo 102 (.b2s 101),qo 2 (.mv 102)]) .ret)))))))))⟩
theorem w153_class {O : Oracle TT} (fuel : Nat) (h15_Next : C15_Next O f15_Next) (h164_byte : C164_byte O f164_byte) : C153_class (fun _ => vcF (S := SS) O j153_class) (f153_class fuel) := by
 intro s1 v2 l3 Q R hQ h
 unfold f153_class at h
 refine ⟨nle rfl, rfl, ?_⟩
 conv => whnf
 refine kg (sat_getB h) fun c4 hc4 h => ?_
 conv => whnf
 refine kc h (fun h => ?_) fun h => ?_
 obtain ⟨R6, h, hlR6, hrR6⟩ := sat_sbind h
 conv => whnf
 refine ⟨fun σ => R6 (.inr ()) ∧ σ = ⟨[(0, .c (.ptr (.x 0) 0 0)), (3, .c (.ptr (.s 3) 0 0)), (4, .c (.bool false))], [((.x 0), some (.var [.str s1, .int .i64 v2, .ptr (.x 1) 0 0])), ((.s 3), some (.row false .bool (List.replicate 256 false))), ((.x 1), some (.var [.isl .int l3]))]⟩, ?_, ?_⟩
 conv => whnf
 exact ⟨sat_some h, rfl⟩
 rintro _ ⟨h, rfl⟩
 replace h := hrR6 _ h
 obtain ⟨R133, h, hlR133, hrR133⟩ := sat_sbind h
 conv => whnf
 refine ⟨fun σ => ∃ (v131 : Int) (l132 : List Bool), R133 (.inr (v131, l132)) ∧ σ = ⟨[(0, .c (.ptr (.x 0) 0 0)), (3, .c (.ptr (.s 3) 0 0)), (4, .c (.bool false))], [((.x 0), some (.var [.str s1, .int .i64 v131, .ptr (.x 1) 0 0])), ((.s 3), some (.row false .bool l132)), ((.x 1), some (.var [.isl .int l3]))]⟩, ?_, ?_⟩
 conv => whnf
 refine ⟨fun σ n => ∃ (f196 : Nat) (l197 : List Bool) (v198 : Int), f196 = n ∧ sat (f153_class_L8 fuel s1 l3 f196 l197 v198) R133 ∧ σ.keep [0, 3, 4] [(.x 0), (.s 3), (.x 1)] = ⟨[(0, .c (.ptr (.x 0) 0 0)), (3, .c (.ptr (.s 3) 0 0)), (4, .c (.bool false))], [((.x 0), some (.var [.str s1, .int .i64 v198, .ptr (.x 1) 0 0])), ((.s 3), some (.row false .bool l197)), ((.x 1), some (.var [.isl .int l3]))]⟩, ⟨_, _, (List.replicate 256 false), v2, rfl, h, rfl⟩, ?_⟩
 rintro σ n ⟨f196, l197, v198, rfl, h, hσ⟩
 refine kk hσ ?_
 rcases f196 with _ | g195
 rw [f153_class_L8] at h; exact nn h
 rw [f153_class_L8] at h
 conv => whnf
 refine kg (sat_getB h) fun c199 hc199 h => ?_
 conv => whnf
 refine kc h (fun h => ?_) fun h => ?_
 conv => whnf
 exact ⟨v198, l197, sat_some h, rfl⟩
 obtain ⟨R230, h, hlR230, hrR230⟩ := sat_sbind h
 conv => whnf
 refine ⟨fun σ => ∃ (v228 : Int) (l229 : List Bool), R230 (.inr (v228, l229)) ∧ σ = ⟨[(0, .c (.ptr (.x 0) 0 0)), (3, .c (.ptr (.s 3) 0 0)), (4, .c (.bool false))], [((.x 0), some (.var [.str s1, .int .i64 v228, .ptr (.x 1) 0 0])), ((.s 3), some (.row false .bool l229)), ((.x 1), some (.var [.isl .int l3]))]⟩, ?_, ?_⟩
 conv => whnf
 refine ⟨[(.x 0), (.x 1)], ?_⟩
 conv => whnf
 refine h164_byte _ _ _ _ _ ?_ (sat_bind h)
 rintro v231 v232 h
 obtain ⟨R239, h, hlR239, hrR239⟩ := sat_sbind h
 conv => whnf
 refine ⟨fun σ => ∃ (v237 : Int) (v238 : Int), R239 (.inr (v237, v238)) ∧ σ = ⟨[(0, .c (.ptr (.x 0) 0 0)), (3, .c (.ptr (.s 3) 0 0)), (4, .c (.bool false)), (5, .c (.int .u8 v231)), (6, .c (.int .u8 v237))], [((.x 0), some (.var [.str s1, .int .i64 v238, .ptr (.x 1) 0 0])), ((.s 3), some (.row false .bool l197)), ((.x 1), some (.var [.isl .int l3]))]⟩, ?_, ?_⟩
 conv => whnf
 refine kg (sat_getB h) fun c240 hc240 h => ?_
 conv => whnf
 refine kc h (fun h => ?_) fun h => ?_
 conv => whnf
 exact ⟨v231, v232, sat_some h, rfl⟩
 conv => whnf
 refine ⟨[(.x 0), (.x 1)], ?_⟩
 conv => whnf
 refine h164_byte _ _ _ _ _ ?_ (sat_bind h)
 rintro v242 v243 h
 conv => whnf
 exact ⟨v242, v243, sat_some h, rfl⟩
 rintro _ ⟨v237, v238, h, rfl⟩
 replace h := hrR239 _ h
 conv => whnf
 refine ⟨fun σ n => ∃ (f251 : Nat) (l252 : List Bool) (v253 : Int), f251 = n ∧ sat (f153_class_L10 v237 v238 f251 l252 v253) R230 ∧ σ.keep [0, 3, 4, 6, 7] [(.x 0), (.s 3), (.x 1)] = ⟨[(0, .c (.ptr (.x 0) 0 0)), (3, .c (.ptr (.s 3) 0 0)), (4, .c (.bool false)), (6, .c (.int .u8 v237)), (7, .c (.int .i64 v253))], [((.x 0), some (.var [.str s1, .int .i64 v238, .ptr (.x 1) 0 0])), ((.s 3), some (.row false .bool l252)), ((.x 1), some (.var [.isl .int l3]))]⟩, ⟨_, _, l197, (wrap .i64 v231), rfl, h, rfl⟩, ?_⟩
 rintro σ n ⟨f251, l252, v253, rfl, h, hσ⟩
 refine kk hσ ?_
 rcases f251 with _ | g250
 rw [f153_class_L10] at h; exact nn h
 rw [f153_class_L10] at h
 conv => whnf
 refine kc h (fun h => ?_) fun h => ?_
 conv => whnf
 exact ⟨v238, l252, sat_some h, rfl⟩
 conv => whnf
 refine kp h fun hb255 h => ?_
 conv => whnf
 refine kg (sat_getN h) fun b256 huu257 h => ?_
 refine ⟨true, rfl, ?_⟩
 conv => whnf
 exact ⟨g250, nls, g250, (l252.set v253.toNat true), (wrap .i64 (v253 + 1)), rfl, h, rfl⟩
 rintro _ ⟨v228, l229, h, rfl⟩
 replace h := hrR230 _ h
 conv => whnf
 exact ⟨g195, nls, g195, l229, v228, rfl, h, rfl⟩
 rintro _ ⟨v131, l132, h, rfl⟩
 replace h := hrR133 _ h
 obtain ⟨R281, h, hlR281, hrR281⟩ := sat_sbind h
 conv => whnf
 refine ⟨fun σ => ∃ (l279 : LI) (n280 : Nat), n280 = l279.length ∧ R281 (.inr l279) ∧ σ = ⟨[(0, .c (.ptr (.x 0) 0 0)), (8, .c (.osl (.sub (.sub (.s 8) 602) 0) 0 n280))], [((.x 0), some (.var [.str s1, .int .i64 (wrap .i64 (v131 + 1)), .ptr (.x 1) 0 0])), ((.sub (.sub (.s 8) 602) 0), some (.row false .u8 l279)), ((.x 1), some (.var [.isl .int l3]))]⟩, ?_, ?_⟩
 obtain ⟨hN295, h⟩ := sat_grdP h
 conv => whnf
 refine ⟨fun σ n => ∃ (f293 : Nat) (v292 : Int) (z : Int) (l296 : LI) (n297 : Nat), f293 = n ∧ f293 = (256 - v292).toNat ∧ 0 ≤ v292 ∧ v292 = z ∧ n297 = l296.length ∧ sat (f153_class_L12 l132 f293 v292 l296) R281 ∧ σ.keep [0, 3, 4, 8, 77] [(.x 0), (.s 3), (.sub (.sub (.s 8) 602) 0), (.x 1)] = ⟨[(0, .c (.ptr (.x 0) 0 0)), (3, .c (.ptr (.s 3) 0 0)), (4, .c (.bool false)), (8, .c (.osl (.sub (.sub (.s 8) 602) 0) 0 n297)), (77, .c (.int .i64 z))], [((.x 0), some (.var [.str s1, .int .i64 (wrap .i64 (v131 + 1)), .ptr (.x 1) 0 0])), ((.s 3), some (.row false .bool l132)), ((.sub (.sub (.s 8) 602) 0), some (.row false .u8 l296)), ((.x 1), some (.var [.isl .int l3]))]⟩, ⟨_, _, 0, _, [], _, rfl, rfl, (by decide), rfl, LN, h, rfl⟩, ?_⟩
 rintro σ n ⟨f293, v292, _, l296, _, rfl, hf293, hpf293, rfl, rfl, h, hσ⟩
 refine kk hσ ?_
 conv => whnf
 intro t298 (ht298 : t298 = decide (v292 < 256))
 cases t298
 obtain rfl := il_nil hf293 ht298
 rw [f153_class_L12] at h
 conv => whnf
 exact ⟨l296, _, LN, sat_some h, rfl⟩
 obtain ⟨g294, rfl, hwg294, hpg294, hfg294⟩ := il_cons hf293 hpf293 ht298 hN295
 rw [f153_class_L12] at h
 conv => whnf
 refine kp h fun hb299 h => ?_
 conv => whnf
 refine kg (sat_getN h) fun b300 huu301 h => ?_
 cases b300
 replace h := sat_cf h
 conv => whnf
 exact ⟨g294, nls, g294, v292 + 1, _, l296, _, rfl, hfg294, hpg294, hwg294.symm, LN, h, rfl⟩
 replace h := sat_ct h
 conv => whnf
 refine ⟨LN, rfl, ?_⟩
 conv => whnf
 refine ⟨rfl, ?_⟩
 conv => whnf
 refine kp h fun hb302 h => ?_
 conv => whnf
 exact ⟨g294, nls, g294, v292 + 1, _, (l296 ++ ([(wrap .u8 v292)] : LI)), _, rfl, hfg294, hpg294, hwg294.symm, LN, h, rfl⟩
 rintro _ ⟨l279, _, rfl, h, rfl⟩
 replace h := hrR281 _ h
 conv => whnf
 intro hl303
 conv => whnf
 refine ⟨[(.x 1)], ?_⟩
 conv => whnf
 refine h15_Next _ _ _ _ ?_ (sat_bind h)
 rintro v304 l305 h
 conv => whnf
 refine kp h fun hb306 h => ?_
 conv => whnf
 refine kg (sat_getN h) fun c307 huu308 h => ?_
 conv => whnf
 refine ⟨([c307] : LI), rfl, ?_⟩
 conv => whnf
 exact ⟨[], ND 2, hQ _ _ _ (sat_some h)⟩
 obtain ⟨R309, h, hlR309, hrR309⟩ := sat_sbind h
 conv => whnf
 refine ⟨fun σ => R309 (.inr ()) ∧ σ = ⟨[(0, .c (.ptr (.x 0) 0 0)), (3, .c (.ptr (.s 3) 0 0)), (4, .c (.bool true))], [((.x 0), some (.var [.str s1, .int .i64 (wrap .i64 (v2 + 1)), .ptr (.x 1) 0 0])), ((.s 3), some (.row false .bool (List.replicate 256 false))), ((.x 1), some (.var [.isl .int l3]))]⟩, ?_, ?_⟩
 conv => whnf
 exact ⟨sat_some h, rfl⟩
 rintro _ ⟨h, rfl⟩
 replace h := hrR309 _ h
 obtain ⟨R436, h, hlR436, hrR436⟩ := sat_sbind h
 conv => whnf
 refine ⟨fun σ => ∃ (v434 : Int) (l435 : List Bool), R436 (.inr (v434, l435)) ∧ σ = ⟨[(0, .c (.ptr (.x 0) 0 0)), (3, .c (.ptr (.s 3) 0 0)), (4, .c (.bool true))], [((.x 0), some (.var [.str s1, .int .i64 v434, .ptr (.x 1) 0 0])), ((.s 3), some (.row false .bool l435)), ((.x 1), some (.var [.isl .int l3]))]⟩, ?_, ?_⟩
 conv => whnf
 refine ⟨fun σ n => ∃ (f499 : Nat) (l500 : List Bool) (v501 : Int), f499 = n ∧ sat (f153_class_L20 fuel s1 l3 f499 l500 v501) R436 ∧ σ.keep [0, 3, 4] [(.x 0), (.s 3), (.x 1)] = ⟨[(0, .c (.ptr (.x 0) 0 0)), (3, .c (.ptr (.s 3) 0 0)), (4, .c (.bool true))], [((.x 0), some (.var [.str s1, .int .i64 v501, .ptr (.x 1) 0 0])), ((.s 3), some (.row false .bool l500)), ((.x 1), some (.var [.isl .int l3]))]⟩, ⟨_, _, (List.replicate 256 false), (wrap .i64 (v2 + 1)), rfl, h, rfl⟩, ?_⟩
 rintro σ n ⟨f499, l500, v501, rfl, h, hσ⟩
 refine kk hσ ?_
 rcases f499 with _ | g498
 rw [f153_class_L20] at h; exact nn h
 rw [f153_class_L20] at h
 conv => whnf
 refine kg (sat_getB h) fun c502 hc502 h => ?_
 conv => whnf
 refine kc h (fun h => ?_) fun h => ?_
 conv => whnf
 exact ⟨v501, l500, sat_some h, rfl⟩
 obtain ⟨R533, h, hlR533, hrR533⟩ := sat_sbind h
 conv => whnf
 refine ⟨fun σ => ∃ (v531 : Int) (l532 : List Bool), R533 (.inr (v531, l532)) ∧ σ = ⟨[(0, .c (.ptr (.x 0) 0 0)), (3, .c (.ptr (.s 3) 0 0)), (4, .c (.bool true))], [((.x 0), some (.var [.str s1, .int .i64 v531, .ptr (.x 1) 0 0])), ((.s 3), some (.row false .bool l532)), ((.x 1), some (.var [.isl .int l3]))]⟩, ?_, ?_⟩
 conv => whnf
 refine ⟨[(.x 0), (.x 1)], ?_⟩
 conv => whnf
 refine h164_byte _ _ _ _ _ ?_ (sat_bind h)
 rintro v534 v535 h
 obtain ⟨R542, h, hlR542, hrR542⟩ := sat_sbind h
 conv => whnf
 refine ⟨fun σ => ∃ (v540 : Int) (v541 : Int), R542 (.inr (v540, v541)) ∧ σ = ⟨[(0, .c (.ptr (.x 0) 0 0)), (3, .c (.ptr (.s 3) 0 0)), (4, .c (.bool true)), (5, .c (.int .u8 v534)), (6, .c (.int .u8 v540))], [((.x 0), some (.var [.str s1, .int .i64 v541, .ptr (.x 1) 0 0])), ((.s 3), some (.row false .bool l500)), ((.x 1), some (.var [.isl .int l3]))]⟩, ?_, ?_⟩
 conv => whnf
 refine kg (sat_getB h) fun c543 hc543 h => ?_
 conv => whnf
 refine kc h (fun h => ?_) fun h => ?_
 conv => whnf
 exact ⟨v534, v535, sat_some h, rfl⟩
 conv => whnf
 refine ⟨[(.x 0), (.x 1)], ?_⟩
 conv => whnf
 refine h164_byte _ _ _ _ _ ?_ (sat_bind h)
 rintro v545 v546 h
 conv => whnf
 exact ⟨v545, v546, sat_some h, rfl⟩
 rintro _ ⟨v540, v541, h, rfl⟩
 replace h := hrR542 _ h
 conv => whnf
 refine ⟨fun σ n => ∃ (f554 : Nat) (l555 : List Bool) (v556 : Int), f554 = n ∧ sat (f153_class_L22 v540 v541 f554 l555 v556) R533 ∧ σ.keep [0, 3, 4, 6, 7] [(.x 0), (.s 3), (.x 1)] = ⟨[(0, .c (.ptr (.x 0) 0 0)), (3, .c (.ptr (.s 3) 0 0)), (4, .c (.bool true)), (6, .c (.int .u8 v540)), (7, .c (.int .i64 v556))], [((.x 0), some (.var [.str s1, .int .i64 v541, .ptr (.x 1) 0 0])), ((.s 3), some (.row false .bool l555)), ((.x 1), some (.var [.isl .int l3]))]⟩, ⟨_, _, l500, (wrap .i64 v534), rfl, h, rfl⟩, ?_⟩
 rintro σ n ⟨f554, l555, v556, rfl, h, hσ⟩
 refine kk hσ ?_
 rcases f554 with _ | g553
 rw [f153_class_L22] at h; exact nn h
 rw [f153_class_L22] at h
 conv => whnf
 refine kc h (fun h => ?_) fun h => ?_
 conv => whnf
 exact ⟨v541, l555, sat_some h, rfl⟩
 conv => whnf
 refine kp h fun hb558 h => ?_
 conv => whnf
 refine kg (sat_getN h) fun b559 huu560 h => ?_
 refine ⟨true, rfl, ?_⟩
 conv => whnf
 exact ⟨g553, nls, g553, (l555.set v556.toNat true), (wrap .i64 (v556 + 1)), rfl, h, rfl⟩
 rintro _ ⟨v531, l532, h, rfl⟩
 replace h := hrR533 _ h
 conv => whnf
 exact ⟨g498, nls, g498, l532, v531, rfl, h, rfl⟩
 rintro _ ⟨v434, l435, h, rfl⟩
 replace h := hrR436 _ h
 obtain ⟨R584, h, hlR584, hrR584⟩ := sat_sbind h
 conv => whnf
 refine ⟨fun σ => ∃ (l582 : LI) (n583 : Nat), n583 = l582.length ∧ R584 (.inr l582) ∧ σ = ⟨[(0, .c (.ptr (.x 0) 0 0)), (8, .c (.osl (.sub (.sub (.s 8) 602) 0) 0 n583))], [((.x 0), some (.var [.str s1, .int .i64 (wrap .i64 (v434 + 1)), .ptr (.x 1) 0 0])), ((.sub (.sub (.s 8) 602) 0), some (.row false .u8 l582)), ((.x 1), some (.var [.isl .int l3]))]⟩, ?_, ?_⟩
 obtain ⟨hN598, h⟩ := sat_grdP h
 conv => whnf
 refine ⟨fun σ n => ∃ (f596 : Nat) (v595 : Int) (z : Int) (l599 : LI) (n600 : Nat), f596 = n ∧ f596 = (256 - v595).toNat ∧ 0 ≤ v595 ∧ v595 = z ∧ n600 = l599.length ∧ sat (f153_class_L24 l435 f596 v595 l599) R584 ∧ σ.keep [0, 3, 4, 8, 77] [(.x 0), (.s 3), (.sub (.sub (.s 8) 602) 0), (.x 1)] = ⟨[(0, .c (.ptr (.x 0) 0 0)), (3, .c (.ptr (.s 3) 0 0)), (4, .c (.bool true)), (8, .c (.osl (.sub (.sub (.s 8) 602) 0) 0 n600)), (77, .c (.int .i64 z))], [((.x 0), some (.var [.str s1, .int .i64 (wrap .i64 (v434 + 1)), .ptr (.x 1) 0 0])), ((.s 3), some (.row false .bool l435)), ((.sub (.sub (.s 8) 602) 0), some (.row false .u8 l599)), ((.x 1), some (.var [.isl .int l3]))]⟩, ⟨_, _, 0, _, [], _, rfl, rfl, (by decide), rfl, LN, h, rfl⟩, ?_⟩
 rintro σ n ⟨f596, v595, _, l599, _, rfl, hf596, hpf596, rfl, rfl, h, hσ⟩
 refine kk hσ ?_
 conv => whnf
 intro t601 (ht601 : t601 = decide (v595 < 256))
 cases t601
 obtain rfl := il_nil hf596 ht601
 rw [f153_class_L24] at h
 conv => whnf
 exact ⟨l599, _, LN, sat_some h, rfl⟩
 obtain ⟨g597, rfl, hwg597, hpg597, hfg597⟩ := il_cons hf596 hpf596 ht601 hN598
 rw [f153_class_L24] at h
 conv => whnf
 refine kp h fun hb602 h => ?_
 conv => whnf
 refine kg (sat_getN h) fun b603 huu604 h => ?_
 cases b603
 replace h := sat_cf h
 conv => whnf
 refine ⟨LN, rfl, ?_⟩
 conv => whnf
 refine ⟨rfl, ?_⟩
 conv => whnf
 refine kp h fun hb605 h => ?_
 conv => whnf
 exact ⟨g597, nls, g597, v595 + 1, _, (l599 ++ ([(wrap .u8 v595)] : LI)), _, rfl, hfg597, hpg597, hwg597.symm, LN, h, rfl⟩
 replace h := sat_ct h
 conv => whnf
 exact ⟨g597, nls, g597, v595 + 1, _, l599, _, rfl, hfg597, hpg597, hwg597.symm, LN, h, rfl⟩
 rintro _ ⟨l582, _, rfl, h, rfl⟩
 replace h := hrR584 _ h
 conv => whnf
 intro hl606
 conv => whnf
 refine ⟨[(.x 1)], ?_⟩
 conv => whnf
 refine h15_Next _ _ _ _ ?_ (sat_bind h)
 rintro v607 l608 h
 conv => whnf
 refine kp h fun hb609 h => ?_
 conv => whnf
 refine kg (sat_getN h) fun c610 huu611 h => ?_
 conv => whnf
 refine ⟨([c610] : LI), rfl, ?_⟩
 conv => whnf
 exact ⟨[], ND 2, hQ _ _ _ (sat_some h)⟩
theorem c153_class {P : Program} {fid : Nat → FuncId} (mx : MX P) (k153_class : KF P fid 153 j153_class) (h15_Next : C15_Next (SP P fid) f15_Next) (h164_byte : C164_byte (SP P fid) f164_byte) : ∀ n, C153_class (SP P fid) (f153_class n) :=
 fun n => fun a0 a1 a2 Q R hQ h => spec_of_vc mx k153_class (w153_class n h15_Next h164_byte a0 a1 a2 Q R hQ h)
def f82_alternatives_L2 (self104_sequence : BA → Int → LI → Option BIL) (s1 : BA) : Nat → LB → Int → LI → Option (Sum BIL (Int × LB × LI))
  | 0, _, _, _ => none
  | g47 + 1, l49, v50, l51 => cond (decide (v50 < (s1.size : Int))) (getB s1 v50 fun c54 => cond ((c54.toNat : Int) == 124) ((self104_sequence s1 (wrap .i64 (v50 + 1)) l51).bind fun (s56, v57, l58) => grdP (l49.length + ([s56] : LB).length ≤ 68719476736) (f82_alternatives_L2 self104_sequence s1 g47 (l49 ++ ([s56] : LB)) v57 l58)) (some (.inr (v50, l49, l51)))) (some (.inr (v50, l49, l51)))
def b82_alternatives (fuel : Nat) (self104_sequence : BA → Int → LI → Option BIL) : BA → Int → LI → Option BIL
  | s1, v2, l3 => (self104_sequence s1 v2 l3).bind fun (s4, v5, l6) => sbind (ο := Int × LB × LI) (f82_alternatives_L2 self104_sequence s1 fuel ([s4] : LB) v5 l6) (fun (v31, l32, l33) => (f15_Next ((l32.length : Nat) : Int) l33).bind fun (v61, l62) => grdP ((0 : Int) ≤ v61 ∧ v61 < ((l32.length : Nat) : Int)) (getN l32 (0 + v61.toNat) fun w64 => some (w64, v31, l62)))
def f104_sequence_L10 (self131_item : BA → Int → LI → Option BIL) (s1 : BA) (v385 : Int) (v467 : Int) : Nat → Int → BA → BA → LI → Option (Sum (Sum BIL BIL) BIL)
  | 0, v494, s498, s499, l500 => some (.inr (s498, v467, l500))
  | g496 + 1, v494, s498, s499, l500 => cond (decide (v494 > 0)) ((self131_item s1 v385 l500).bind fun (s504, v505, l506) => grdP (((s498.size + s504.size : Nat) : Int) ≤ 9223372036854775807) (f104_sequence_L10 self131_item s1 v385 v467 g496 (v494 + 1) (s498 ++ s504) s504 l506)) (grdP (((s498.size + s499.size : Nat) : Int) ≤ 9223372036854775807) (f104_sequence_L10 self131_item s1 v385 v467 g496 (v494 + 1) (s498 ++ s499) s499 l500))
def f104_sequence_L8 (self131_item : BA → Int → LI → Option BIL) (s1 : BA) : Nat → BA → Int → LI → Option (Sum BIL BIL)
  | 0, _, _, _ => none
  | g382 + 1, s384, v385, l386 => cond (decide (v385 < (s1.size : Int))) (getB s1 v385 fun c388 => cond ((c388.toNat : Int) != 124) (getB s1 v385 fun c390 => cond ((c390.toNat : Int) != 41) (sbind (ο := BA × Int × LI) ((self131_item s1 v385 l386).bind fun (s452, v453, l454) => sbind (ο := Int × Int × LI) (cond (decide (v453 < (s1.size : Int))) (getB s1 v453 fun c471 => cond ((c471.toNat : Int) == 42) ((f15_Next (3 : Int) l454).bind fun (v479, l480) => some (.inr (v479, (wrap .i64 (v453 + 1)), l480))) (cond ((c471.toNat : Int) == 43) ((f15_Next (2 : Int) l454).bind fun (v477, l478) => some (.inr ((wrap .i64 ((1 : Int) + v477)), (wrap .i64 (v453 + 1)), l478))) (cond ((c471.toNat : Int) == 63) ((f15_Next (2 : Int) l454).bind fun (v475, l476) => some (.inr (v475, (wrap .i64 (v453 + 1)), l476))) (some (.inr (1, v453, l454)))))) (some (.inr (1, v453, l454)))) (fun (v466, v467, l468) => grdP (v466 ≤ 9223372036854775807) (f104_sequence_L10 self131_item s1 v385 v467 (v466 - 0).toNat 0 s384 s452 l468))) (fun (s448, v449, l450) => f104_sequence_L8 self131_item s1 g382 s448 v449 l450)) (some (.inr (s384, v385, l386)))) (some (.inr (s384, v385, l386)))) (some (.inr (s384, v385, l386)))
def b104_sequence (fuel : Nat) (self131_item : BA → Int → LI → Option BIL) : BA → Int → LI → Option BIL
  | s1, v2, l3 => sbind (ο := BA × Int × LI) (f104_sequence_L8 self131_item s1 fuel (⟨#[]⟩ : BA) v2 l3) (fun (s254, v255, l256) => some (s254, v255, l256))
def b131_item (fuel : Nat) (self82_alternatives : BA → Int → LI → Option BIL) : BA → Int → LI → Option BIL
  | s1, v2, l3 => getB s1 v2 fun c4 => cond ((c4.toNat : Int) == 40) ((self82_alternatives s1 (wrap .i64 (v2 + 1)) l3).bind fun (s15, v16, l17) => some (s15, (wrap .i64 (v16 + 1)), l17)) (cond ((c4.toNat : Int) == 46) ((f61_pick ([(⟨#[97]⟩ : BA), (⟨#[98]⟩ : BA), (⟨#[45]⟩ : BA), (⟨#[0]⟩ : BA), (⟨#[55]⟩ : BA)] : LB) l3).bind fun (s13, l14) => some (s13, (wrap .i64 (v2 + 1)), l14)) (cond ((c4.toNat : Int) == 91) ((f153_class fuel s1 (wrap .i64 (v2 + 1)) l3).bind fun (s10, v11, l12) => some (s10, v11, l12)) (cond ((c4.toNat : Int) == 92) (getB s1 (wrap .i64 (v2 + 1)) fun c9 => some ((strOfNums ([(c9.toNat : Int)] : LI)), (wrap .i64 ((wrap .i64 (v2 + 1)) + 1)), l3)) (some ((strOfNums ([(c4.toNat : Int)] : LI)), (wrap .i64 (v2 + 1)), l3)))))
def S82_alternatives : Nat → (BA → Int → LI → Option BIL) × (BA → Int → LI → Option BIL) × (BA → Int → LI → Option BIL)
  | 0 => (fun _ _ _ => none, fun _ _ _ => none, fun _ _ _ => none)
  | n + 1 => (b82_alternatives n (S82_alternatives n).2.1, b104_sequence n (S82_alternatives n).2.2, b131_item n (S82_alternatives n).1)
def f82_alternatives (n : Nat) : BA → Int → LI → Option BIL := (S82_alternatives n).1
def f104_sequence (n : Nat) : BA → Int → LI → Option BIL := (S82_alternatives n).2.1
def f131_item (n : Nat) : BA → Int → LI → Option BIL := (S82_alternatives n).2.2
def C82_alternatives (O : Oracle TT) (m : BA → Int → LI → Option BIL) : Prop :=
  ∀ (s1 : BA) (v2 : Int) (l3 : LI) (Q : BIL → Prop) (R : RR) (_ : ∀ (s66 : BA) (v67 : Int) (l68 : LI), Q (s66, v67, l68) → R (.c (.str s66)) [(.x 0, some (.var [.str s1, .int .i64 v67, .ptr (.x 1) 0 0])), (.x 1, some (.var [.isl .int l68]))]) (_ : sat (m s1 v2 l3) Q), O 82 [.c (.ptr (.x 0) 0 0)] [((.x 0), some (.var [.str s1, .int .i64 v2, .ptr (.x 1) 0 0])), ((.x 1), some (.var [.isl .int l3]))] R
def j82_alternatives : Fn TT := ⟨51, [.t 2], (.seq (.reg [qo 2 (.mv (.c (.str (⟨#[]⟩ : BA))))]) (.seq (.reg [qo 4 (.mv 0),qo 5 (.call 5 104 [4]),qo 6 (.bslice 6 .str [5]),qo 3 (.mv 6)]) (.cut [0, 3] [(.x 0), (.sub (.sub (.s 3) 600) 0), (.x 1)] (.block 0 (.pre [.own 3 0 .str (.sub (.sub (.s 3) 600) 0)] (.loop (.keep [0, 3] [(.x 0), (.sub (.sub (.s 3) 600) 0), (.x 1)] (.aft (.seq (.seq
 (.drw [] (oR 22) [] (List.range 22) [qo 7 (.mv 0),qo 8 (.nilck 7),qo 9 (.fa 8 1),qo 10 (.load 9 1 false),qo 11 (.mv 0),qo 12 (.nilck 11),qo 13 (.fa 12 0),qo 14 (.load 13 1 false),qo 15 (.len true 14),qo 16 (.bin .lss .num 10 15),qo 17 (.mv 16),qg 17 18 (.mv 0),qg 17 19 (.nilck 18),qg 17 20 (.fa 19 0),qg 17 21 (.load 20 1 false),qg 17 22 (.mv 0),qg 17 23 (.nilck 22),
 qg 17 24 (.fa 23 1),qg 17 25 (.load 24 1 false),qg 17 26 (.idxS 21 25),qg 17 27 (.bin .eql .num 26 (.c (.int .u8 124))),qo 28 (.pick 17 27 bF)]) (.cond 28 .skip (.exit 0))) (.block 1 (.seq (.reg [qo 29 (.mv 0),qo 30 (.nilck 29),qo 31 (.fa 30 1),qo 32 (.load 31 1 false),qo 33 (.bin .add .num 32 (iC 1)),qo 34 (.nilck 29),qo 35 (.fa 34 1),qp (.store 35 33 1)]) (.reg [qo 36 (.mv 3),
 qo 37 (.mv 0),qo 38 (.call 38 104 [37]),qo 39 (.bsl .str [38]),qo 40 (.app 40 .str 68719476736 36 39),qo 3 (.mv 40)])))) [.keep [0, 3] [(.x 0), (.s 40), (.x 1)], .own 3 0 .str (.sub (.sub (.s 3) 600) 0)]))))) (.seq (.reg [qo 41 (.mv 3),qo 42 (.mv 0),qo 43 (.nilck 42),qo 44 (.fa 43 2),qo 45 (.load 44 1 false),qo 46 (.mv 3),qo 47 (.len false 46),qo 48 (.call 48 15 [45, 47]),
 qo 49 (.idxA 41 48 1),qo 50 (.load 49 1 false),qo 2 (.mv 50)]) .ret))))⟩
def C104_sequence (O : Oracle TT) (m : BA → Int → LI → Option BIL) : Prop :=
  ∀ (s1 : BA) (v2 : Int) (l3 : LI) (Q : BIL → Prop) (R : RR) (_ : ∀ (s508 : BA) (v509 : Int) (l510 : LI), Q (s508, v509, l510) → R (.c (.str s508)) [(.x 0, some (.var [.str s1, .int .i64 v509, .ptr (.x 1) 0 0])), (.x 1, some (.var [.isl .int l510]))]) (_ : sat (m s1 v2 l3) Q), O 104 [.c (.ptr (.x 0) 0 0)] [((.x 0), some (.var [.str s1, .int .i64 v2, .ptr (.x 1) 0 0])), ((.x 1), some (.var [.isl .int l3]))] R
def j104_sequence : Fn TT := ⟨136, [.t 2], (.seq (.reg [qo 2 (.mv (.c (.str (⟨#[]⟩ : BA))))]) (.seq (.reg [qo 3 (.mv (.c (.str (⟨#[]⟩ : BA))))]) (.cut [3] [(.x 0), (.x 1)] (.block 0 (.loop (.keep [0, 3] [(.x 0), (.x 1)] (.aft (.seq (.seq (.drw [] (oR 34) [] (List.range 34) [qo 9 (.mv 0),qo 10 (.nilck 9),qo 11 (.fa 10 1),qo 12 (.load 11 1 false),qo 13 (.mv 0),qo 14 (.nilck 13),
 qo 15 (.fa 14 0),qo 16 (.load 15 1 false),qo 17 (.len true 16),qo 18 (.bin .lss .num 12 17),qo 19 (.mv 18),qg 19 20 (.mv 0),qg 19 21 (.nilck 20),qg 19 22 (.fa 21 0),qg 19 23 (.load 22 1 false),qg 19 24 (.mv 0),qg 19 25 (.nilck 24),qg 19 26 (.fa 25 1),qg 19 27 (.load 26 1 false),qg 19 28 (.idxS 23 27),qg 19 29 (.bin .neq .num 28 (.c (.int .u8 124))),qo 30 (.pick 19 29 bF),
 qo 31 (.mv 30),qg 31 32 (.mv 0),qg 31 33 (.nilck 32),qg 31 34 (.fa 33 0),qg 31 35 (.load 34 1 false),qg 31 36 (.mv 0),qg 31 37 (.nilck 36),qg 31 38 (.fa 37 1),qg 31 39 (.load 38 1 false),qg 31 40 (.idxS 35 39),qg 31 41 (.bin .neq .num 40 (.c (.int .u8 41))),qo 42 (.pick 31 41 bF)]) (.cond 42 .skip (.exit 0))) (.cut1 [0, 3] [(.x 0), (.x 1)] (.block 1 (.seq (.reg [qo 43 (.mv 0),
 qo 44 (.nilck 43),qo 45 (.fa 44 1),qo 46 (.load 45 1 false),qo 4 (.mv 46)]) (.seq (.reg [qo 47 (.mv 0),qo 48 (.call 48 131 [47]),qo 5 (.mv 48)]) (.seq (.reg [qo 6 (.mv (iC 1))]) (.cut [0, 3, 4, 5, 6] [(.x 0), (.x 1)] (.seq (.drw [] (oR 10) [] (List.range 10) [qo 49 (.mv 0),qo 50 (.nilck 49),qo 51 (.fa 50 1),qo 52 (.load 51 1 false),qo 53 (.mv 0),qo 54 (.nilck 53),qo 55 (.fa 54 0),
 qo 56 (.load 55 1 false),qo 57 (.len true 56),qo 58 (.bin .lss .num 52 57)]) (.cond 58 (.seq (.drw [] (oR 9) [] (List.range 9) [qo 59 (.mv 0),qo 60 (.nilck 59),qo 61 (.fa 60 0),qo 62 (.load 61 1 false),qo 63 (.mv 0),qo 64 (.nilck 63),qo 65 (.fa 64 1),qo 66 (.load 65 1 false),qo 67 (.idxS 62 66)]) (.block 2 (.seq (.reg [qo 69 (.bin .eql .num 67 (.c (.int .u8 42))),qo 68 (.mv 69)])
 (.cond 68 (.seq (.reg [qo 70 (.mv 0),qo 71 (.nilck 70),qo 72 (.fa 71 2),qo 73 (.load 72 1 false),qo 74 (.call 74 15 [73, (iC 3)]),qo 6 (.mv 74)]) (.reg [qo 75 (.mv 0),qo 76 (.nilck 75),qo 77 (.fa 76 1),qo 78 (.load 77 1 false),qo 79 (.bin .add .num 78 (iC 1)),qo 80 (.nilck 75),qo 81 (.fa 80 1),qp (.store 81 79 1)])) (.seq (.reg [qo 83 (.bin .eql .num 67 (.c (.int .u8 43))),
 qo 82 (.mv 83)]) (.cond 82 (.seq (.reg [qo 84 (.mv 0),qo 85 (.nilck 84),qo 86 (.fa 85 2),qo 87 (.load 86 1 false),qo 88 (.call 88 15 [87, (iC 2)]),qo 89 (.bin .add .num (iC 1) 88),qo 6 (.mv 89)]) (.reg [qo 90 (.mv 0),qo 91 (.nilck 90),qo 92 (.fa 91 1),qo 93 (.load 92 1 false),qo 94 (.bin .add .num 93 (iC 1)),qo 95 (.nilck 90),qo 96 (.fa 95 1),qp (.store 96 94 1)])) (.seq
 (.reg [qo 98 (.bin .eql .num 67 (.c (.int .u8 63))),qo 97 (.mv 98)]) (.cond 97 (.seq (.reg [qo 99 (.mv 0),qo 100 (.nilck 99),qo 101 (.fa 100 2),qo 102 (.load 101 1 false),qo 103 (.call 103 15 [102, (iC 2)]),qo 6 (.mv 103)]) (.reg [qo 104 (.mv 0),qo 105 (.nilck 104),qo 106 (.fa 105 1),qo 107 (.load 106 1 false),qo 108 (.bin .add .num 107 (iC 1)),qo 109 (.nilck 104),qo 110 (.fa 109 1),
 qp (.store 110 108 1)])) .skip)))))))) .skip)) (.seq (.reg [qo 111 (.mv 0),qo 112 (.nilck 111),qo 113 (.fa 112 1),qo 114 (.load 113 1 false),qo 7 (.mv 114)]) (.seq (.reg [qo 115 (.mv 6),qo 116 (.mv (iC 0))]) (.block 3 (.loop (.keep [0, 3, 4, 5, 7, 115, 116] [(.x 0), (.x 1)] (.aft (.seq (.reg [qo 117 (.bin .lss .num 116 115)]) (.seq (.cond 117 .skip (.exit 3)) (.seq (.block 4 (.seq
 (.reg [qo 118 (.mv 116),qo 8 (.mv 118)]) (.seq (.seq (.reg [qo 119 (.mv 8),qo 120 (.bin .gtr .num 119 (iC 0))]) (.cond 120 (.seq (.reg [qo 121 (.mv 0),qo 122 (.mv 4),qo 123 (.nilck 121),qo 124 (.fa 123 1),qp (.store 124 122 1)]) (.seq (.reg [qo 125 (.mv 0),qo 126 (.call 126 131 [125]),qo 5 (.mv 126)]) (.reg [qo 127 (.mv 0),qo 128 (.mv 7),qo 129 (.nilck 127),qo 130 (.fa 129 1),
 qp (.store 130 128 1)]))) .skip)) (.reg [qo 131 (.mv 3),qo 132 (.mv 5),qo 133 (.bin .add .str 131 132),qo 3 (.mv 133)])))) (.reg [qo 134 (.bin .add .num 116 (iC 1)),qo 116 (.mv 134)])))) [.keep [0, 3, 4, 5, 7, 115, 116] [(.x 0), (.x 1)]]))))))))))))) [.keep [0, 3] [(.x 0), (.x 1)]])))) (.seq (.reg [qo 135 (.mv 3),qo 2 (.mv 135)]) .ret))))⟩
def C131_item (O : Oracle TT) (m : BA → Int → LI → Option BIL) : Prop :=
  ∀ (s1 : BA) (v2 : Int) (l3 : LI) (Q : BIL → Prop) (R : RR) (_ : ∀ (s18 : BA) (v19 : Int) (l20 : LI), Q (s18, v19, l20) → R (.c (.str s18)) [(.x 0, some (.var [.str s1, .int .i64 v19, .ptr (.x 1) 0 0])), (.x 1, some (.var [.isl .int l20]))]) (_ : sat (m s1 v2 l3) Q), O 131 [.c (.ptr (.x 0) 0 0)] [((.x 0), some (.var [.str s1, .int .i64 v2, .ptr (.x 1) 0 0])), ((.x 1), some (.var [.isl .int l3]))] R
def j131_item : Fn TT := ⟨67, [.t 2], (.seq (.reg [qo 2 (.mv (.c (.str (⟨#[]⟩ : BA))))]) (.seq (.drw [] (oR 10) [] (List.range 10) [qo 5 (.mv 0),qo 6 (.nilck 5),qo 7 (.fa 6 0),qo 8 (.load 7 1 false),qo 9 (.mv 0),qo 10 (.nilck 9),qo 11 (.fa 10 1),qo 12 (.load 11 1 false),qo 13 (.idxS 8 12),qo 3 (.mv 13)]) (.seq (.reg [qo 14 (.mv 0),qo 15 (.nilck 14),qo 16 (.fa 15 1),
 qo 17 (.load 16 1 false),qo 18 (.bin .add .num 17 (iC 1)),qo 19 (.nilck 14),qo 20 (.fa 19 1),qp (.store 20 18 1)]) (.seq (.seq (.reg [qo 21 (.mv 3)]) (.block 0 (.seq (.reg [qo 23 (.bin .eql .num 21 (.c (.int .u8 40))),qo 22 (.mv 23)]) (.cond 22 (.seq (.reg [qo 24 (.mv 0),qo 25 (.call 25 82 [24]),qo 4 (.mv 25)]) (.seq (.reg [qo 26 (.mv 0),qo 27 (.nilck 26),qo 28 (.fa 27 1),
 qo 29 (.load 28 1 false),qo 30 (.bin .add .num 29 (iC 1)),qo 31 (.nilck 26),qo 32 (.fa 31 1),qp (.store 32 30 1)]) (.seq (.reg [qo 33 (.mv 4),qo 2 (.mv 33)]) .ret))) (.seq (.reg [qo 35 (.bin .eql .num 21 (.c (.int .u8 46))),qo 34 (.mv 35)]) (.cond 34 (.seq (.reg [qo 36 (.mv 0),qo 37 (.nilck 36),qo 38 (.fa 37 2),qo 39 (.load 38 1 false),
 qo 40 (.bsl .str [(.c (.str (⟨#[97]⟩ : BA))), (.c (.str (⟨#[98]⟩ : BA))), (.c (.str (⟨#[45]⟩ : BA))), (.c (.str (⟨#[0]⟩ : BA))), (.c (.str (⟨#[55]⟩ : BA)))]),qo 41 (.call 41 61 [39, 40]),qo 2 (.mv 41)]) .ret) (.seq (.reg [qo 43 (.bin .eql .num 21 (.c (.int .u8 91))),qo 42 (.mv 43)]) (.cond 42 (.seq (.reg [qo 44 (.mv 0),qo 45 (.call 45 153 [44]),
 qo 2 (.mv 45)]) .ret) (.seq (.reg [qo 47 (.bin .eql .num 21 (.c (.int .u8 92))),qo 46 (.mv 47)]) (.cond 46 (.seq (.drw [] (oR 10) [] (List.range 10) [qo 48 (.mv 0),qo 49 (.nilck 48),qo 50 (.fa 49 0),qo 51 (.load 50 1 false),qo 52 (.mv 0),qo 53 (.nilck 52),qo 54 (.fa 53 1),qo 55 (.load 54 1 false),qo 56 (.idxS 51 55),qo 3 (.mv 56)]) (.reg [qo 57 (.mv 0),qo 58 (.nilck 57),
 qo 59 (.fa 58 1),qo 60 (.load 59 1 false),qo 61 (.bin .add .num 60 (iC 1)),qo 62 (.nilck 57),qo 63 (.fa 62 1),qp (.store 63 61 1)])) .skip)))))))))) (.seq (.reg [qo 64 (.mv 3),qo 65 (.bsl .u8 [64]),qo 66 (.b2s 65),qo 2 (.mv 66)]) .ret)))))⟩
theorem w82_alternatives {O : Oracle TT} (fuel : Nat) (self104_sequence : BA → Int → LI → Option BIL) (h15_Next : C15_Next O f15_Next) (h104_sequence : C104_sequence O self104_sequence) : C82_alternatives (fun _ => vcF (S := SS) O j82_alternatives) (b82_alternatives fuel self104_sequence) := by
 intro s1 v2 l3 Q R hQ h
 unfold b82_alternatives at h
 refine ⟨nle rfl, rfl, ?_⟩
 conv => whnf
 refine ⟨[(.x 0), (.x 1)], ?_⟩
 conv => whnf
 refine h104_sequence _ _ _ _ _ ?_ (sat_bind h)
 rintro s4 v5 l6 h
 obtain ⟨R35, h, hlR35, hrR35⟩ := sat_sbind h
 conv => whnf
 refine ⟨fun σ => ∃ (v31 : Int) (l32 : LB) (l33 : LI) (n34 : Nat), n34 = l32.length ∧ R35 (.inr (v31, l32, l33)) ∧ σ = ⟨[(0, .c (.ptr (.x 0) 0 0)), (3, .c (.osl (.sub (.sub (.s 3) 600) 0) 0 n34))], [((.x 0), some (.var [.str s1, .int .i64 v31, .ptr (.x 1) 0 0])), ((.sub (.sub (.s 3) 600) 0), some (.row false .str l32)), ((.x 1), some (.var [.isl .int l33]))]⟩, ?_, ?_⟩
 conv => whnf
 refine ⟨fun σ n => ∃ (f48 : Nat) (l49 : LB) (v50 : Int) (l51 : LI) (n52 : Nat), f48 = n ∧ n52 = l49.length ∧ sat (f82_alternatives_L2 self104_sequence s1 f48 l49 v50 l51) R35 ∧ σ.keep [0, 3] [(.x 0), (.sub (.sub (.s 3) 600) 0), (.x 1)] = ⟨[(0, .c (.ptr (.x 0) 0 0)), (3, .c (.osl (.sub (.sub (.s 3) 600) 0) 0 n52))], [((.x 0), some (.var [.str s1, .int .i64 v50, .ptr (.x 1) 0 0])), ((.sub (.sub (.s 3) 600) 0), some (.row false .str l49)), ((.x 1), some (.var [.isl .int l51]))]⟩, ⟨_, _, ([s4] : LB), v5, l6, _, rfl, LN, h, rfl⟩, ?_⟩
 rintro σ n ⟨f48, l49, v50, l51, _, rfl, rfl, h, hσ⟩
 refine kk hσ ?_
 rcases f48 with _ | g47
 rw [f82_alternatives_L2] at h; exact nn h
 rw [f82_alternatives_L2] at h
 conv => whnf
 refine kc h (fun h => ?_) fun h => ?_
 conv => whnf
 exact ⟨v50, l49, l51, _, LN, sat_some h, rfl⟩
 conv => whnf
 refine kg (sat_getB h) fun c54 hc54 h => ?_
 conv => whnf
 refine kc h (fun h => ?_) fun h => ?_
 conv => whnf
 exact ⟨v50, l49, l51, _, LN, sat_some h, rfl⟩
 conv => whnf
 refine ⟨[(.x 0), (.x 1)], ?_⟩
 conv => whnf
 refine h104_sequence _ _ _ _ _ ?_ (sat_bind h)
 rintro s56 v57 l58 h
 conv => whnf
 refine ⟨LN, rfl, ?_⟩
 conv => whnf
 refine ⟨rfl, ?_⟩
 conv => whnf
 refine kp h fun hb59 h => ?_
 conv => whnf
 exact ⟨g47, nls, g47, (l49 ++ ([s56] : LB)), v57, l58, _, rfl, LN, h, rfl⟩
 rintro _ ⟨v31, l32, l33, _, rfl, h, rfl⟩
 replace h := hrR35 _ h
 conv => whnf
 intro hl60
 conv => whnf
 refine ⟨[(.x 1)], ?_⟩
 conv => whnf
 refine h15_Next _ _ _ _ ?_ (sat_bind h)
 rintro v61 l62 h
 conv => whnf
 refine kp h fun hb63 h => ?_
 conv => whnf
 refine kg (sat_getN h) fun w64 huu65 h => ?_
 conv => whnf
 exact ⟨[], ND 2, hQ _ _ _ (sat_some h)⟩
theorem w104_sequence {O : Oracle TT} (fuel : Nat) (self131_item : BA → Int → LI → Option BIL) (h15_Next : C15_Next O f15_Next) (h131_item : C131_item O self131_item) : C104_sequence (fun _ => vcF (S := SS) O j104_sequence) (b104_sequence fuel self131_item) := by
 intro s1 v2 l3 Q R hQ h
 unfold b104_sequence at h
 refine ⟨nle rfl, rfl, ?_⟩
 obtain ⟨R257, h, hlR257, hrR257⟩ := sat_sbind h
 conv => whnf
 refine ⟨fun σ => ∃ (s254 : BA) (v255 : Int) (l256 : LI), R257 (.inr (s254, v255, l256)) ∧ σ = ⟨[(3, .c (.str s254))], [((.x 0), some (.var [.str s1, .int .i64 v255, .ptr (.x 1) 0 0])), ((.x 1), some (.var [.isl .int l256]))]⟩, ?_, ?_⟩
 conv => whnf
 refine ⟨fun σ n => ∃ (f383 : Nat) (s384 : BA) (v385 : Int) (l386 : LI), f383 = n ∧ sat (f104_sequence_L8 self131_item s1 f383 s384 v385 l386) R257 ∧ σ.keep [0, 3] [(.x 0), (.x 1)] = ⟨[(0, .c (.ptr (.x 0) 0 0)), (3, .c (.str s384))], [((.x 0), some (.var [.str s1, .int .i64 v385, .ptr (.x 1) 0 0])), ((.x 1), some (.var [.isl .int l386]))]⟩, ⟨_, _, (⟨#[]⟩ : BA), v2, l3, rfl, h, rfl⟩, ?_⟩
 rintro σ n ⟨f383, s384, v385, l386, rfl, h, hσ⟩
 refine kk hσ ?_
 rcases f383 with _ | g382
 rw [f104_sequence_L8] at h; exact nn h
 rw [f104_sequence_L8] at h
 conv => whnf
 refine kc h (fun h => ?_) fun h => ?_
 conv => whnf
 exact ⟨s384, v385, l386, sat_some h, rfl⟩
 conv => whnf
 refine kg (sat_getB h) fun c388 hc388 h => ?_
 conv => whnf
 refine kc h (fun h => ?_) fun h => ?_
 conv => whnf
 exact ⟨s384, v385, l386, sat_some h, rfl⟩
 conv => whnf
 refine kg (sat_getB h) fun c390 hc390 h => ?_
 conv => whnf
 refine kc h (fun h => ?_) fun h => ?_
 conv => whnf
 exact ⟨s384, v385, l386, sat_some h, rfl⟩
 obtain ⟨R451, h, hlR451, hrR451⟩ := sat_sbind h
 conv => whnf
 refine ⟨fun σ => ∃ (s448 : BA) (v449 : Int) (l450 : LI), R451 (.inr (s448, v449, l450)) ∧ σ = ⟨[(0, .c (.ptr (.x 0) 0 0)), (3, .c (.str s448))], [((.x 0), some (.var [.str s1, .int .i64 v449, .ptr (.x 1) 0 0])), ((.x 1), some (.var [.isl .int l450]))]⟩, ?_, ?_⟩
 conv => whnf
 refine ⟨[(.x 0), (.x 1)], ?_⟩
 conv => whnf
 refine h131_item _ _ _ _ _ ?_ (sat_bind h)
 rintro s452 v453 l454 h
 obtain ⟨R469, h, hlR469, hrR469⟩ := sat_sbind h
 conv => whnf
 refine ⟨fun σ => ∃ (v466 : Int) (v467 : Int) (l468 : LI), R469 (.inr (v466, v467, l468)) ∧ σ = ⟨[(0, .c (.ptr (.x 0) 0 0)), (3, .c (.str s384)), (4, .c (.int .i64 v385)), (5, .c (.str s452)), (6, .c (.int .i64 v466))], [((.x 0), some (.var [.str s1, .int .i64 v467, .ptr (.x 1) 0 0])), ((.x 1), some (.var [.isl .int l468]))]⟩, ?_, ?_⟩
 conv => whnf
 refine kc h (fun h => ?_) fun h => ?_
 conv => whnf
 exact ⟨(1 : Int), v453, l454, sat_some h, rfl⟩
 conv => whnf
 refine kg (sat_getB h) fun c471 hc471 h => ?_
 conv => whnf
 refine kc h (fun h => ?_) fun h => ?_
 conv => whnf
 refine kc h (fun h => ?_) fun h => ?_
 conv => whnf
 refine kc h (fun h => ?_) fun h => ?_
 conv => whnf
 exact ⟨(1 : Int), v453, l454, sat_some h, rfl⟩
 conv => whnf
 refine ⟨[(.x 1)], ?_⟩
 conv => whnf
 refine h15_Next _ _ _ _ ?_ (sat_bind h)
 rintro v475 l476 h
 conv => whnf
 exact ⟨v475, (wrap .i64 (v453 + 1)), l476, sat_some h, rfl⟩
 conv => whnf
 refine ⟨[(.x 1)], ?_⟩
 conv => whnf
 refine h15_Next _ _ _ _ ?_ (sat_bind h)
 rintro v477 l478 h
 conv => whnf
 exact ⟨(wrap .i64 ((1 : Int) + v477)), (wrap .i64 (v453 + 1)), l478, sat_some h, rfl⟩
 conv => whnf
 refine ⟨[(.x 1)], ?_⟩
 conv => whnf
 refine h15_Next _ _ _ _ ?_ (sat_bind h)
 rintro v479 l480 h
 conv => whnf
 exact ⟨v479, (wrap .i64 (v453 + 1)), l480, sat_some h, rfl⟩
 rintro _ ⟨v466, v467, l468, h, rfl⟩
 replace h := hrR469 _ h
 obtain ⟨hN497, h⟩ := sat_grdP h
 conv => whnf
 refine ⟨fun σ n => ∃ (f495 : Nat) (v494 : Int) (z : Int) (s498 : BA) (s499 : BA) (l500 : LI), f495 = n ∧ f495 = (v466 - v494).toNat ∧ 0 ≤ v494 ∧ v494 = z ∧ sat (f104_sequence_L10 self131_item s1 v385 v467 f495 v494 s498 s499 l500) R451 ∧ σ.keep [0, 3, 4, 5, 7, 115, 116] [(.x 0), (.x 1)] = ⟨[(0, .c (.ptr (.x 0) 0 0)), (3, .c (.str s498)), (4, .c (.int .i64 v385)), (5, .c (.str s499)), (7, .c (.int .i64 v467)), (115, .c (.int .i64 v466)), (116, .c (.int .i64 z))], [((.x 0), some (.var [.str s1, .int .i64 v467, .ptr (.x 1) 0 0])), ((.x 1), some (.var [.isl .int l500]))]⟩, ⟨_, _, 0, _, s384, s452, l468, rfl, rfl, (by decide), rfl, h, rfl⟩, ?_⟩
 rintro σ n ⟨f495, v494, _, s498, s499, l500, rfl, hf495, hpf495, rfl, h, hσ⟩
 refine kk hσ ?_
 conv => whnf
 intro t501 (ht501 : t501 = decide (v494 < v466))
 cases t501
 obtain rfl := il_nil hf495 ht501
 rw [f104_sequence_L10] at h
 conv => whnf
 exact ⟨s498, v467, l500, sat_some h, rfl⟩
 obtain ⟨g496, rfl, hwg496, hpg496, hfg496⟩ := il_cons hf495 hpf495 ht501 hN497
 rw [f104_sequence_L10] at h
 conv => whnf
 refine kc h (fun h => ?_) fun h => ?_
 conv => whnf
 refine kp h fun hb503 h => ?_
 conv => whnf
 exact ⟨g496, nls, g496, v494 + 1, _, (s498 ++ s499), s499, l500, rfl, hfg496, hpg496, hwg496.symm, h, rfl⟩
 conv => whnf
 refine ⟨[(.x 0), (.x 1)], ?_⟩
 conv => whnf
 refine h131_item _ _ _ _ _ ?_ (sat_bind h)
 rintro s504 v505 l506 h
 conv => whnf
 refine kp h fun hb507 h => ?_
 conv => whnf
 exact ⟨g496, nls, g496, v494 + 1, _, (s498 ++ s504), s504, l506, rfl, hfg496, hpg496, hwg496.symm, h, rfl⟩
 rintro _ ⟨s448, v449, l450, h, rfl⟩
 replace h := hrR451 _ h
 conv => whnf
 exact ⟨g382, nls, g382, s448, v449, l450, rfl, h, rfl⟩
 rintro _ ⟨s254, v255, l256, h, rfl⟩
 replace h := hrR257 _ h
 conv => whnf
 exact ⟨[], ND 2, hQ _ _ _ (sat_some h)⟩
theorem w131_item {O : Oracle TT} (fuel : Nat) (self82_alternatives : BA → Int → LI → Option BIL) (h61_pick : C61_pick O f61_pick) (h82_alternatives : C82_alternatives O self82_alternatives) (h153_class : C153_class O (f153_class fuel)) : C131_item (fun _ => vcF (S := SS) O j131_item) (b131_item fuel self82_alternatives) := by
 intro s1 v2 l3 Q R hQ h
 unfold b131_item at h
 refine ⟨nle rfl, rfl, ?_⟩
 conv => whnf
 refine kg (sat_getB h) fun c4 hc4 h => ?_
 conv => whnf
 refine kc h (fun h => ?_) fun h => ?_
 conv => whnf
 refine kc h (fun h => ?_) fun h => ?_
 conv => whnf
 refine kc h (fun h => ?_) fun h => ?_
 conv => whnf
 refine kc h (fun h => ?_) fun h => ?_
 conv => whnf
 refine ⟨([(c4.toNat : Int)] : LI), rfl, ?_⟩
 conv => whnf
 exact ⟨[], ND 2, hQ _ _ _ (sat_some h)⟩
 conv => whnf
 refine kg (sat_getB h) fun c9 hc9 h => ?_
 conv => whnf
 refine ⟨([(c9.toNat : Int)] : LI), rfl, ?_⟩
 conv => whnf
 exact ⟨[], ND 2, hQ _ _ _ (sat_some h)⟩
 conv => whnf
 refine ⟨[(.x 0), (.x 1)], ?_⟩
 conv => whnf
 refine h153_class _ _ _ _ _ ?_ (sat_bind h)
 rintro s10 v11 l12 h
 conv => whnf
 exact ⟨[], ND 2, hQ _ _ _ (sat_some h)⟩
 conv => whnf
 refine ⟨[(.x 1)], ?_⟩
 conv => whnf
 refine h61_pick _ _ _ _ ?_ (sat_bind h)
 rintro s13 l14 h
 conv => whnf
 exact ⟨[], ND 2, hQ _ _ _ (sat_some h)⟩
 conv => whnf
 refine ⟨[(.x 0), (.x 1)], ?_⟩
 conv => whnf
 refine h82_alternatives _ _ _ _ _ ?_ (sat_bind h)
 rintro s15 v16 l17 h
 conv => whnf
 exact ⟨[], ND 2, hQ _ _ _ (sat_some h)⟩
theorem cg82_alternatives {P : Program} {fid : Nat → FuncId} (mx : MX P) (k82_alternatives : KF P fid 82 j82_alternatives) (k104_sequence : KF P fid 104 j104_sequence) (k131_item : KF P fid 131 j131_item) (h15_Next : C15_Next (SP P fid) f15_Next) (h61_pick : C61_pick (SP P fid) f61_pick) (h153_class : ∀ n, C153_class (SP P fid) (f153_class n)) : ∀ n, C82_alternatives (SP P fid) (f82_alternatives n) ∧ C104_sequence (SP P fid) (f104_sequence n) ∧ C131_item (SP P fid) (f131_item n) := by
 intro n
 induction n with
 | zero => exact ⟨fun a0 a1 a2 Q R hQ h => (sat_none h).elim, fun a0 a1 a2 Q R hQ h => (sat_none h).elim, fun a0 a1 a2 Q R hQ h => (sat_none h).elim⟩
 | succ n ih =>
  obtain ⟨ih0, ih1, ih2⟩ := ih
  exact ⟨fun a0 a1 a2 Q R hQ h => spec_of_vc mx k82_alternatives (w82_alternatives n (f104_sequence n) h15_Next ih1 a0 a1 a2 Q R hQ h), fun a0 a1 a2 Q R hQ h => spec_of_vc mx k104_sequence (w104_sequence n (f131_item n) h15_Next ih2 a0 a1 a2 Q R hQ h), fun a0 a1 a2 Q R hQ h => spec_of_vc mx k131_item (w131_item n (f82_alternatives n) h61_pick ih0 (h153_class n) a0 a1 a2 Q R hQ h)⟩
theorem c82_alternatives {P : Program} {fid : Nat → FuncId} (mx : MX P) (k82_alternatives : KF P fid 82 j82_alternatives) (k104_sequence : KF P fid 104 j104_sequence) (k131_item : KF P fid 131 j131_item) (h15_Next : C15_Next (SP P fid) f15_Next) (h61_pick : C61_pick (SP P fid) f61_pick) (h153_class : ∀ n, C153_class (SP P fid) (f153_class n)) : ∀ n, C82_alternatives (SP P fid) (f82_alternatives n) := fun n => (cg82_alternatives mx k82_alternatives k104_sequence k131_item h15_Next h61_pick h153_class n).1
theorem c104_sequence {P : Program} {fid : Nat → FuncId} (mx : MX P) (k82_alternatives : KF P fid 82 j82_alternatives) (k104_sequence : KF P fid 104 j104_sequence) (k131_item : KF P fid 131 j131_item) (h15_Next : C15_Next (SP P fid) f15_Next) (h61_pick : C61_pick (SP P fid) f61_pick) (h153_class : ∀ n, C153_class (SP P fid) (f153_class n)) : ∀ n, C104_sequence (SP P fid) (f104_sequence n) := fun n => (cg82_alternatives mx k82_alternatives k104_sequence k131_item h15_Next h61_pick h153_class n).2.1
theorem c131_item {P : Program} {fid : Nat → FuncId} (mx : MX P) (k82_alternatives : KF P fid 82 j82_alternatives) (k104_sequence : KF P fid 104 j104_sequence) (k131_item : KF P fid 131 j131_item) (h15_Next : C15_Next (SP P fid) f15_Next) (h61_pick : C61_pick (SP P fid) f61_pick) (h153_class : ∀ n, C153_class (SP P fid) (f153_class n)) : ∀ n, C131_item (SP P fid) (f131_item n) := fun n => (cg82_alternatives mx k82_alternatives k104_sequence k131_item h15_Next h61_pick h153_class n).2.2
def f65_Sample (fuel : Nat) : BA → LI → Option (BA × LI)
  | s1, l2 => (f82_alternatives fuel s1 (0 : Int) l2).bind fun (s3, v4, l5) => some (s3, l5)
def C65_Sample (O : Oracle TT) (m : BA → LI → Option (BA × LI)) : Prop :=
  ∀ (s1 : BA) (l2 : LI) (Q : (BA × LI) → Prop) (R : RR) (_ : ∀ (s6 : BA) (l7 : LI), Q (s6, l7) → R (.c (.str s6)) [(.x 0, some (.var [.isl .int l7]))]) (_ : sat (m s1 l2) Q), O 65 [.c (.str s1), .c (.ptr (.x 0) 0 0)] [((.x 0), some (.var [.isl .int l2]))] R
def j65_Sample : Fn TT := ⟨12, [.t 4], (.seq (.reg [qo 4 (.mv (.c (.str (⟨#[]⟩ : BA))))]) (.seq (.reg [qo 6 (.mv 0),qo 7 (.mv 1),qo 8 (.build [.str (⟨#[]⟩ : BA), .int .i64 0, .nilp] [((0, 1), 6), ((2, 1), 7)]),qo 9 (.box 9 8),qo 5 (.mv 9)]) (.seq (.reg [qo 10 (.mv 5),qo 11 (.call 11 82 [10]),qo 4 (.mv 11)]) .ret)))⟩
theorem w65_Sample {O : Oracle TT} (fuel : Nat) (h82_alternatives : C82_alternatives O (f82_alternatives fuel)) : C65_Sample (fun _ => vcF (S := SS) O j65_Sample) (f65_Sample fuel) := by
 intro s1 l2 Q R hQ h
 unfold f65_Sample at h
 refine ⟨nle rfl, rfl, ?_⟩
 conv => whnf
 refine ⟨[(.s 9), (.x 0)], ?_⟩
 conv => whnf
 refine h82_alternatives _ _ _ _ _ ?_ (sat_bind h)
 rintro s3 v4 l5 h
 conv => whnf
 exact ⟨[], ND 1, hQ _ _ (sat_some h)⟩
theorem c65_Sample {P : Program} {fid : Nat → FuncId} (mx : MX P) (k65_Sample : KF P fid 65 j65_Sample) (h82_alternatives : ∀ n, C82_alternatives (SP P fid) (f82_alternatives n)) : ∀ n, C65_Sample (SP P fid) (f65_Sample n) :=
 fun n => fun a0 a1 Q R hQ h => spec_of_vc mx k65_Sample (w65_Sample n (h82_alternatives n) a0 a1 Q R hQ h)
def f64_scalar : Int → LI → Option (V × LI)
  | v1, l2 => cond (v1 == 1) ((f15_Next (2 : Int) l2).bind fun (v19, l20) => some ((V.mk v1 v19 (⟨#[]⟩ : BA) []), l20)) (cond (v1 == 2) ((f60_pick ([0, 1, 2, 3, 5, 9, (-1), 7] : LI) l2).bind fun (v17, l18) => some ((V.mk v1 v17 (⟨#[]⟩ : BA) []), l18)) (cond (v1 == 3) ((f60_pick ([0, 1, (-1), 4607182418800017408, (-4616189618054758400)] : LI) l2).bind fun (v15, l16) => some ((V.mk v1 v15 (⟨#[]⟩ : BA) []), l16)) (cond (v1 == 4) ((f15_Next (6 : Int) l2).bind fun (v13, l14) => some ((V.mk v1 (wrap .i64 ((730000 : Int) + v13)) (⟨#[]⟩ : BA) []), l14)) (cond (v1 == 5) ((f61_pick ([(⟨#[]⟩ : BA), (⟨#[97]⟩ : BA), (⟨#[98]⟩ : BA), (⟨#[99]⟩ : BA), (⟨#[97, 98]⟩ : BA), (⟨#[98, 45, 99]⟩ : BA), (⟨#[122, 122]⟩ : BA), (⟨#[255, 0]⟩ : BA)] : LB) l2).bind fun (s11, l12) => some ((V.mk v1 0 s11 []), l12)) (cond (v1 == 11) ((f15_Next (4 : Int) l2).bind fun (v9, l10) => some ((V.mk v1 v9 (⟨#[]⟩ : BA) []), l10)) (some ((V.mk v1 0 (⟨#[]⟩ : BA) []), l2)))))))
def C64_scalar (O : Oracle TT) (m : Int → LI → Option (V × LI)) : Prop :=
  ∀ (v1 : Int) (l2 : LI) (Q : (V × LI) → Prop) (R : RR) (_ : ∀ (k21 : Int) (n22 : Int) (s23 : BA) (f24 : FV) (l25 : LI), Q ((V.mk k21 n22 s23 f24), l25) → R (.agg [.int .i64 k21, .int .i64 n22, .str s23, .isl .fld f24]) [(.x 0, some (.var [.isl .int l25]))]) (_ : sat (m v1 l2) Q), O 64 [.c (.int .i64 v1), .c (.ptr (.x 0) 0 0)] [((.x 0), some (.var [.isl .int l2]))] R
def j64_scalar : Fn TT := ⟨44, [.cell 4 4 true], (.seq (.reg [qo 4 (.alloc 4 [.int .i64 0, .int .i64 0, .str (⟨#[]⟩ : BA), .isl .fld []])]) (.seq (.reg [qo 6 (.mv 0),qo 7 (.build [.int .i64 0, .int .i64 0, .str (⟨#[]⟩ : BA), .isl .fld []] [((0, 1), 6)]),qo 5 (.alloc 5 [.int .i64 0, .int .i64 0, .str (⟨#[]⟩ : BA), .isl .fld []]),qp (.store 5 7 4)]) (.seq (.seq
 (.reg [qo 8 (.mv 0)]) (.block 0 (.seq (.reg [qo 10 (.bin .eql .num 8 (iC 1)),qo 9 (.mv 10)]) (.cond 9 (.reg [qo 11 (.mv 1),qo 12 (.call 12 15 [11, (iC 2)]),qo 13 (.fa 5 1),qp (.store 13 12 1)]) (.seq (.reg [qo 15 (.bin .eql .num 8 (iC 2)),qo 14 (.mv 15)]) (.cond 14 (.reg [qo 16 (.mv 1),qo 17 (.bsl .int [(iC 0), (iC 1), (iC 2), (iC 3), (iC 5), (iC 9), (iC (-1)), (iC 7)]),
 qo 18 (.call 18 60 [16, 17]),qo 19 (.fa 5 1),qp (.store 19 18 1)]) (.seq (.reg [qo 21 (.bin .eql .num 8 (iC 3)),qo 20 (.mv 21)]) (.cond 20 (.reg [qo 22 (.mv 1),qo 23 (.bsl .int [(iC 0), (iC 1), (iC (-1)), (iC 4607182418800017408), (iC (-4616189618054758400))]),qo 24 (.call 24 60 [22, 23]),qo 25 (.fa 5 1),qp (.store 25 24 1)]) (.seq (.reg [qo 27 (.bin .eql .num 8 (iC 4)),qo 26 (.mv 27)])
 (.cond 26 (.reg [qo 28 (.mv 1),qo 29 (.call 29 15 [28, (iC 6)]),qo 30 (.bin .add .num (iC 730000) 29),qo 31 (.fa 5 1),qp (.store 31 30 1)]) (.seq (.reg [qo 33 (.bin .eql .num 8 (iC 5)),qo 32 (.mv 33)]) (.cond 32 (.reg [qo 34 (.mv 1),
 qo 35 (.bsl .str [(.c (.str (⟨#[]⟩ : BA))), (.c (.str (⟨#[97]⟩ : BA))), (.c (.str (⟨#[98]⟩ : BA))), (.c (.str (⟨#[99]⟩ : BA))), (.c (.str (⟨#[97, 98]⟩ : BA))), (.c (.str (⟨#[98, 45, 99]⟩ : BA))), (.c (.str (⟨#[122, 122]⟩ : BA))), (.c (.str (⟨#[255, 0]⟩ : BA)))]),qo 36 (.call 36 61 [34, 35]),qo 37 (.fa 5 2),qp (.store 37 36 1)]) (.seq
 (.reg [qo 39 (.bin .eql .num 8 (iC 11)),qo 38 (.mv 39)]) (.cond 38 (.reg [qo 40 (.mv 1),qo 41 (.call 41 15 [40, (iC 4)]),qo 42 (.fa 5 1),qp (.store 42 41 1)]) .skip)))))))))))))) (.seq (.reg [qo 43 (.load 5 4 true),qp (.store 4 43 4)]) .ret))))⟩
theorem w64_scalar {O : Oracle TT} (h15_Next : C15_Next O f15_Next) (h61_pick : C61_pick O f61_pick) (h60_pick : C60_pick O f60_pick) : C64_scalar (fun _ => vcF (S := SS) O j64_scalar) f64_scalar := by
 intro v1 l2 Q R hQ h
 unfold f64_scalar at h
 refine ⟨nle rfl, rfl, ?_⟩
 conv => whnf
 refine kc h (fun h => ?_) fun h => ?_
 conv => whnf
 refine kc h (fun h => ?_) fun h => ?_
 conv => whnf
 refine kc h (fun h => ?_) fun h => ?_
 conv => whnf
 refine kc h (fun h => ?_) fun h => ?_
 conv => whnf
 refine kc h (fun h => ?_) fun h => ?_
 conv => whnf
 refine kc h (fun h => ?_) fun h => ?_
 conv => whnf
 exact ⟨[], ND 1, hQ _ _ _ _ _ (sat_some h)⟩
 conv => whnf
 refine ⟨[(.x 0)], ?_⟩
 conv => whnf
 refine h15_Next _ _ _ _ ?_ (sat_bind h)
 rintro v9 l10 h
 conv => whnf
 exact ⟨[], ND 1, hQ _ _ _ _ _ (sat_some h)⟩
 conv => whnf
 refine ⟨[(.x 0)], ?_⟩
 conv => whnf
 refine h61_pick _ _ _ _ ?_ (sat_bind h)
 rintro s11 l12 h
 conv => whnf
 exact ⟨[], ND 1, hQ _ _ _ _ _ (sat_some h)⟩
 conv => whnf
 refine ⟨[(.x 0)], ?_⟩
 conv => whnf
 refine h15_Next _ _ _ _ ?_ (sat_bind h)
 rintro v13 l14 h
 conv => whnf
 exact ⟨[], ND 1, hQ _ _ _ _ _ (sat_some h)⟩
 conv => whnf
 refine ⟨[(.x 0)], ?_⟩
 conv => whnf
 refine h60_pick _ _ _ _ ?_ (sat_bind h)
 rintro v15 l16 h
 conv => whnf
 exact ⟨[], ND 1, hQ _ _ _ _ _ (sat_some h)⟩
 conv => whnf
 refine ⟨[(.x 0)], ?_⟩
 conv => whnf
 refine h60_pick _ _ _ _ ?_ (sat_bind h)
 rintro v17 l18 h
 conv => whnf
 exact ⟨[], ND 1, hQ _ _ _ _ _ (sat_some h)⟩
 conv => whnf
 refine ⟨[(.x 0)], ?_⟩
 conv => whnf
 refine h15_Next _ _ _ _ ?_ (sat_bind h)
 rintro v19 l20 h
 conv => whnf
 exact ⟨[], ND 1, hQ _ _ _ _ _ (sat_some h)⟩
theorem c64_scalar {P : Program} {fid : Nat → FuncId} (mx : MX P) (k64_scalar : KF P fid 64 j64_scalar) (h15_Next : C15_Next (SP P fid) f15_Next) (h61_pick : C61_pick (SP P fid) f61_pick) (h60_pick : C60_pick (SP P fid) f60_pick) : C64_scalar (SP P fid) f64_scalar :=
 fun a0 a1 Q R hQ h => spec_of_vc mx k64_scalar (w64_scalar h15_Next h61_pick h60_pick a0 a1 Q R hQ h)
def f42_val_L4 (self42_val : PT → Tp → Int → LI → Option (V × LI)) (l1 : PT) (v8 : Int) (ps15 : PT) (v263 : Int) : Nat → Int → FV → LI → Option (Sum (V × LI) (Int × BA × LI × FV))
  | 0, v298, l302, l303 => some (.inr (0, (⟨#[]⟩ : BA), l303, l302))
  | g300 + 1, v298, l302, l303 => getL ps15 0 fun uu313 => match uu313 with | (a306, .mk k307 m308 lo309 hi310 p311 ps312) => (self42_val l1 (Tp.mk k307 m308 lo309 hi310 p311 ps312) (wrap .i64 (v8 + 1)) l303).bind fun ((.mk k314 n315 s316 f317), l318) => grdP (l302.length + ([((strOfNums ([(wrap .u8 ((97 : Int) + (wrap .u8 (wrap .i64 (v263 + v298)))))] : LI)), (V.mk k314 n315 s316 f317))] : FV).length ≤ 68719476736) (f42_val_L4 self42_val l1 v8 ps15 v263 g300 (v298 + 1) (l302 ++ ([((strOfNums ([(wrap .u8 ((97 : Int) + (wrap .u8 (wrap .i64 (v263 + v298)))))] : LI)), (V.mk k314 n315 s316 f317))] : FV)) l318)
def f42_val_L5 (self42_val : PT → Tp → Int → LI → Option (V × LI)) (l1 : PT) (v8 : Int) (ps15 : PT) : Nat → Int → FV → LI → Option (Sum (V × LI) (Int × BA × LI × FV))
  | 0, v362, l366, l367 => some (.inr (0, (⟨#[]⟩ : BA), l367, l366))
  | g364 + 1, v362, l366, l367 => getL ps15 0 fun uu377 => match uu377 with | (a370, .mk k371 m372 lo373 hi374 p375 ps376) => (self42_val l1 (Tp.mk k371 m372 lo373 hi374 p375 ps376) (wrap .i64 (v8 + 1)) l367).bind fun ((.mk k378 n379 s380 f381), l382) => grdP (l366.length + ([((⟨#[]⟩ : BA), (V.mk k378 n379 s380 f381))] : FV).length ≤ 68719476736) (f42_val_L5 self42_val l1 v8 ps15 g364 (v362 + 1) (l366 ++ ([((⟨#[]⟩ : BA), (V.mk k378 n379 s380 f381))] : FV)) l382)
def f42_val_L6 (self42_val : PT → Tp → Int → LI → Option (V × LI)) (l1 : PT) (v8 : Int) : PT → Nat → FV → LI → Option (Sum (V × LI) (Int × BA × LI × FV))
  | [], j438, l442, l443 => some (.inr (0, (⟨#[]⟩ : BA), l443, l442))
  | ((a446, .mk k447 m448 lo449 hi450 p451 ps452)) :: tl440, j438, l442, l443 => (self42_val l1 (Tp.mk k447 m448 lo449 hi450 p451 ps452) (wrap .i64 (v8 + 1)) l443).bind fun ((.mk k454 n455 s456 f457), l458) => grdP (l442.length + ([(a446, (V.mk k454 n455 s456 f457))] : FV).length ≤ 68719476736) (f42_val_L6 self42_val l1 v8 tl440 (j438 + 1) (l442 ++ ([(a446, (V.mk k454 n455 s456 f457))] : FV)) l458)
def b42_val (fuel : Nat) (self42_val : PT → Tp → Int → LI → Option (V × LI)) : PT → Tp → Int → LI → Option (V × LI)
  | l1, .mk k2 m3 lo4 hi5 p6 ps7, v8, l9 => (f63_Resolve l1 (Tp.mk k2 m3 lo4 hi5 p6 ps7)).bind fun (.mk k10 m11 lo12 hi13 p14 ps15) => sbind (ο := Int × BA × LI × FV) (sbind (ο := Bool) (cond (k10 == 1) (some (.inr true)) (cond (k10 == 2) (some (.inr true)) (cond (k10 == 4) (some (.inr true)) (some (.inr false))))) (fun q250 => cond q250 ((f15_Next (wrap .i64 ((if 12 < (wrap .i64 (hi13 - lo12)) then 12 else (wrap .i64 (hi13 - lo12))) + 1)) l9).bind fun (v467, l468) => (f15_Next (4 : Int) l468).bind fun (v469, l470) => cond (v469 == 0) (some (.inr (hi13, (⟨#[]⟩ : BA), l470, []))) (some (.inr ((wrap .i64 (lo12 + v467)), (⟨#[]⟩ : BA), l470, [])))) (cond (k10 == 3) ((f64_scalar (3 : Int) l9).bind fun ((.mk k462 n463 s464 f465), l466) => some (.inr (n463, (⟨#[]⟩ : BA), l466, []))) (cond (k10 == 5) ((f65_Sample fuel p14 l9).bind fun (s460, l461) => some (.inr (0, s460, l461, []))) (cond (k10 == 6) (f42_val_L6 self42_val l1 v8 ps15 0 [] l9) (cond (k10 == 7) (sbind (ο := Int × LI) (cond (decide (v8 < 8)) ((f15_Next ((ps15.length : Nat) : Int) l9).bind fun (v393, l394) => some (.inr (v393, l394))) (some (.inr (0, l9)))) (fun (v388, l389) => getL ps15 v388 fun uu402 => match uu402 with | (a395, .mk k396 m397 lo398 hi399 p400 ps401) => getL ps15 v388 fun uu410 => match uu410 with | (a403, .mk k404 m405 lo406 hi407 p408 ps409) => (self42_val l1 (Tp.mk k404 m405 lo406 hi407 p408 ps409) (wrap .i64 (v8 + 1)) l389).bind fun ((.mk k411 n412 s413 f414), l415) => some (.inr (0, (⟨#[]⟩ : BA), l415, ([(a395, (V.mk k411 n412 s413 f414))] : FV))))) (cond (k10 == 8) (sbind (ο := Int × LI) (cond (decide (v8 < 4)) ((f15_Next (wrap .i64 ((if 3 < (wrap .i64 (hi13 - lo12)) then 3 else (wrap .i64 (hi13 - lo12))) + 1)) l9).bind fun (v339, l340) => some (.inr ((wrap .i64 (lo12 + v339)), l340))) (some (.inr (lo12, l9)))) (fun (v335, l336) => grdP (v335 ≤ 9223372036854775807) (f42_val_L5 self42_val l1 v8 ps15 (v335 - 0).toNat 0 [] l336))) (cond (k10 == 9) ((f15_Next (wrap .i64 ((if 3 < (wrap .i64 (hi13 - lo12)) then 3 else (wrap .i64 (hi13 - lo12))) + 1)) l9).bind fun (v261, l262) => (f15_Next (if (wrap .i64 ((6 : Int) - (wrap .i64 (lo12 + v261)))) > 1 then (wrap .i64 ((6 : Int) - (wrap .i64 (lo12 + v261)))) else 1) l262).bind fun (v263, l264) => grdP ((wrap .i64 (lo12 + v261)) ≤ 9223372036854775807) (f42_val_L4 self42_val l1 v8 ps15 v263 ((wrap .i64 (lo12 + v261)) - 0).toNat 0 [] l264)) (some (.inr (0, (⟨#[]⟩ : BA), l9, []))))))))))) (fun (v241, s242, l243, l244) => some ((V.mk k10 v241 s242 l244), l243))
def f42_val : Nat → PT → Tp → Int → LI → Option (V × LI)
  | 0 => fun _ _ _ _ => none
  | n + 1 => b42_val n (f42_val n)
def C42_val (O : Oracle TT) (m : PT → Tp → Int → LI → Option (V × LI)) : Prop :=
  ∀ (l1 : PT) (k2 : Int) (m3 : BA) (lo4 : Int) (hi5 : Int) (p6 : BA) (ps7 : PT) (v8 : Int) (l9 : LI) (Q : (V × LI) → Prop) (R : RR) (_ : ∀ (k472 : Int) (n473 : Int) (s474 : BA) (f475 : FV) (l476 : LI), Q ((V.mk k472 n473 s474 f475), l476) → R (.agg [.int .i64 k472, .int .i64 n473, .str s474, .isl .fld f475]) [(.x 0, some (.var [.isl .int l476]))]) (_ : sat (m l1 (Tp.mk k2 m3 lo4 hi5 p6 ps7) v8 l9) Q), O 42 [.c (.isl .dfn l1), .agg [.int .i64 k2, .str m3, .int .i64 lo4, .int .i64 hi5, .str p6, .isl .part ps7], .c (.ptr (.x 0) 0 0), .c (.int .i64 v8)] [((.x 0), some (.var [.isl .int l9]))] R
def j42_val : Fn TT := ⟨200, [.cell 8 4 true], (.seq (.reg [qo 5 (.box 5 1),qo 8 (.alloc 8 [.int .i64 0, .int .i64 0, .str (⟨#[]⟩ : BA), .isl .fld []])]) (.seq (.reg [qo 17 (.mv 0),qo 18 (.load 5 6 true),qo 19 (.call 19 63 [17, 18]),qp (.store 5 19 6)]) (.seq (.reg [qo 20 (.fa 5 0),qo 21 (.load 20 1 false),
 qo 22 (.build [.int .i64 0, .int .i64 0, .str (⟨#[]⟩ : BA), .nils] [((0, 1), 21)]),qo 9 (.alloc 9 [.int .i64 0, .int .i64 0, .str (⟨#[]⟩ : BA), .isl .fld []]),qp (.store 9 22 4)]) (.cut [8, 9] [(.s 8), (.s 9), (.x 0), (.sub (.sub (.s 9) 1037) 3)] (.aft (.seq (.reg [qo 23 (.fa 5 0),qo 24 (.load 23 1 false)]) (.block 0
 (.cut [0, 2, 3, 5, 8, 9, 24, 25] [(.x 0), (.s 5), (.s 8), (.s 9)] (.seq (.reg [qo 26 (.bin .eql .num 24 (iC 1)),qo 25 (.mv 26)]) (.cond 25 .skip (.seq (.reg [qo 27 (.bin .eql .num 24 (iC 2)),qo 25 (.mv 27)]) (.cond 25 .skip (.reg [qo 28 (.bin .eql .num 24 (iC 4)),qo 25 (.mv 28)]))))) (.cond 25 (.seq (.drw [(.x 0)] (oR 14) [13] [0, 1, 2, 3, 4, 5, 6, 7, 8, 9, 11, 12] [qo 29 (.fa 5 2),
 qo 30 (.load 29 1 false),qo 31 (.mv 2),qo 32 (.fa 5 3),qo 33 (.load 32 1 false),qo 34 (.fa 5 2),qo 35 (.load 34 1 false),qo 36 (.bin .sub .num 33 35),qo 37 (.mn [36, (iC 12)]),qo 38 (.bin .add .num 37 (iC 1)),qo 39 (.call 39 15 [31, 38]),qo 40 (.bin .add .num 30 39),qo 41 (.fa 9 1),qp (.store 41 40 1)]) (.seq (.reg [qo 42 (.mv 2),qo 43 (.call 43 15 [42, (iC 4)]),
 qo 44 (.bin .eql .num 43 (iC 0))]) (.cond 44 (.reg [qo 45 (.fa 5 3),qo 46 (.load 45 1 false),qo 47 (.fa 9 1),qp (.store 47 46 1)]) .skip))) (.seq (.reg [qo 49 (.bin .eql .num 24 (iC 3)),qo 48 (.mv 49)]) (.cond 48 (.reg [qo 50 (.mv 2),qo 51 (.call 51 64 [(iC 3), 50]),qo 52 (.fld 51 1 1 false),qo 53 (.fa 9 1),qp (.store 53 52 1)]) (.seq (.reg [qo 55 (.bin .eql .num 24 (iC 5)),
 qo 54 (.mv 55)]) (.cond 54 (.reg [qo 56 (.fa 5 4),qo 57 (.load 56 1 false),qo 58 (.mv 2),qo 59 (.call 59 65 [57, 58]),qo 60 (.fa 9 2),qp (.store 60 59 1)]) (.seq (.reg [qo 62 (.bin .eql .num 24 (iC 6)),qo 61 (.mv 62)]) (.cond 61 (.seq (.reg [qo 63 (.fa 5 5),qo 64 (.load 63 1 false),qo 65 (.len false 64),qo 66 (.mv (iC 0))]) (.block 1 (.pre [.ownc (.s 9) 3 .fld (.sub (.sub (.s 9) 600) 3)]
 (.loop (.keep [0, 2, 3, 8, 9, 64, 65, 66] [(.x 0), (.s 8), (.s 9), (.sub (.sub (.s 9) 600) 3)] (.aft (.seq (.reg [qo 67 (.bin .lss .num 66 65)]) (.seq (.cond 67 .skip (.exit 1)) (.seq (.block 2 (.seq (.reg [qo 68 (.idxA 64 66 7),qo 69 (.load 68 7 true),
 qo 11 (.alloc 11 [.str (⟨#[]⟩ : BA), .int .i64 0, .str (⟨#[]⟩ : BA), .int .i64 0, .int .i64 0, .str (⟨#[]⟩ : BA), .isl .part []]),qp (.store 11 69 7)]) (.drw [(.x 0), (.sub (.sub (.s 9) 600) 3)] (oR 16) [15] [0, 1, 2, 3, 4, 5, 6, 7, 8, 9, 11, 14] [qo 70 (.fa 9 3),qo 71 (.load 70 1 false),qo 72 (.fa 11 0),qo 73 (.load 72 1 false),qo 74 (.mv 0),qo 75 (.fa 11 1),
 qo 76 (.load 75 6 true),qo 77 (.mv 2),qo 78 (.mv 3),qo 79 (.bin .add .num 78 (iC 1)),qo 80 (.call 80 42 [74, 76, 77, 79]),qo 81 (.build [.str (⟨#[]⟩ : BA), .int .i64 0, .int .i64 0, .str (⟨#[]⟩ : BA), .isl .fld []] [((0, 1), 73), ((1, 4), 80)]),qo 82 (.bsl .fld [81]),qo 83 (.app 83 .fld 68719476736 71 82),qo 84 (.fa 9 3),qp (.store 84 83 1)])))
 (.reg [qo 85 (.bin .add .num 66 (iC 1)),qo 66 (.mv 85)])))) [.keep [0, 2, 3, 8, 9, 64, 65, 66] [(.x 0), (.s 8), (.s 9), (.s 83)], .ownc (.s 9) 3 .fld (.sub (.sub (.s 9) 600) 3)])))))) (.seq (.reg [qo 87 (.bin .eql .num 24 (iC 7)),qo 86 (.mv 87)]) (.cond 86 (.seq (.reg [qo 12 (.mv (iC 0))]) (.cut [0, 2, 3, 5, 8, 9, 12] [(.x 0), (.s 5), (.s 8), (.s 9)] (.seq (.reg [qo 88 (.mv 3),
 qo 89 (.bin .lss .num 88 (iC 8))]) (.cond 89 (.reg [qo 90 (.mv 2),qo 91 (.fa 5 5),qo 92 (.load 91 1 false),qo 93 (.len false 92),qo 94 (.call 94 15 [90, 93]),qo 12 (.mv 94)]) .skip)) (.drw [(.x 0)] (oR 21) [20] [0, 1, 2, 3, 4, 5, 6, 7, 8, 9, 10, 11, 12, 13, 14, 15, 17, 19] [qo 95 (.fa 5 5),qo 96 (.load 95 1 false),qo 97 (.mv 12),qo 98 (.idxA 96 97 7),qo 99 (.fa 98 0),
 qo 100 (.load 99 1 false),qo 101 (.mv 0),qo 102 (.fa 5 5),qo 103 (.load 102 1 false),qo 104 (.mv 12),qo 105 (.idxA 103 104 7),qo 106 (.fa 105 1),qo 107 (.load 106 6 true),qo 108 (.mv 2),qo 109 (.mv 3),qo 110 (.bin .add .num 109 (iC 1)),qo 111 (.call 111 42 [101, 107, 108, 110]),
 qo 112 (.build [.str (⟨#[]⟩ : BA), .int .i64 0, .int .i64 0, .str (⟨#[]⟩ : BA), .isl .fld []] [((0, 1), 100), ((1, 4), 111)]),qo 113 (.bslice 113 .fld [112]),qo 114 (.fa 9 3),qp (.store 114 113 1)]))) (.seq (.reg [qo 116 (.bin .eql .num 24 (iC 8)),qo 115 (.mv 116)]) (.cond 115 (.seq (.reg [qo 117 (.fa 5 2),qo 118 (.load 117 1 false),qo 13 (.mv 118)])
 (.cut [0, 2, 3, 5, 8, 9, 13] [(.x 0), (.s 5), (.s 8), (.s 9)] (.seq (.reg [qo 119 (.mv 3),qo 120 (.bin .lss .num 119 (iC 4))]) (.cond 120 (.reg [qo 121 (.mv 13),qo 122 (.mv 2),qo 123 (.fa 5 3),qo 124 (.load 123 1 false),qo 125 (.fa 5 2),qo 126 (.load 125 1 false),qo 127 (.bin .sub .num 124 126),qo 128 (.mn [127, (iC 3)]),qo 129 (.bin .add .num 128 (iC 1)),
 qo 130 (.call 130 15 [122, 129]),qo 131 (.bin .add .num 121 130),qo 13 (.mv 131)]) .skip)) (.seq (.reg [qo 132 (.mv 13),qo 133 (.mv (iC 0))]) (.block 3 (.pre [.ownc (.s 9) 3 .fld (.sub (.sub (.s 9) 601) 3)] (.loop (.keep [0, 2, 3, 5, 8, 9, 132, 133] [(.x 0), (.s 5), (.s 8), (.s 9), (.sub (.sub (.s 9) 601) 3)] (.aft (.seq (.reg [qo 134 (.bin .lss .num 133 132)]) (.seq (.cond 134 .skip (.exit 3))
 (.seq (.block 4 (.drw [(.x 0), (.sub (.sub (.s 9) 601) 3)] (oR 17) [16] [0, 1, 2, 3, 4, 5, 6, 7, 8, 9, 10, 12, 15] [qo 135 (.fa 9 3),qo 136 (.load 135 1 false),qo 137 (.mv 0),qo 138 (.fa 5 5),qo 139 (.load 138 1 false),qo 140 (.idxA 139 (iC 0) 7),qo 141 (.fa 140 1),qo 142 (.load 141 6 true),qo 143 (.mv 2),qo 144 (.mv 3),qo 145 (.bin .add .num 144 (iC 1)),
 qo 146 (.call 146 42 [137, 142, 143, 145]),qo 147 (.build [.str (⟨#[]⟩ : BA), .int .i64 0, .int .i64 0, .str (⟨#[]⟩ : BA), .isl .fld []] [((1, 4), 146)]),qo 148 (.bsl .fld [147]),qo 149 (.app 149 .fld 68719476736 136 148),qo 150 (.fa 9 3),qp (.store 150 149 1)])) (.reg [qo 151 (.bin .add .num 133 (iC 1)),
 qo 133 (.mv 151)])))) [.keep [0, 2, 3, 5, 8, 9, 132, 133] [(.x 0), (.s 5), (.s 8), (.s 9), (.s 149)], .ownc (.s 9) 3 .fld (.sub (.sub (.s 9) 601) 3)])))))))) (.seq (.reg [qo 153 (.bin .eql .num 24 (iC 9)),qo 152 (.mv 153)]) (.cond 152 (.seq (.drw [(.x 0)] (oR 13) [] [0, 1, 2, 3, 4, 5, 6, 7, 8, 9, 11, 12] [qo 154 (.fa 5 2),qo 155 (.load 154 1 false),qo 156 (.mv 2),qo 157 (.fa 5 3),
 qo 158 (.load 157 1 false),qo 159 (.fa 5 2),qo 160 (.load 159 1 false),qo 161 (.bin .sub .num 158 160),qo 162 (.mn [161, (iC 3)]),qo 163 (.bin .add .num 162 (iC 1)),qo 164 (.call 164 15 [156, 163]),qo 165 (.bin .add .num 155 164),qo 14 (.mv 165)]) (.seq (.reg [qo 166 (.mv 2),qo 167 (.mv 14),qo 168 (.bin .sub .num (iC 6) 167),qo 169 (.mx [(iC 1), 168]),qo 170 (.call 170 15 [166, 169]),
 qo 15 (.mv 170)]) (.seq (.reg [qo 171 (.mv 14),qo 172 (.mv (iC 0))]) (.block 5 (.pre [.ownc (.s 9) 3 .fld (.sub (.sub (.s 9) 602) 3)] (.loop (.keep [0, 2, 3, 5, 8, 9, 15, 171, 172] [(.x 0), (.s 5), (.s 8), (.s 9), (.sub (.sub (.s 9) 602) 3)] (.aft (.seq (.reg [qo 173 (.bin .lss .num 172 171)]) (.seq (.cond 173 .skip (.exit 5)) (.seq (.block 6 (.seq (.reg [qo 174 (.mv 172),qo 16 (.mv 174)])
 (.drw [(.x 0), (.sub (.sub (.s 9) 602) 3)] (.go 0 (.go 1 (.go 2 (.go 3 (.go 4 (.go 5 (.go 6 (.go 9 (.go 10 (.go 11 (.go 12 (.go 13 (.go 14 (.go 15 (.go 16 (.go 17 (.alt 7 (.alt 8 (.go 18 (.go 19 (.go 20 (.go 21 (.go 22 (.go 23 .nil)))))) 18 (.go 8 (.go 19 (.go 20 (.go 21 (.go 22 (.go 23 .nil))))))) 18 (.go 7 (.go 8 (.go 19 (.go 20 (.go 21 (.go 22 (.go 23 .nil)))))))))))))))))))))))) [23] [0, 1, 2, 3, 4, 5, 6, 9, 10, 11, 12, 13, 14, 15, 16, 17, 19, 22] [qo 175 (.fa 9 3),
 qo 176 (.load 175 1 false),qo 177 (.mv 15),qo 178 (.mv 16),qo 179 (.bin .add .num 177 178),qo 180 (.conv .u8 179),qo 181 (.bin .add .num (.c (.int .u8 97)) 180),qo 182 (.bsl .u8 [181]),qo 183 (.b2s 182),qo 184 (.mv 0),qo 185 (.fa 5 5),qo 186 (.load 185 1 false),qo 187 (.idxA 186 (iC 0) 7),qo 188 (.fa 187 1),qo 189 (.load 188 6 true),qo 190 (.mv 2),qo 191 (.mv 3),
 qo 192 (.bin .add .num 191 (iC 1)),qo 193 (.call 193 42 [184, 189, 190, 192]),qo 194 (.build [.str (⟨#[]⟩ : BA), .int .i64 0, .int .i64 0, .str (⟨#[]⟩ : BA), .isl .fld []] [((0, 1), 183), ((1, 4), 193)]),qo 195 (.bsl .fld [194]),qo 196 (.app 196 .fld 68719476736 176 195),qo 197 (.fa 9 3),qp (.store 197 196 1)]))) (.reg [qo 198 (.bin .add .num 172 (iC 1)),
 qo 172 (.mv 198)])))) [.keep [0, 2, 3, 5, 8, 9, 15, 171, 172] [(.x 0), (.s 5), (.s 8), (.s 9), (.s 196)], .ownc (.s 9) 3 .fld (.sub (.sub (.s 9) 602) 3)])))))))) .skip)))))))))))))))) [.ownc (.s 9) 3 .fld (.sub (.sub (.s 9) 1037) 3)]) (.seq (.reg [qo 199 (.load 9 4 true),qp (.store 8 199 4)]) (.pre [.frzc (.s 8) 3 .fld] .ret))))))⟩
theorem w42_val {O : Oracle TT} (fuel : Nat) (self42_val : PT → Tp → Int → LI → Option (V × LI)) (h15_Next : C15_Next O f15_Next) (h42_val : C42_val O self42_val) (h63_Resolve : C63_Resolve O f63_Resolve) (h65_Sample : C65_Sample O (f65_Sample fuel)) (h64_scalar : C64_scalar O f64_scalar) : C42_val (fun _ => vcF (S := SS) O j42_val) (b42_val fuel self42_val) := by
 intro l1 k2 m3 lo4 hi5 p6 ps7 v8 l9 Q R hQ h
 unfold b42_val at h
 refine ⟨nle rfl, rfl, ?_⟩
 conv => whnf
 refine ⟨[], ?_⟩
 conv => whnf
 refine h63_Resolve _ _ _ _ _ _ _ _ _ ?_ (sat_bind h)
 rintro k10 m11 lo12 hi13 p14 ps15 h
 obtain ⟨R246, h, hlR246, hrR246⟩ := sat_sbind h
 conv => whnf
 refine ⟨fun σ => ∃ (v241 : Int) (s242 : BA) (l243 : LI) (l244 : FV) (n245 : Nat), n245 = l244.length ∧ R246 (.inr (v241, s242, l243, l244)) ∧ σ = ⟨[(8, .c (.ptr (.s 8) 0 0)), (9, .c (.ptr (.s 9) 0 0))], [((.s 8), some (.var [.int .i64 0, .int .i64 0, .str (⟨#[]⟩ : BA), .isl .fld []])), ((.s 9), some (.var [.int .i64 k10, .int .i64 v241, .str s242, .osl (.sub (.sub (.s 9) 1037) 3) 0 n245])), ((.x 0), some (.var [.isl .int l243])), ((.sub (.sub (.s 9) 1037) 3), some (.row false .fld l244))]⟩, ?_, ?_⟩
 obtain ⟨R251, h, hlR251, hrR251⟩ := sat_sbind h
 conv => whnf
 refine ⟨fun σ => ∃ (q250 : Bool), R251 (.inr q250) ∧ σ = ⟨[(0, .c (.isl .dfn l1)), (2, .c (.ptr (.x 0) 0 0)), (3, .c (.int .i64 v8)), (5, .c (.ptr (.s 5) 0 0)), (8, .c (.ptr (.s 8) 0 0)), (9, .c (.ptr (.s 9) 0 0)), (24, .c (.int .i64 k10)), (25, .c (.bool q250))], [((.x 0), some (.var [.isl .int l9])), ((.s 5), some (.var [.int .i64 k10, .str m11, .int .i64 lo12, .int .i64 hi13, .str p14, .isl .part ps15])), ((.s 8), some (.var [.int .i64 0, .int .i64 0, .str (⟨#[]⟩ : BA), .isl .fld []])), ((.s 9), some (.var [.int .i64 k10, .int .i64 0, .str (⟨#[]⟩ : BA), .nils]))]⟩, ?_, ?_⟩
 conv => whnf
 refine kc h (fun h => ?_) fun h => ?_
 conv => whnf
 refine kc h (fun h => ?_) fun h => ?_
 conv => whnf
 refine kc h (fun h => ?_) fun h => ?_
 conv => whnf
 exact ⟨false, sat_some h, rfl⟩
 conv => whnf
 exact ⟨true, sat_some h, rfl⟩
 conv => whnf
 exact ⟨true, sat_some h, rfl⟩
 conv => whnf
 exact ⟨true, sat_some h, rfl⟩
 rintro _ ⟨q250, h, rfl⟩
 replace h := hrR251 _ h
 cases q250
 replace h := sat_cf h
 conv => whnf
 refine kc h (fun h => ?_) fun h => ?_
 conv => whnf
 refine kc h (fun h => ?_) fun h => ?_
 conv => whnf
 refine kc h (fun h => ?_) fun h => ?_
 conv => whnf
 refine kc h (fun h => ?_) fun h => ?_
 conv => whnf
 refine kc h (fun h => ?_) fun h => ?_
 conv => whnf
 refine kc h (fun h => ?_) fun h => ?_
 conv => whnf
 exact ⟨(0 : Int), (⟨#[]⟩ : BA), l9, [], _, LN, sat_some h, rfl⟩
 conv => whnf
 refine ⟨[(.x 0)], ?_⟩
 conv => whnf
 refine h15_Next _ _ _ _ ?_ (sat_bind h)
 rintro v261 l262 h
 conv => whnf
 refine ⟨[(.x 0)], ?_⟩
 conv => whnf
 refine h15_Next _ _ _ _ ?_ (sat_bind h)
 rintro v263 l264 h
 obtain ⟨hN301, h⟩ := sat_grdP h
 conv => whnf
 refine ⟨fun σ n => ∃ (f299 : Nat) (v298 : Int) (z : Int) (l302 : FV) (l303 : LI) (n304 : Nat), f299 = n ∧ f299 = ((wrap .i64 (lo12 + v261)) - v298).toNat ∧ 0 ≤ v298 ∧ v298 = z ∧ n304 = l302.length ∧ sat (f42_val_L4 self42_val l1 v8 ps15 v263 f299 v298 l302 l303) R246 ∧ σ.keep [0, 2, 3, 5, 8, 9, 15, 171, 172] [(.x 0), (.s 5), (.s 8), (.s 9), (.sub (.sub (.s 9) 602) 3)] = ⟨[(0, .c (.isl .dfn l1)), (2, .c (.ptr (.x 0) 0 0)), (3, .c (.int .i64 v8)), (5, .c (.ptr (.s 5) 0 0)), (8, .c (.ptr (.s 8) 0 0)), (9, .c (.ptr (.s 9) 0 0)), (15, .c (.int .i64 v263)), (171, .c (.int .i64 (wrap .i64 (lo12 + v261)))), (172, .c (.int .i64 z))], [((.x 0), some (.var [.isl .int l303])), ((.s 5), some (.var [.int .i64 k10, .str m11, .int .i64 lo12, .int .i64 hi13, .str p14, .isl .part ps15])), ((.s 8), some (.var [.int .i64 0, .int .i64 0, .str (⟨#[]⟩ : BA), .isl .fld []])), ((.s 9), some (.var [.int .i64 k10, .int .i64 0, .str (⟨#[]⟩ : BA), .osl (.sub (.sub (.s 9) 602) 3) 0 n304])), ((.sub (.sub (.s 9) 602) 3), some (.row false .fld l302))]⟩, ⟨_, _, 0, _, [], l264, _, rfl, rfl, (by decide), rfl, LN, h, rfl⟩, ?_⟩
 rintro σ n ⟨f299, v298, _, l302, l303, _, rfl, hf299, hpf299, rfl, rfl, h, hσ⟩
 refine kk hσ ?_
 conv => whnf
 intro t305 (ht305 : t305 = decide (v298 < (wrap .i64 (lo12 + v261))))
 cases t305
 obtain rfl := il_nil hf299 ht305
 rw [f42_val_L4] at h
 conv => whnf
 exact ⟨(0 : Int), (⟨#[]⟩ : BA), l303, l302, _, LN, sat_some h, rfl⟩
 obtain ⟨g300, rfl, hwg300, hpg300, hfg300⟩ := il_cons hf299 hpf299 ht305 hN301
 rw [f42_val_L4] at h
 conv => whnf
 refine kg (sat_getL h) fun uu313 huu313 h => ?_
 obtain ⟨a306, ⟨k307, m308, lo309, hi310, p311, ps312⟩⟩ := uu313
 conv => whnf
 refine ⟨?_, ?_⟩
 conv => whnf
 refine ⟨?_, ?_⟩
 conv => whnf
 refine ⟨([(wrap .u8 ((97 : Int) + (wrap .u8 (wrap .i64 (v263 + v298)))))] : LI), rfl, ?_⟩
 conv => whnf
 refine ⟨[(.x 0)], ?_⟩
 conv => whnf
 refine h42_val _ _ _ _ _ _ _ _ _ _ _ ?_ (sat_bind h)
 rintro k314 n315 s316 f317 l318 h
 conv => whnf
 refine ⟨LN, rfl, ?_⟩
 conv => whnf
 refine ⟨rfl, ?_⟩
 conv => whnf
 refine kp h fun hb319 h => ?_
 conv => whnf
 exact ⟨g300, nls, g300, v298 + 1, _, (l302 ++ ([((strOfNums ([(wrap .u8 ((97 : Int) + (wrap .u8 (wrap .i64 (v263 + v298)))))] : LI)), (V.mk k314 n315 s316 f317))] : FV)), l318, _, rfl, hfg300, hpg300, hwg300.symm, LN, h, rfl⟩
 conv => whnf
 refine ⟨[(.x 0)], ?_⟩
 conv => whnf
 refine h42_val _ _ _ _ _ _ _ _ _ _ _ ?_ (sat_bind h)
 rintro k320 n321 s322 f323 l324 h
 conv => whnf
 refine ⟨([(wrap .u8 ((97 : Int) + (wrap .u8 (wrap .i64 (v263 + v298)))))] : LI), rfl, ?_⟩
 conv => whnf
 refine ⟨LN, rfl, ?_⟩
 conv => whnf
 refine ⟨rfl, ?_⟩
 conv => whnf
 refine kp h fun hb325 h => ?_
 conv => whnf
 exact ⟨g300, nls, g300, v298 + 1, _, (l302 ++ ([((strOfNums ([(wrap .u8 ((97 : Int) + (wrap .u8 (wrap .i64 (v263 + v298)))))] : LI)), (V.mk k320 n321 s322 f323))] : FV)), l324, _, rfl, hfg300, hpg300, hwg300.symm, LN, h, rfl⟩
 conv => whnf
 refine ⟨[(.x 0)], ?_⟩
 conv => whnf
 refine h42_val _ _ _ _ _ _ _ _ _ _ _ ?_ (sat_bind h)
 rintro k326 n327 s328 f329 l330 h
 conv => whnf
 refine ⟨([(wrap .u8 ((97 : Int) + (wrap .u8 (wrap .i64 (v263 + v298)))))] : LI), rfl, ?_⟩
 conv => whnf
 refine ⟨LN, rfl, ?_⟩
 conv => whnf
 refine ⟨rfl, ?_⟩
 conv => whnf
 refine kp h fun hb331 h => ?_
 conv => whnf
 exact ⟨g300, nls, g300, v298 + 1, _, (l302 ++ ([((strOfNums ([(wrap .u8 ((97 : Int) + (wrap .u8 (wrap .i64 (v263 + v298)))))] : LI)), (V.mk k326 n327 s328 f329))] : FV)), l330, _, rfl, hfg300, hpg300, hwg300.symm, LN, h, rfl⟩
 obtain ⟨R337, h, hlR337, hrR337⟩ := sat_sbind h
 conv => whnf
 refine ⟨fun σ => ∃ (v335 : Int) (l336 : LI), R337 (.inr (v335, l336)) ∧ σ = ⟨[(0, .c (.isl .dfn l1)), (2, .c (.ptr (.x 0) 0 0)), (3, .c (.int .i64 v8)), (5, .c (.ptr (.s 5) 0 0)), (8, .c (.ptr (.s 8) 0 0)), (9, .c (.ptr (.s 9) 0 0)), (13, .c (.int .i64 v335))], [((.x 0), some (.var [.isl .int l336])), ((.s 5), some (.var [.int .i64 k10, .str m11, .int .i64 lo12, .int .i64 hi13, .str p14, .isl .part ps15])), ((.s 8), some (.var [.int .i64 0, .int .i64 0, .str (⟨#[]⟩ : BA), .isl .fld []])), ((.s 9), some (.var [.int .i64 k10, .int .i64 0, .str (⟨#[]⟩ : BA), .nils]))]⟩, ?_, ?_⟩
 conv => whnf
 refine kc h (fun h => ?_) fun h => ?_
 conv => whnf
 exact ⟨lo12, l9, sat_some h, rfl⟩
 conv => whnf
 refine ⟨[(.x 0)], ?_⟩
 conv => whnf
 refine h15_Next _ _ _ _ ?_ (sat_bind h)
 rintro v339 l340 h
 conv => whnf
 exact ⟨(wrap .i64 (lo12 + v339)), l340, sat_some h, rfl⟩
 rintro _ ⟨v335, l336, h, rfl⟩
 replace h := hrR337 _ h
 obtain ⟨hN365, h⟩ := sat_grdP h
 conv => whnf
 refine ⟨fun σ n => ∃ (f363 : Nat) (v362 : Int) (z : Int) (l366 : FV) (l367 : LI) (n368 : Nat), f363 = n ∧ f363 = (v335 - v362).toNat ∧ 0 ≤ v362 ∧ v362 = z ∧ n368 = l366.length ∧ sat (f42_val_L5 self42_val l1 v8 ps15 f363 v362 l366 l367) R246 ∧ σ.keep [0, 2, 3, 5, 8, 9, 132, 133] [(.x 0), (.s 5), (.s 8), (.s 9), (.sub (.sub (.s 9) 601) 3)] = ⟨[(0, .c (.isl .dfn l1)), (2, .c (.ptr (.x 0) 0 0)), (3, .c (.int .i64 v8)), (5, .c (.ptr (.s 5) 0 0)), (8, .c (.ptr (.s 8) 0 0)), (9, .c (.ptr (.s 9) 0 0)), (132, .c (.int .i64 v335)), (133, .c (.int .i64 z))], [((.x 0), some (.var [.isl .int l367])), ((.s 5), some (.var [.int .i64 k10, .str m11, .int .i64 lo12, .int .i64 hi13, .str p14, .isl .part ps15])), ((.s 8), some (.var [.int .i64 0, .int .i64 0, .str (⟨#[]⟩ : BA), .isl .fld []])), ((.s 9), some (.var [.int .i64 k10, .int .i64 0, .str (⟨#[]⟩ : BA), .osl (.sub (.sub (.s 9) 601) 3) 0 n368])), ((.sub (.sub (.s 9) 601) 3), some (.row false .fld l366))]⟩, ⟨_, _, 0, _, [], l336, _, rfl, rfl, (by decide), rfl, LN, h, rfl⟩, ?_⟩
 rintro σ n ⟨f363, v362, _, l366, l367, _, rfl, hf363, hpf363, rfl, rfl, h, hσ⟩
 refine kk hσ ?_
 conv => whnf
 intro t369 (ht369 : t369 = decide (v362 < v335))
 cases t369
 obtain rfl := il_nil hf363 ht369
 rw [f42_val_L5] at h
 conv => whnf
 exact ⟨(0 : Int), (⟨#[]⟩ : BA), l367, l366, _, LN, sat_some h, rfl⟩
 obtain ⟨g364, rfl, hwg364, hpg364, hfg364⟩ := il_cons hf363 hpf363 ht369 hN365
 rw [f42_val_L5] at h
 conv => whnf
 refine kg (sat_getL h) fun uu377 huu377 h => ?_
 obtain ⟨a370, ⟨k371, m372, lo373, hi374, p375, ps376⟩⟩ := uu377
 conv => whnf
 refine ⟨[(.x 0)], ?_⟩
 conv => whnf
 refine h42_val _ _ _ _ _ _ _ _ _ _ _ ?_ (sat_bind h)
 rintro k378 n379 s380 f381 l382 h
 conv => whnf
 refine ⟨LN, rfl, ?_⟩
 conv => whnf
 refine ⟨rfl, ?_⟩
 conv => whnf
 refine kp h fun hb383 h => ?_
 conv => whnf
 exact ⟨g364, nls, g364, v362 + 1, _, (l366 ++ ([((⟨#[]⟩ : BA), (V.mk k378 n379 s380 f381))] : FV)), l382, _, rfl, hfg364, hpg364, hwg364.symm, LN, h, rfl⟩
 obtain ⟨R390, h, hlR390, hrR390⟩ := sat_sbind h
 conv => whnf
 refine ⟨fun σ => ∃ (v388 : Int) (l389 : LI), R390 (.inr (v388, l389)) ∧ σ = ⟨[(0, .c (.isl .dfn l1)), (2, .c (.ptr (.x 0) 0 0)), (3, .c (.int .i64 v8)), (5, .c (.ptr (.s 5) 0 0)), (8, .c (.ptr (.s 8) 0 0)), (9, .c (.ptr (.s 9) 0 0)), (12, .c (.int .i64 v388))], [((.x 0), some (.var [.isl .int l389])), ((.s 5), some (.var [.int .i64 k10, .str m11, .int .i64 lo12, .int .i64 hi13, .str p14, .isl .part ps15])), ((.s 8), some (.var [.int .i64 0, .int .i64 0, .str (⟨#[]⟩ : BA), .isl .fld []])), ((.s 9), some (.var [.int .i64 k10, .int .i64 0, .str (⟨#[]⟩ : BA), .nils]))]⟩, ?_, ?_⟩
 conv => whnf
 refine kc h (fun h => ?_) fun h => ?_
 conv => whnf
 exact ⟨(0 : Int), l9, sat_some h, rfl⟩
 conv => whnf
 intro hl392
 conv => whnf
 refine ⟨[(.x 0)], ?_⟩
 conv => whnf
 refine h15_Next _ _ _ _ ?_ (sat_bind h)
 rintro v393 l394 h
 conv => whnf
 exact ⟨v393, l394, sat_some h, rfl⟩
 rintro _ ⟨v388, l389, h, rfl⟩
 replace h := hrR390 _ h
 conv => whnf
 refine kg (sat_getL h) fun uu402 huu402 h => ?_
 obtain ⟨a395, ⟨k396, m397, lo398, hi399, p400, ps401⟩⟩ := uu402
 conv => whnf
 refine kg (sat_getL h) fun uu410 huu410 h => ?_
 obtain ⟨a403, ⟨k404, m405, lo406, hi407, p408, ps409⟩⟩ := uu410
 conv => whnf
 refine ⟨[(.x 0)], ?_⟩
 conv => whnf
 refine h42_val _ _ _ _ _ _ _ _ _ _ _ ?_ (sat_bind h)
 rintro k411 n412 s413 f414 l415 h
 conv => whnf
 exact ⟨(0 : Int), (⟨#[]⟩ : BA), l415, ([(a395, (V.mk k411 n412 s413 f414))] : FV), _, LN, sat_some h, rfl⟩
 conv => whnf
 intro hl416
 conv => whnf
 refine ⟨fun σ n => ∃ (rem439 : PT) (j438 : Nat) (z : Int) (l442 : FV) (l443 : LI) (n444 : Nat), n = rem439.length ∧ ps15.drop j438 = rem439 ∧ z = ((j438 : Nat) : Int) ∧ n444 = l442.length ∧ sat (f42_val_L6 self42_val l1 v8 rem439 j438 l442 l443) R246 ∧ σ.keep [0, 2, 3, 8, 9, 64, 65, 66] [(.x 0), (.s 8), (.s 9), (.sub (.sub (.s 9) 600) 3)] = ⟨[(0, .c (.isl .dfn l1)), (2, .c (.ptr (.x 0) 0 0)), (3, .c (.int .i64 v8)), (8, .c (.ptr (.s 8) 0 0)), (9, .c (.ptr (.s 9) 0 0)), (64, .c (.isl .part ps15)), (65, .c (.int .i64 ((ps15.length : Nat) : Int))), (66, .c (.int .i64 z))], [((.x 0), some (.var [.isl .int l443])), ((.s 8), some (.var [.int .i64 0, .int .i64 0, .str (⟨#[]⟩ : BA), .isl .fld []])), ((.s 9), some (.var [.int .i64 k10, .int .i64 0, .str (⟨#[]⟩ : BA), .osl (.sub (.sub (.s 9) 600) 3) 0 n444])), ((.sub (.sub (.s 9) 600) 3), some (.row false .fld l442))]⟩, ⟨_, ps15, 0, _, [], l9, _, rfl, rfl, rfl, LN, h, rfl⟩, ?_⟩
 rintro σ n ⟨rem439, j438, _, l442, l443, _, rfl, hrem439, rfl, rfl, h, hσ⟩
 refine kk hσ ?_
 conv => whnf
 intro t445 (ht445 : t445 = decide (((j438 : Nat) : Int) < ((ps15.length : Nat) : Int)))
 cases t445
 obtain rfl := ll_nil hrem439 ht445
 rw [f42_val_L6] at h
 conv => whnf
 exact ⟨(0 : Int), (⟨#[]⟩ : BA), l443, l442, _, LN, sat_some h, rfl⟩
 obtain ⟨x441, tl440, rfl, hx441, htl440⟩ := ll_cons hrem439 ht445
 obtain ⟨a446, ⟨k447, m448, lo449, hi450, p451, ps452⟩⟩ := x441
 rw [f42_val_L6] at h
 conv => whnf
 refine ⟨lx_bd hx441, fun uu453 huu453 => ?_⟩
 obtain rfl := lx_eq hx441 huu453
 conv => whnf
 refine ⟨[(.x 0)], ?_⟩
 conv => whnf
 refine h42_val _ _ _ _ _ _ _ _ _ _ _ ?_ (sat_bind h)
 rintro k454 n455 s456 f457 l458 h
 conv => whnf
 refine ⟨LN, rfl, ?_⟩
 conv => whnf
 refine ⟨rfl, ?_⟩
 conv => whnf
 refine kp h fun hb459 h => ?_
 conv => whnf
 exact ⟨tl440.length, nls, tl440, j438 + 1, _, (l442 ++ ([(a446, (V.mk k454 n455 s456 f457))] : FV)), l458, _, rfl, htl440, lx_wr hx441 hl416, LN, h, rfl⟩
 conv => whnf
 refine ⟨[(.x 0)], ?_⟩
 conv => whnf
 refine h65_Sample _ _ _ _ ?_ (sat_bind h)
 rintro s460 l461 h
 conv => whnf
 exact ⟨(0 : Int), s460, l461, [], _, LN, sat_some h, rfl⟩
 conv => whnf
 refine ⟨[(.x 0)], ?_⟩
 conv => whnf
 refine h64_scalar _ _ _ _ ?_ (sat_bind h)
 rintro k462 n463 s464 f465 l466 h
 conv => whnf
 exact ⟨n463, (⟨#[]⟩ : BA), l466, [], _, LN, sat_some h, rfl⟩
 replace h := sat_ct h
 conv => whnf
 refine ⟨[(.x 0)], ?_⟩
 conv => whnf
 refine h15_Next _ _ _ _ ?_ (sat_bind h)
 rintro v467 l468 h
 conv => whnf
 refine ⟨[(.x 0)], ?_⟩
 conv => whnf
 refine h15_Next _ _ _ _ ?_ (sat_bind h)
 rintro v469 l470 h
 conv => whnf
 refine kc h (fun h => ?_) fun h => ?_
 conv => whnf
 exact ⟨(wrap .i64 (lo12 + v467)), (⟨#[]⟩ : BA), l470, [], _, LN, sat_some h, rfl⟩
 conv => whnf
 exact ⟨hi13, (⟨#[]⟩ : BA), l470, [], _, LN, sat_some h, rfl⟩
 rintro _ ⟨v241, s242, l243, l244, _, rfl, h, rfl⟩
 replace h := hrR246 _ h
 conv => whnf
 refine ⟨LN, ?_⟩
 conv => whnf
 exact ⟨[], ND 1, hQ _ _ _ _ _ (sat_some h)⟩
theorem cg42_val {P : Program} {fid : Nat → FuncId} (mx : MX P) (k42_val : KF P fid 42 j42_val) (h15_Next : C15_Next (SP P fid) f15_Next) (h63_Resolve : C63_Resolve (SP P fid) f63_Resolve) (h65_Sample : ∀ n, C65_Sample (SP P fid) (f65_Sample n)) (h64_scalar : C64_scalar (SP P fid) f64_scalar) : ∀ n, C42_val (SP P fid) (f42_val n) := by
 intro n
 induction n with
 | zero => exact fun a0 a1 a2 a3 a4 a5 a6 a7 a8 Q R hQ h => (sat_none h).elim
 | succ n ih =>
  have ih0 := ih
  exact fun a0 a1 a2 a3 a4 a5 a6 a7 a8 Q R hQ h => spec_of_vc mx k42_val (w42_val n (f42_val n) h15_Next ih0 h63_Resolve (h65_Sample n) h64_scalar a0 a1 a2 a3 a4 a5 a6 a7 a8 Q R hQ h)
theorem c42_val {P : Program} {fid : Nat → FuncId} (mx : MX P) (k42_val : KF P fid 42 j42_val) (h15_Next : C15_Next (SP P fid) f15_Next) (h63_Resolve : C63_Resolve (SP P fid) f63_Resolve) (h65_Sample : ∀ n, C65_Sample (SP P fid) (f65_Sample n)) (h64_scalar : C64_scalar (SP P fid) f64_scalar) : ∀ n, C42_val (SP P fid) (f42_val n) := fun n => (cg42_val mx k42_val h15_Next h63_Resolve h65_Sample h64_scalar n)
def f108_Clone : PT → Option (PT)
  | l => grdP (l.length ≤ 68719476736) (some l)
def C108_Clone (O : Oracle TT) (m : PT → Option (PT)) : Prop :=
  ∀ (l1 : PT) (Q : PT → Prop) (R : RR) (_ : ∀ (l2 : PT) (n0r : Nat) (_ : n0r = l2.length), Q l2 → R (.c (.osl (.x 0) 0 n0r)) [(.x 0, some (.row false .part l2))]) (_ : sat (m l1) Q), O 108 [.c (.isl .part l1)] [] R
def j108_Clone : Fn TT := ⟨8, [.t 2], (.seq (.reg [qo 2 (.mv (.c (.nils)))]) (.seq (.seq (.reg [qo 3 (.mv 0),qo 4 (.bin .eql .slice 3 (.c (.nils)))]) (.cond 4 (.seq (.reg [qo 2 (.mv (.c (.nils)))]) (.pre [.own 2 0 .part (.sub (.sub (.s 2) 900) 0)] .ret)) .skip)) (.seq (.reg [qo 5 (.bslice 5 .part []),qo 6 (.mv 0),qo 7 (.app 7 .part 68719476736 5 6),qo 2 (.mv 7)])
 (.pre [.own 2 0 .part (.sub (.sub (.s 2) 900) 0)] .ret))))⟩
theorem w108_Clone {O : Oracle TT} : C108_Clone (fun _ => vcF (S := SS) O j108_Clone) f108_Clone := by
 intro l1 Q R hQ h
 unfold f108_Clone at h
 obtain ⟨hb, h⟩ := sat_grdP h
 have hq := fun n e => hQ l1 n e (sat_some h)
 clear h hQ
 have key : ∀ (q : PT) (n : Nat), q = l1 → n = l1.length → R (.c (.osl (.x 0) 0 n)) [(.x 0, some (.row false .part q))] := by rintro _ _ rfl hn; exact hq _ hn
 refine ⟨nle rfl, rfl, ?_⟩
 conv => whnf
 intro t (ht : l1 ≠ [] → t = false)
 cases t
 conv => whnf
 refine ⟨rfl, rfl, ?_⟩
 conv => whnf
 refine ⟨rfl, ?_⟩
 conv => whnf
 refine ⟨(by simpa using hb : ([] : PT).length + l1.length ≤ 68719476736), ?_⟩
 conv => whnf
 exact ⟨[(.sub (.sub (.s 2) 900) 0)], (by decide : (lX 0 ++ ([(.sub (.sub (.s 2) 900) 0)] : List Id)).Nodup), key _ _ (List.nil_append l1) (by simp)⟩
 have hn : l1 = [] := by rcases Classical.em (l1 = []) with h | h; exact h; cases ht h
 conv => whnf
 exact ⟨[(.sub (.sub (.s 2) 900) 0)], (by decide : (lX 0 ++ ([(.sub (.sub (.s 2) 900) 0)] : List Id)).Nodup), key _ _ hn.symm (by rw [hn]; rfl)⟩
theorem c108_Clone {P : Program} {fid : Nat → FuncId} (mx : MX P) (k108_Clone : KF P fid 108 j108_Clone) : C108_Clone (SP P fid) f108_Clone :=
 fun a0 Q R hQ h => spec_of_vc mx k108_Clone (w108_Clone a0 Q R hQ h)
def f85_Copy_L2 (self85_Copy : Tp → Option (Tp)) : Nat → Int → PT → Option (Sum (Tp) (PT))
  | 0, v104, l108 => some (.inr l108)
  | g106 + 1, v104, l108 => grdP ((0 : Int) ≤ v104 ∧ v104 < ((l108.length : Nat) : Int)) (getN l108 (0 + v104.toNat) fun uu119 => match uu119 with | (a112, .mk k113 m114 lo115 hi116 p117 ps118) => (self85_Copy (Tp.mk k113 m114 lo115 hi116 p117 ps118)).bind fun (.mk k120 m121 lo122 hi123 p124 ps125) => grdP ((0 : Int) ≤ v104 ∧ v104 < ((l108.length : Nat) : Int)) (getN l108 (0 + v104.toNat) fun uu134 => match uu134 with | (a127, .mk k128 m129 lo130 hi131 p132 ps133) => f85_Copy_L2 self85_Copy g106 (v104 + 1) (l108.set (0 + v104.toNat) (a127, (Tp.mk k120 m121 lo122 hi123 p124 ps125)))))
def b85_Copy (self85_Copy : Tp → Option (Tp)) : Tp → Option (Tp)
  | .mk k1 m2 lo3 hi4 p5 ps6 => (f108_Clone ps6).bind fun l7 => sbind (ο := PT) (grdP (((l7.length : Nat) : Int) ≤ 9223372036854775807) (f85_Copy_L2 self85_Copy (((l7.length : Nat) : Int) - 0).toNat 0 l7)) (fun l70 => some (Tp.mk k1 m2 lo3 hi4 p5 l70))
def f85_Copy : Nat → Tp → Option (Tp)
  | 0 => fun _ => none
  | n + 1 => b85_Copy (f85_Copy n)
def C85_Copy (O : Oracle TT) (m : Tp → Option (Tp)) : Prop :=
  ∀ (k1 : Int) (m2 : BA) (lo3 : Int) (hi4 : Int) (p5 : BA) (ps6 : PT) (Q : Tp → Prop) (R : RR) (_ : ∀ (k135 : Int) (m136 : BA) (lo137 : Int) (hi138 : Int) (p139 : BA) (ps140 : PT), Q (Tp.mk k135 m136 lo137 hi138 p139 ps140) → R (.agg [.int .i64 k135, .str m136, .int .i64 lo137, .int .i64 hi138, .str p139, .isl .part ps140]) []) (_ : sat (m (Tp.mk k1 m2 lo3 hi4 p5 ps6)) Q), O 85 [.agg [.int .i64 k1, .str m2, .int .i64 lo3, .int .i64 hi4, .str p5, .isl .part ps6]] [] R
def j85_Copy : Fn TT := ⟨28, [.cell 2 6 true], (.seq (.reg [qo 1 (.box 1 0),qo 2 (.alloc 2 [.int .i64 0, .str (⟨#[]⟩ : BA), .int .i64 0, .int .i64 0, .str (⟨#[]⟩ : BA), .isl .part []])]) (.seq (.reg [qo 4 (.fa 1 5),qo 5 (.load 4 1 false),qo 6 (.call 6 108 [5]),qo 7 (.fa 1 5),qp (.store 7 6 1)]) (.cut [1, 2] [(.s 1), (.s 2), (.sub (.s 6) 0)] (.seq (.reg [qo 8 (.fa 1 5),
 qo 9 (.load 8 1 false),qo 10 (.len false 9),qo 11 (.mv (iC 0))]) (.block 0 (.loop (.keep [1, 2, 10, 11] [(.s 1), (.s 2), (.sub (.s 6) 0)] (.aft (.seq (.reg [qo 12 (.bin .lss .num 11 10)]) (.seq (.cond 12 .skip (.exit 0)) (.seq (.block 1 (.seq (.reg [qo 13 (.mv 11),qo 3 (.mv 13)]) (.drw [] (oR 13) [12] [0, 1, 2, 3, 4, 5, 6, 7, 8, 10, 11] [qo 14 (.fa 1 5),qo 15 (.load 14 1 false),qo 16 (.mv 3),
 qo 17 (.fa 1 5),qo 18 (.load 17 1 false),qo 19 (.mv 3),qo 20 (.idxA 18 19 7),qo 21 (.fa 20 1),qo 22 (.load 21 6 true),qo 23 (.call 23 85 [22]),qo 24 (.idxA 15 16 7),qo 25 (.fa 24 1),qp (.store 25 23 6)]))) (.reg [qo 26 (.bin .add .num 11 (iC 1)),qo 11 (.mv 26)])))) [.keep [1, 2, 10, 11] [(.s 1), (.s 2), (.sub (.s 6) 0)]]))))) (.seq (.reg [qo 27 (.load 1 6 true),qp (.store 2 27 6)])
 (.pre [.frzc (.s 2) 5 .part] .ret)))))⟩
theorem w85_Copy {O : Oracle TT} (self85_Copy : Tp → Option (Tp)) (h85_Copy : C85_Copy O self85_Copy) (h108_Clone : C108_Clone O f108_Clone) : C85_Copy (fun _ => vcF (S := SS) O j85_Copy) (b85_Copy self85_Copy) := by
 intro k1 m2 lo3 hi4 p5 ps6 Q R hQ h
 unfold b85_Copy at h
 refine ⟨nle rfl, rfl, ?_⟩
 conv => whnf
 refine ⟨[], ?_⟩
 conv => whnf
 refine h108_Clone _ _ _ ?_ (sat_bind h)
 rintro l7 _ rfl h
 obtain ⟨R72, h, hlR72, hrR72⟩ := sat_sbind h
 conv => whnf
 refine ⟨fun σ => ∃ (l70 : PT) (n71 : Nat), n71 = l70.length ∧ R72 (.inr l70) ∧ σ = ⟨[(1, .c (.ptr (.s 1) 0 0)), (2, .c (.ptr (.s 2) 0 0))], [((.s 1), some (.var [.int .i64 k1, .str m2, .int .i64 lo3, .int .i64 hi4, .str p5, .osl (.sub (.s 6) 0) 0 n71])), ((.s 2), some (.var [.int .i64 0, .str (⟨#[]⟩ : BA), .int .i64 0, .int .i64 0, .str (⟨#[]⟩ : BA), .isl .part []])), ((.sub (.s 6) 0), some (.row false .part l70))]⟩, ?_, ?_⟩
 conv => whnf
 intro hl73
 obtain ⟨hN107, h⟩ := sat_grdP h
 conv => whnf
 refine ⟨fun σ n => ∃ (f105 : Nat) (v104 : Int) (z : Int) (l108 : PT) (n109 : Nat), f105 = n ∧ f105 = (((l7.length : Nat) : Int) - v104).toNat ∧ 0 ≤ v104 ∧ v104 = z ∧ n109 = l108.length ∧ sat (f85_Copy_L2 self85_Copy f105 v104 l108) R72 ∧ σ.keep [1, 2, 10, 11] [(.s 1), (.s 2), (.sub (.s 6) 0)] = ⟨[(1, .c (.ptr (.s 1) 0 0)), (2, .c (.ptr (.s 2) 0 0)), (10, .c (.int .i64 ((l7.length : Nat) : Int))), (11, .c (.int .i64 z))], [((.s 1), some (.var [.int .i64 k1, .str m2, .int .i64 lo3, .int .i64 hi4, .str p5, .osl (.sub (.s 6) 0) 0 n109])), ((.s 2), some (.var [.int .i64 0, .str (⟨#[]⟩ : BA), .int .i64 0, .int .i64 0, .str (⟨#[]⟩ : BA), .isl .part []])), ((.sub (.s 6) 0), some (.row false .part l108))]⟩, ⟨_, _, 0, _, l7, _, rfl, rfl, (by decide), rfl, LN, h, rfl⟩, ?_⟩
 rintro σ n ⟨f105, v104, _, l108, _, rfl, hf105, hpf105, rfl, rfl, h, hσ⟩
 refine kk hσ ?_
 conv => whnf
 intro t110 (ht110 : t110 = decide (v104 < ((l7.length : Nat) : Int)))
 cases t110
 obtain rfl := il_nil hf105 ht110
 rw [f85_Copy_L2] at h
 conv => whnf
 exact ⟨l108, _, LN, sat_some h, rfl⟩
 obtain ⟨g106, rfl, hwg106, hpg106, hfg106⟩ := il_cons hf105 hpf105 ht110 hN107
 rw [f85_Copy_L2] at h
 conv => whnf
 refine kp h fun hb111 h => ?_
 conv => whnf
 refine kg (sat_getN h) fun uu119 huu119 h => ?_
 obtain ⟨a112, ⟨k113, m114, lo115, hi116, p117, ps118⟩⟩ := uu119
 conv => whnf
 refine ⟨[], ?_⟩
 conv => whnf
 refine h85_Copy _ _ _ _ _ _ _ _ ?_ (sat_bind h)
 rintro k120 m121 lo122 hi123 p124 ps125 h
 conv => whnf
 refine kp h fun hb126 h => ?_
 conv => whnf
 refine kg (sat_getN h) fun uu134 huu134 h => ?_
 obtain ⟨a127, ⟨k128, m129, lo130, hi131, p132, ps133⟩⟩ := uu134
 refine ⟨(a127, (Tp.mk k120 m121 lo122 hi123 p124 ps125)), rfl, ?_⟩
 conv => whnf
 exact ⟨g106, nls, g106, v104 + 1, _, (l108.set (0 + v104.toNat) (a127, (Tp.mk k120 m121 lo122 hi123 p124 ps125))), _, rfl, hfg106, hpg106, hwg106.symm, LN, h, rfl⟩
 rintro _ ⟨l70, _, rfl, h, rfl⟩
 replace h := hrR72 _ h
 conv => whnf
 refine ⟨LN, ?_⟩
 conv => whnf
 exact ⟨[], ND 0, hQ _ _ _ _ _ _ (sat_some h)⟩
theorem cg85_Copy {P : Program} {fid : Nat → FuncId} (mx : MX P) (k85_Copy : KF P fid 85 j85_Copy) (h108_Clone : C108_Clone (SP P fid) f108_Clone) : ∀ n, C85_Copy (SP P fid) (f85_Copy n) := by
 intro n
 induction n with
 | zero => exact fun a0 a1 a2 a3 a4 a5 Q R hQ h => (sat_none h).elim
 | succ n ih =>
  have ih0 := ih
  exact fun a0 a1 a2 a3 a4 a5 Q R hQ h => spec_of_vc mx k85_Copy (w85_Copy (f85_Copy n) ih0 h108_Clone a0 a1 a2 a3 a4 a5 Q R hQ h)
theorem c85_Copy {P : Program} {fid : Nat → FuncId} (mx : MX P) (k85_Copy : KF P fid 85 j85_Copy) (h108_Clone : C108_Clone (SP P fid) f108_Clone) : ∀ n, C85_Copy (SP P fid) (f85_Copy n) := fun n => (cg85_Copy mx k85_Copy h108_Clone n)
def f156b_more : BA → Int → Bool → Int → Int → Int → Int → Int → Int → Int → Int → Bool → L4 → L4 → Option (Bool × L4 × L4 × Bool)
  | s1, v2, q3, v4, v5, v6, v7, v8, v9, v10, v11, q12, r13, r14 => cond q12 (some (false, r13, r14, true)) (cond (decide (v2 < (s1.size : Int))) (some (true, r13, r14, false)) (some (false, r13, r14, false)))
def C156b_more (O : Oracle TT) (m : BA → Int → Bool → Int → Int → Int → Int → Int → Int → Int → Int → Bool → L4 → L4 → Option (Bool × L4 × L4 × Bool)) : Prop :=
  ∀ (s1 : BA) (v2 : Int) (q3 : Bool) (v4 : Int) (v5 : Int) (v6 : Int) (v7 : Int) (v8 : Int) (v9 : Int) (v10 : Int) (v11 : Int) (q12 : Bool) (r13 : L4) (r14 : L4) (n0 : Nat) (en0 : n0 = r13.length) (n1 : Nat) (en1 : n1 = r14.length) (Q : (Bool × L4 × L4 × Bool) → Prop) (R : RR) (_ : ∀ (q16 : Bool) (l17 : L4) (l18 : L4) (q19 : Bool) (n0r : Nat) (_ : n0r = l17.length) (n1r : Nat) (_ : n1r = l18.length) (_ : l17.length = r13.length) (_ : l18.length = r14.length), Q (q16, l17, l18, q19) → R (.c (.bool q16)) [(.x 0, some (.var [.str s1, .int .i64 v2, .osl (.x 1) 0 n0r, .osl (.x 2) 0 n1r, .bool q3, .int .u64 v4, .int .u64 v5, .int .u64 v6, .int .u64 v7, .int .u64 v8, .int .u64 v9, .int .u64 v10, .int .u64 v11, .bool q19])), (.x 1, some (.row false .set4 l17)), (.x 2, some (.row false .set4 l18))]) (_ : sat (m s1 v2 q3 v4 v5 v6 v7 v8 v9 v10 v11 q12 r13 r14) Q), O 156 [.c (.ptr (.x 0) 0 0)] [((.x 0), some (.var [.str s1, .int .i64 v2, .osl (.x 1) 0 n0, .osl (.x 2) 0 n1, .bool q3, .int .u64 v4, .int .u64 v5, .int .u64 v6, .int .u64 v7, .int .u64 v8, .int .u64 v9, .int .u64 v10, .int .u64 v11, .bool q12])), ((.x 1), some (.row false .set4 r13)), ((.x 2), some (.row false .set4 r14))] R
def j156b_more : Fn TT := ⟨20, [.t 2], (.seq (.reg [qo 2 (.mv bF)]) (.seq (.drw [] (oR 18) [] (List.range 18) [qo 3 (.mv 0),qo 4 (.nilck 3),qo 5 (.fa 4 13),qo 6 (.load 5 1 false),qo 7 (.un .not 6),qo 8 (.mv 7),qg 8 9 (.mv 0),qg 8 10 (.nilck 9),qg 8 11 (.fa 10 1),qg 8 12 (.load 11 1 false),qg 8 13 (.mv 0),qg 8 14 (.nilck 13),qg 8 15 (.fa 14 0),qg 8 16 (.load 15 1 false),
 qg 8 17 (.len true 16),qg 8 18 (.bin .lss .num 12 17),qo 19 (.pick 8 18 bF),qo 2 (.mv 19)]) .ret))⟩
theorem w156b_more {O : Oracle TT} : C156b_more (fun _ => vcF (S := SS) O j156b_more) f156b_more := by
 intro s1 v2 q3 v4 v5 v6 v7 v8 v9 v10 v11 q12 r13 r14 n0 en0 n1 en1 Q R hQ h
 subst en0
 subst en1
 unfold f156b_more at h
 refine ⟨nle rfl, rfl, ?_⟩
 cases q12
 replace h := sat_cf h
 conv => whnf
 refine kc h (fun h => ?_) fun h => ?_
 conv => whnf
 exact ⟨[], ND 3, hQ _ _ _ _ _ LN _ LN LN LN (sat_some h)⟩
 conv => whnf
 exact ⟨[], ND 3, hQ _ _ _ _ _ LN _ LN LN LN (sat_some h)⟩
 replace h := sat_ct h
 conv => whnf
 exact ⟨[], ND 3, hQ _ _ _ _ _ LN _ LN LN LN (sat_some h)⟩
theorem c156b_more {P : Program} {fid : Nat → FuncId} (mx : MX P) (k156b_more : KF P fid 156 j156b_more) : C156b_more (SP P fid) f156b_more :=
 fun a0 a1 a2 a3 a4 a5 a6 a7 a8 a9 a10 a11 a12 a13 n0 e0 n1 e1 Q R hQ h => spec_of_vc mx k156b_more (w156b_more a0 a1 a2 a3 a4 a5 a6 a7 a8 a9 a10 a11 a12 a13 n0 e0 n1 e1 Q R hQ h)
def f157b_peek : BA → Int → Bool → Int → Int → Int → Int → Int → Int → Int → Int → Bool → L4 → L4 → Option (Int × L4 × L4)
  | s1, v2, q3, v4, v5, v6, v7, v8, v9, v10, v11, q12, r13, r14 => cond (decide (v2 ≥ (s1.size : Int))) (some (0, r13, r14)) (getB s1 v2 fun c16 => some ((c16.toNat : Int), r13, r14))
def C157b_peek (O : Oracle TT) (m : BA → Int → Bool → Int → Int → Int → Int → Int → Int → Int → Int → Bool → L4 → L4 → Option (Int × L4 × L4)) : Prop :=
  ∀ (s1 : BA) (v2 : Int) (q3 : Bool) (v4 : Int) (v5 : Int) (v6 : Int) (v7 : Int) (v8 : Int) (v9 : Int) (v10 : Int) (v11 : Int) (q12 : Bool) (r13 : L4) (r14 : L4) (n0 : Nat) (en0 : n0 = r13.length) (n1 : Nat) (en1 : n1 = r14.length) (Q : (Int × L4 × L4) → Prop) (R : RR) (_ : ∀ (v17 : Int) (l18 : L4) (l19 : L4) (n0r : Nat) (_ : n0r = l18.length) (n1r : Nat) (_ : n1r = l19.length) (_ : l18.length = r13.length) (_ : l19.length = r14.length), Q (v17, l18, l19) → R (.c (.int .u8 v17)) [(.x 0, some (.var [.str s1, .int .i64 v2, .osl (.x 1) 0 n0r, .osl (.x 2) 0 n1r, .bool q3, .int .u64 v4, .int .u64 v5, .int .u64 v6, .int .u64 v7, .int .u64 v8, .int .u64 v9, .int .u64 v10, .int .u64 v11, .bool q12])), (.x 1, some (.row false .set4 l18)), (.x 2, some (.row false .set4 l19))]) (_ : sat (m s1 v2 q3 v4 v5 v6 v7 v8 v9 v10 v11 q12 r13 r14) Q), O 157 [.c (.ptr (.x 0) 0 0)] [((.x 0), some (.var [.str s1, .int .i64 v2, .osl (.x 1) 0 n0, .osl (.x 2) 0 n1, .bool q3, .int .u64 v4, .int .u64 v5, .int .u64 v6, .int .u64 v7, .int .u64 v8, .int .u64 v9, .int .u64 v10, .int .u64 v11, .bool q12])), ((.x 1), some (.row false .set4 r13)), ((.x 2), some (.row false .set4 r14))] R
def j157b_peek : Fn TT := ⟨22, [.t 2], (.seq (.reg [qo 2 (.mv (.c (.int .u8 0)))]) (.seq (.seq (.drw [] (oR 10) [] (List.range 10) [qo 3 (.mv 0),qo 4 (.nilck 3),qo 5 (.fa 4 1),qo 6 (.load 5 1 false),qo 7 (.mv 0),qo 8 (.nilck 7),qo 9 (.fa 8 0),qo 10 (.load 9 1 false),qo 11 (.len true 10),qo 12 (.bin .geq .num 6 11)]) (.cond 12 (.seq (.reg [qo 2 (.mv (.c (.int .u8 0)))]) .ret) .skip)) (.seq
 (.drw [] (oR 10) [] (List.range 10) [qo 13 (.mv 0),qo 14 (.nilck 13),qo 15 (.fa 14 0),qo 16 (.load 15 1 false),qo 17 (.mv 0),qo 18 (.nilck 17),qo 19 (.fa 18 1),qo 20 (.load 19 1 false),qo 21 (.idxS 16 20),qo 2 (.mv 21)]) .ret)))⟩
theorem w157b_peek {O : Oracle TT} : C157b_peek (fun _ => vcF (S := SS) O j157b_peek) f157b_peek := by
 intro s1 v2 q3 v4 v5 v6 v7 v8 v9 v10 v11 q12 r13 r14 n0 en0 n1 en1 Q R hQ h
 subst en0
 subst en1
 unfold f157b_peek at h
 refine ⟨nle rfl, rfl, ?_⟩
 conv => whnf
 refine kc h (fun h => ?_) fun h => ?_
 conv => whnf
 refine kg (sat_getB h) fun c16 hc16 h => ?_
 conv => whnf
 exact ⟨[], ND 3, hQ _ _ _ _ LN _ LN LN LN (sat_some h)⟩
 conv => whnf
 exact ⟨[], ND 3, hQ _ _ _ _ LN _ LN LN LN (sat_some h)⟩
theorem c157b_peek {P : Program} {fid : Nat → FuncId} (mx : MX P) (k157b_peek : KF P fid 157 j157b_peek) : C157b_peek (SP P fid) f157b_peek :=
 fun a0 a1 a2 a3 a4 a5 a6 a7 a8 a9 a10 a11 a12 a13 n0 e0 n1 e1 Q R hQ h => spec_of_vc mx k157b_peek (w157b_peek a0 a1 a2 a3 a4 a5 a6 a7 a8 a9 a10 a11 a12 a13 n0 e0 n1 e1 Q R hQ h)
def f114_IndexByte : BA → Int → Option (Int)
  | s1, v2 => some (firstIdx s1 (v2).toNat.toUInt8)
def C114_IndexByte (O : Oracle TT) (m : BA → Int → Option (Int)) : Prop :=
  ∀ (s1 : BA) (v2 : Int) (Q : Int → Prop) (R : RR) (_ : ∀ (v3 : Int), Q v3 → R (.c (.int .i64 v3)) []) (_ : sat (m s1 v2) Q), O 114 [.c (.str s1), .c (.int .u8 v2)] [] R
def j114_IndexByte : Fn TT := ⟨8, [.t 4], (.seq (.reg [qo 4 (.mv (iC 0))]) (.seq (.reg [qo 5 (.mv 0),qo 6 (.mv 1),qo 7 (.xidx 5 6),qo 4 (.mv 7)]) .ret))⟩
theorem w114_IndexByte {O : Oracle TT} : C114_IndexByte (fun _ => vcF (S := SS) O j114_IndexByte) f114_IndexByte := by
 intro s1 v2 Q R hQ h
 unfold f114_IndexByte at h
 refine ⟨nle rfl, rfl, ?_⟩
 conv => whnf
 exact ⟨[], ND 0, hQ _ (sat_some h)⟩
theorem c114_IndexByte {P : Program} {fid : Nat → FuncId} (mx : MX P) (k114_IndexByte : KF P fid 114 j114_IndexByte) : C114_IndexByte (SP P fid) f114_IndexByte :=
 fun a0 a1 Q R hQ h => spec_of_vc mx k114_IndexByte (w114_IndexByte a0 a1 Q R hQ h)
def f91_IndexByte : BA → Int → Option (Int)
  | s1, v2 => (f114_IndexByte s1 v2).bind fun v3 => some v3
def C91_IndexByte (O : Oracle TT) (m : BA → Int → Option (Int)) : Prop :=
  ∀ (s1 : BA) (v2 : Int) (Q : Int → Prop) (R : RR) (_ : ∀ (v4 : Int), Q v4 → R (.c (.int .i64 v4)) []) (_ : sat (m s1 v2) Q), O 91 [.c (.str s1), .c (.int .u8 v2)] [] R
def j91_IndexByte : Fn TT := ⟨8, [.t 4], (.seq (.reg [qo 4 (.mv (iC 0))]) (.seq (.reg [qo 5 (.mv 0),qo 6 (.mv 1),qo 7 (.call 7 114 [5, 6]),qo 4 (.mv 7)]) .ret))⟩
theorem w91_IndexByte {O : Oracle TT} (h114_IndexByte : C114_IndexByte O f114_IndexByte) : C91_IndexByte (fun _ => vcF (S := SS) O j91_IndexByte) f91_IndexByte := by
 intro s1 v2 Q R hQ h
 unfold f91_IndexByte at h
 refine ⟨nle rfl, rfl, ?_⟩
 conv => whnf
 refine ⟨[], ?_⟩
 conv => whnf
 refine h114_IndexByte _ _ _ _ ?_ (sat_bind h)
 rintro v3 h
 conv => whnf
 exact ⟨[], ND 0, hQ _ (sat_some h)⟩
theorem c91_IndexByte {P : Program} {fid : Nat → FuncId} (mx : MX P) (k91_IndexByte : KF P fid 91 j91_IndexByte) (h114_IndexByte : C114_IndexByte (SP P fid) f114_IndexByte) : C91_IndexByte (SP P fid) f91_IndexByte :=
 fun a0 a1 Q R hQ h => spec_of_vc mx k91_IndexByte (w91_IndexByte h114_IndexByte a0 a1 Q R hQ h)
def f178_add : Int → Int → Int → Int → Int → Option N4
  | v1, v2, v3, v4, v5 => caseI (wrap .u8 (Int.tdiv v1 64)) [grdP (0 ≤ (Int.tmod v1 64)) (some ((bOr .u64 v2 (bShl .u64 1 (Int.tmod v1 64))), v3, v4, v5)), grdP (0 ≤ (Int.tmod v1 64)) (some (v2, (bOr .u64 v3 (bShl .u64 1 (Int.tmod v1 64))), v4, v5)), grdP (0 ≤ (Int.tmod v1 64)) (some (v2, v3, (bOr .u64 v4 (bShl .u64 1 (Int.tmod v1 64))), v5)), grdP (0 ≤ (Int.tmod v1 64)) (some (v2, v3, v4, (bOr .u64 v5 (bShl .u64 1 (Int.tmod v1 64)))))]
def C178_add (O : Oracle TT) (m : Int → Int → Int → Int → Int → Option N4) : Prop :=
  ∀ (v1 : Int) (v2 : Int) (v3 : Int) (v4 : Int) (v5 : Int) (Q : N4 → Prop) (R : RR) (_ : ∀ (v15 : Int) (v16 : Int) (v17 : Int) (v18 : Int), Q (v15, v16, v17, v18) → R (.tup []) [(.x 0, some (.var [.int .u64 v15, .int .u64 v16, .int .u64 v17, .int .u64 v18]))]) (_ : sat (m v1 v2 v3 v4 v5) Q), O 178 [.c (.ptr (.x 0) 0 0), .c (.int .u8 v1)] [((.x 0), some (.var [.int .u64 v2, .int .u64 v3, .int .u64 v4, .int .u64 v5]))] R
def j178_add : Fn TT := ⟨16, [], (.drw [] (oR 13) [12] (List.range 12) [qo 4 (.mv 0),qo 5 (.mv 1),qo 6 (.bin .quo .num 5 (.c (.int .u8 64))),qo 7 (.nilck 4),qo 8 (.idxC 7 6 1 4),qo 9 (.load 8 1 false),qo 10 (.mv 1),qo 11 (.bin .rem .num 10 (.c (.int .u8 64))),qo 12 (.bin .shl .num (.c (.int .u64 1)) 11),qo 13 (.bin .or .num 9 12),qo 14 (.nilck 4),qo 15 (.idxC 14 6 1 4),
 qp (.store 15 13 1)])⟩
theorem w178_add {O : Oracle TT} : C178_add (fun _ => vcF (S := SS) O j178_add) f178_add := by
 intro v1 v2 v3 v4 v5 Q R hQ h
 unfold f178_add at h
 refine ⟨nle rfl, rfl, ?_⟩
 conv => whnf
 refine ⟨by decide, ?_⟩
 conv => whnf
 obtain ⟨hbj6, h⟩ := sat_caseI h
 refine ⟨hbj6, fun j6 hj6 => ?_⟩
 replace h := h j6 hj6
 replace hbj6 : (0 : Int) ≤ (wrap .u8 (Int.tdiv v1 64)) ∧ (wrap .u8 (Int.tdiv v1 64)) < 4 := hbj6
 have hcj6 : j6 = 0 ∨ j6 = 1 ∨ j6 = 2 ∨ j6 = 3 := by omega
 rcases hcj6 with rfl | rfl | rfl | rfl
 replace h := sat_j0 h
 conv => whnf
 refine ⟨by decide, ?_⟩
 conv => whnf
 refine kp h fun hb8 h => ?_
 conv => whnf
 refine ⟨⟨by omega, by omega⟩, fun j7 hj7 => ?_⟩
 obtain rfl : j7 = 0 := by omega
 conv => whnf
 exact ⟨[], ND 1, hQ _ _ _ _ (sat_some h)⟩
 replace h := sat_j1 h
 conv => whnf
 refine ⟨by decide, ?_⟩
 conv => whnf
 refine kp h fun hb10 h => ?_
 conv => whnf
 refine ⟨⟨by omega, by omega⟩, fun j9 hj9 => ?_⟩
 obtain rfl : j9 = 1 := by omega
 conv => whnf
 exact ⟨[], ND 1, hQ _ _ _ _ (sat_some h)⟩
 replace h := sat_j2 h
 conv => whnf
 refine ⟨by decide, ?_⟩
 conv => whnf
 refine kp h fun hb12 h => ?_
 conv => whnf
 refine ⟨⟨by omega, by omega⟩, fun j11 hj11 => ?_⟩
 obtain rfl : j11 = 2 := by omega
 conv => whnf
 exact ⟨[], ND 1, hQ _ _ _ _ (sat_some h)⟩
 replace h := sat_j3 h
 conv => whnf
 refine ⟨by decide, ?_⟩
 conv => whnf
 refine kp h fun hb14 h => ?_
 conv => whnf
 refine ⟨⟨by omega, by omega⟩, fun j13 hj13 => ?_⟩
 obtain rfl : j13 = 3 := by omega
 conv => whnf
 exact ⟨[], ND 1, hQ _ _ _ _ (sat_some h)⟩
theorem c178_add {P : Program} {fid : Nat → FuncId} (mx : MX P) (k178_add : KF P fid 178 j178_add) : C178_add (SP P fid) f178_add :=
 fun a0 a1 a2 a3 a4 Q R hQ h => spec_of_vc mx k178_add (w178_add a0 a1 a2 a3 a4 Q R hQ h)
def f110_add : Int → Bool → Int → Int → Int → Int → Int → Int → Int → Int → Option N4
  | v1, q2, v3, v4, v5, v6, v7, v8, v9, v10 => caseI (wrap .i64 (Int.tdiv v1 64)) [grdP (0 ≤ (Int.tmod v1 64)) (some ((bOr .u64 v3 (bShl .u64 1 (Int.tmod v1 64))), v4, v5, v6)), grdP (0 ≤ (Int.tmod v1 64)) (some (v3, (bOr .u64 v4 (bShl .u64 1 (Int.tmod v1 64))), v5, v6)), grdP (0 ≤ (Int.tmod v1 64)) (some (v3, v4, (bOr .u64 v5 (bShl .u64 1 (Int.tmod v1 64))), v6)), grdP (0 ≤ (Int.tmod v1 64)) (some (v3, v4, v5, (bOr .u64 v6 (bShl .u64 1 (Int.tmod v1 64)))))]
def C110_add (O : Oracle TT) (m : Int → Bool → Int → Int → Int → Int → Int → Int → Int → Int → Option N4) : Prop :=
  ∀ (v1 : Int) (q2 : Bool) (v3 : Int) (v4 : Int) (v5 : Int) (v6 : Int) (v7 : Int) (v8 : Int) (v9 : Int) (v10 : Int) (Q : N4 → Prop) (R : RR) (_ : ∀ (v20 : Int) (v21 : Int) (v22 : Int) (v23 : Int), Q (v20, v21, v22, v23) → R (.tup []) [(.x 0, some (.var [.bool q2, .int .u64 v20, .int .u64 v21, .int .u64 v22, .int .u64 v23, .int .u64 v7, .int .u64 v8, .int .u64 v9, .int .u64 v10]))]) (_ : sat (m v1 q2 v3 v4 v5 v6 v7 v8 v9 v10) Q), O 110 [.c (.ptr (.x 0) 0 1), .c (.int .i64 v1)] [((.x 0), some (.var [.bool q2, .int .u64 v3, .int .u64 v4, .int .u64 v5, .int .u64 v6, .int .u64 v7, .int .u64 v8, .int .u64 v9, .int .u64 v10]))] R
def j110_add : Fn TT := ⟨16, [], (.drw [] (oR 13) [12] (List.range 12) [qo 4 (.mv 0),qo 5 (.mv 1),qo 6 (.bin .quo .num 5 (iC 64)),qo 7 (.nilck 4),qo 8 (.idxC 7 6 1 4),qo 9 (.load 8 1 false),qo 10 (.mv 1),qo 11 (.bin .rem .num 10 (iC 64)),qo 12 (.bin .shl .num (.c (.int .u64 1)) 11),qo 13 (.bin .or .num 9 12),qo 14 (.nilck 4),qo 15 (.idxC 14 6 1 4),qp (.store 15 13 1)])⟩
theorem w110_add {O : Oracle TT} : C110_add (fun _ => vcF (S := SS) O j110_add) f110_add := by
 intro v1 q2 v3 v4 v5 v6 v7 v8 v9 v10 Q R hQ h
 unfold f110_add at h
 refine ⟨nle rfl, rfl, ?_⟩
 conv => whnf
 refine ⟨by decide, ?_⟩
 conv => whnf
 obtain ⟨hbj11, h⟩ := sat_caseI h
 refine ⟨hbj11, fun j11 hj11 => ?_⟩
 replace h := h j11 hj11
 replace hbj11 : (0 : Int) ≤ (wrap .i64 (Int.tdiv v1 64)) ∧ (wrap .i64 (Int.tdiv v1 64)) < 4 := hbj11
 have hcj11 : j11 = 0 ∨ j11 = 1 ∨ j11 = 2 ∨ j11 = 3 := by omega
 rcases hcj11 with rfl | rfl | rfl | rfl
 replace h := sat_j0 h
 conv => whnf
 refine ⟨by decide, ?_⟩
 conv => whnf
 refine kp h fun hb13 h => ?_
 conv => whnf
 refine ⟨⟨by omega, by omega⟩, fun j12 hj12 => ?_⟩
 obtain rfl : j12 = 0 := by omega
 conv => whnf
 exact ⟨[], ND 1, hQ _ _ _ _ (sat_some h)⟩
 replace h := sat_j1 h
 conv => whnf
 refine ⟨by decide, ?_⟩
 conv => whnf
 refine kp h fun hb15 h => ?_
 conv => whnf
 refine ⟨⟨by omega, by omega⟩, fun j14 hj14 => ?_⟩
 obtain rfl : j14 = 1 := by omega
 conv => whnf
 exact ⟨[], ND 1, hQ _ _ _ _ (sat_some h)⟩
 replace h := sat_j2 h
 conv => whnf
 refine ⟨by decide, ?_⟩
 conv => whnf
 refine kp h fun hb17 h => ?_
 conv => whnf
 refine ⟨⟨by omega, by omega⟩, fun j16 hj16 => ?_⟩
 obtain rfl : j16 = 2 := by omega
 conv => whnf
 exact ⟨[], ND 1, hQ _ _ _ _ (sat_some h)⟩
 replace h := sat_j3 h
 conv => whnf
 refine ⟨by decide, ?_⟩
 conv => whnf
 refine kp h fun hb19 h => ?_
 conv => whnf
 refine ⟨⟨by omega, by omega⟩, fun j18 hj18 => ?_⟩
 obtain rfl : j18 = 3 := by omega
 conv => whnf
 exact ⟨[], ND 1, hQ _ _ _ _ (sat_some h)⟩
theorem c110_add {P : Program} {fid : Nat → FuncId} (mx : MX P) (k110_add : KF P fid 110 j110_add) : C110_add (SP P fid) f110_add :=
 fun a0 a1 a2 a3 a4 a5 a6 a7 a8 a9 Q R hQ h => spec_of_vc mx k110_add (w110_add a0 a1 a2 a3 a4 a5 a6 a7 a8 a9 Q R hQ h)
def f110a_add : Int → Bool → Int → Int → Int → Int → Int → Int → Int → Int → Option N4
  | v1, q2, v3, v4, v5, v6, v7, v8, v9, v10 => caseI (wrap .i64 (Int.tdiv v1 64)) [grdP (0 ≤ (Int.tmod v1 64)) (some ((bOr .u64 v7 (bShl .u64 1 (Int.tmod v1 64))), v8, v9, v10)), grdP (0 ≤ (Int.tmod v1 64)) (some (v7, (bOr .u64 v8 (bShl .u64 1 (Int.tmod v1 64))), v9, v10)), grdP (0 ≤ (Int.tmod v1 64)) (some (v7, v8, (bOr .u64 v9 (bShl .u64 1 (Int.tmod v1 64))), v10)), grdP (0 ≤ (Int.tmod v1 64)) (some (v7, v8, v9, (bOr .u64 v10 (bShl .u64 1 (Int.tmod v1 64)))))]
def C110a_add (O : Oracle TT) (m : Int → Bool → Int → Int → Int → Int → Int → Int → Int → Int → Option N4) : Prop :=
  ∀ (v1 : Int) (q2 : Bool) (v3 : Int) (v4 : Int) (v5 : Int) (v6 : Int) (v7 : Int) (v8 : Int) (v9 : Int) (v10 : Int) (Q : N4 → Prop) (R : RR) (_ : ∀ (v20 : Int) (v21 : Int) (v22 : Int) (v23 : Int), Q (v20, v21, v22, v23) → R (.tup []) [(.x 0, some (.var [.bool q2, .int .u64 v3, .int .u64 v4, .int .u64 v5, .int .u64 v6, .int .u64 v20, .int .u64 v21, .int .u64 v22, .int .u64 v23]))]) (_ : sat (m v1 q2 v3 v4 v5 v6 v7 v8 v9 v10) Q), O 110 [.c (.ptr (.x 0) 0 5), .c (.int .i64 v1)] [((.x 0), some (.var [.bool q2, .int .u64 v3, .int .u64 v4, .int .u64 v5, .int .u64 v6, .int .u64 v7, .int .u64 v8, .int .u64 v9, .int .u64 v10]))] R
def j110a_add : Fn TT := ⟨16, [], (.drw [] (oR 13) [12] (List.range 12) [qo 4 (.mv 0),qo 5 (.mv 1),qo 6 (.bin .quo .num 5 (iC 64)),qo 7 (.nilck 4),qo 8 (.idxC 7 6 1 4),qo 9 (.load 8 1 false),qo 10 (.mv 1),qo 11 (.bin .rem .num 10 (iC 64)),qo 12 (.bin .shl .num (.c (.int .u64 1)) 11),qo 13 (.bin .or .num 9 12),qo 14 (.nilck 4),qo 15 (.idxC 14 6 1 4),qp (.store 15 13 1)])⟩
theorem w110a_add {O : Oracle TT} : C110a_add (fun _ => vcF (S := SS) O j110a_add) f110a_add := by
 intro v1 q2 v3 v4 v5 v6 v7 v8 v9 v10 Q R hQ h
 unfold f110a_add at h
 refine ⟨nle rfl, rfl, ?_⟩
 conv => whnf
 refine ⟨by decide, ?_⟩
 conv => whnf
 obtain ⟨hbj11, h⟩ := sat_caseI h
 refine ⟨hbj11, fun j11 hj11 => ?_⟩
 replace h := h j11 hj11
 replace hbj11 : (0 : Int) ≤ (wrap .i64 (Int.tdiv v1 64)) ∧ (wrap .i64 (Int.tdiv v1 64)) < 4 := hbj11
 have hcj11 : j11 = 0 ∨ j11 = 1 ∨ j11 = 2 ∨ j11 = 3 := by omega
 rcases hcj11 with rfl | rfl | rfl | rfl
 replace h := sat_j0 h
 conv => whnf
 refine ⟨by decide, ?_⟩
 conv => whnf
 refine kp h fun hb13 h => ?_
 conv => whnf
 refine ⟨⟨by omega, by omega⟩, fun j12 hj12 => ?_⟩
 obtain rfl : j12 = 0 := by omega
 conv => whnf
 exact ⟨[], ND 1, hQ _ _ _ _ (sat_some h)⟩
 replace h := sat_j1 h
 conv => whnf
 refine ⟨by decide, ?_⟩
 conv => whnf
 refine kp h fun hb15 h => ?_
 conv => whnf
 refine ⟨⟨by omega, by omega⟩, fun j14 hj14 => ?_⟩
 obtain rfl : j14 = 1 := by omega
 conv => whnf
 exact ⟨[], ND 1, hQ _ _ _ _ (sat_some h)⟩
 replace h := sat_j2 h
 conv => whnf
 refine ⟨by decide, ?_⟩
 conv => whnf
 refine kp h fun hb17 h => ?_
 conv => whnf
 refine ⟨⟨by omega, by omega⟩, fun j16 hj16 => ?_⟩
 obtain rfl : j16 = 2 := by omega
 conv => whnf
 exact ⟨[], ND 1, hQ _ _ _ _ (sat_some h)⟩
 replace h := sat_j3 h
 conv => whnf
 refine ⟨by decide, ?_⟩
 conv => whnf
 refine kp h fun hb19 h => ?_
 conv => whnf
 refine ⟨⟨by omega, by omega⟩, fun j18 hj18 => ?_⟩
 obtain rfl : j18 = 3 := by omega
 conv => whnf
 exact ⟨[], ND 1, hQ _ _ _ _ (sat_some h)⟩
theorem c110a_add {P : Program} {fid : Nat → FuncId} (mx : MX P) (k110a_add : KF P fid 110 j110a_add) : C110a_add (SP P fid) f110a_add :=
 fun a0 a1 a2 a3 a4 a5 a6 a7 a8 a9 Q R hQ h => spec_of_vc mx k110a_add (w110a_add a0 a1 a2 a3 a4 a5 a6 a7 a8 a9 Q R hQ h)
def f179_position : N4 → BA → Int → Bool → Int → Int → Int → Int → Int → Int → Int → Int → Bool → L4 → L4 → Option (Bool × Int × Int × Int × Int × Int × Int × Int × Int × L4 × L4 × Bool)
  | (w1, w2, w3, w4), s5, v6, q7, v8, v9, v10, v11, v12, v13, v14, v15, q16, r17, r18 => cond (decide (((r17.length : Nat) : Int) > 255)) (some (false, 0, 0, 0, 0, 0, 0, 0, 0, r17, r18, true)) (grdP (r17.length + ([(w1, w2, w3, w4)] : L4).length ≤ 68719476736) (grdP (r18.length + ([(0, 0, 0, 0)] : L4).length ≤ 68719476736) ((f110_add ((r17.length : Nat) : Int) false (0 : Int) (0 : Int) (0 : Int) (0 : Int) (0 : Int) (0 : Int) (0 : Int) (0 : Int)).bind fun (v21, v22, v23, v24) => (f110a_add ((r17.length : Nat) : Int) false v21 v22 v23 v24 (0 : Int) (0 : Int) (0 : Int) (0 : Int)).bind fun (v25, v26, v27, v28) => some (false, v21, v22, v23, v24, v25, v26, v27, v28, (r17 ++ ([(w1, w2, w3, w4)] : L4)), (r18 ++ ([(0, 0, 0, 0)] : L4)), q16))))
def C179_position (O : Oracle TT) (m : N4 → BA → Int → Bool → Int → Int → Int → Int → Int → Int → Int → Int → Bool → L4 → L4 → Option (Bool × Int × Int × Int × Int × Int × Int × Int × Int × L4 × L4 × Bool)) : Prop :=
  ∀ (w1 : Int) (w2 : Int) (w3 : Int) (w4 : Int) (s5 : BA) (v6 : Int) (q7 : Bool) (v8 : Int) (v9 : Int) (v10 : Int) (v11 : Int) (v12 : Int) (v13 : Int) (v14 : Int) (v15 : Int) (q16 : Bool) (r17 : L4) (r18 : L4) (n0 : Nat) (en0 : n0 = r17.length) (n1 : Nat) (en1 : n1 = r18.length) (Q : (Bool × Int × Int × Int × Int × Int × Int × Int × Int × L4 × L4 × Bool) → Prop) (R : RR) (_ : ∀ (q31 : Bool) (v32 : Int) (v33 : Int) (v34 : Int) (v35 : Int) (v36 : Int) (v37 : Int) (v38 : Int) (v39 : Int) (l40 : L4) (l41 : L4) (q42 : Bool) (n0r : Nat) (_ : n0r = l40.length) (n1r : Nat) (_ : n1r = l41.length), Q (q31, v32, v33, v34, v35, v36, v37, v38, v39, l40, l41, q42) → R (.agg [.bool q31, .int .u64 v32, .int .u64 v33, .int .u64 v34, .int .u64 v35, .int .u64 v36, .int .u64 v37, .int .u64 v38, .int .u64 v39]) [(.x 0, some (.var [.str s5, .int .i64 v6, .osl (.x 3) 0 n0r, .osl (.x 4) 0 n1r, .bool q7, .int .u64 v8, .int .u64 v9, .int .u64 v10, .int .u64 v11, .int .u64 v12, .int .u64 v13, .int .u64 v14, .int .u64 v15, .bool q42])), (.x 1, none), (.x 2, none), (.x 3, some (.row false .set4 l40)), (.x 4, some (.row false .set4 l41))]) (_ : sat (m (w1, w2, w3, w4) s5 v6 q7 v8 v9 v10 v11 v12 v13 v14 v15 q16 r17 r18) Q), O 179 [.c (.ptr (.x 0) 0 0), .agg [.int .u64 w1, .int .u64 w2, .int .u64 w3, .int .u64 w4]] [((.x 0), some (.var [.str s5, .int .i64 v6, .osl (.x 1) 0 n0, .osl (.x 2) 0 n1, .bool q7, .int .u64 v8, .int .u64 v9, .int .u64 v10, .int .u64 v11, .int .u64 v12, .int .u64 v13, .int .u64 v14, .int .u64 v15, .bool q16])), ((.x 1), some (.row false .set4 r17)), ((.x 2), some (.row false .set4 r18))] R
def j179_position : Fn TT := ⟨50, [.cell 4 9 true], (.seq (.reg [qo 3 (.box 3 1),qo 4 (.alloc 4 [.bool false, .int .u64 0, .int .u64 0, .int .u64 0, .int .u64 0, .int .u64 0, .int .u64 0, .int .u64 0, .int .u64 0])]) (.seq (.reg [qo 7 (.mv 0),qo 8 (.nilck 7),qo 9 (.fa 8 2),qo 10 (.fa 9 0),qo 11 (.load 10 1 false),qo 12 (.len false 11),qo 5 (.mv 12)]) (.seq (.seq (.reg [qo 13 (.mv 5),
 qo 14 (.bin .gtr .num 13 (iC 255))]) (.cond 14 (.seq (.reg [qo 15 (.mv 0),qo 16 (.nilck 15),qo 17 (.fa 16 13),qp (.store 17 bT 1)]) (.seq (.reg [qo 18 (.build [.bool false, .int .u64 0, .int .u64 0, .int .u64 0, .int .u64 0, .int .u64 0, .int .u64 0, .int .u64 0, .int .u64 0] []),qp (.store 4 18 9)])
 (.pre [.ownc (.x 0) 2 .set4 (.sub (.sub (.x 0) 801) 2), .ownc (.x 0) 3 .set4 (.sub (.sub (.x 0) 801) 3)] .ret))) .skip)) (.seq (.drw [(.x 1)] (oR 13) [12] [0, 1, 2, 3, 4, 5, 6, 9, 10, 11] [qo 19 (.mv 0),qo 20 (.mv 0),qo 21 (.nilck 20),qo 22 (.fa 21 2),qo 23 (.fa 22 0),qo 24 (.load 23 1 false),qo 25 (.load 3 4 true),qo 26 (.bsl .set4 [25]),qo 27 (.app 27 .set4 68719476736 24 26),
 qo 28 (.nilck 19),qo 29 (.fa 28 2),qo 30 (.fa 29 0),qp (.store 30 27 1)]) (.seq (.reg [qo 31 (.mv 0),qo 32 (.mv 0),qo 33 (.nilck 32),qo 34 (.fa 33 2),qo 35 (.fa 34 1),qo 36 (.load 35 1 false),qo 37 (.build [.int .u64 0, .int .u64 0, .int .u64 0, .int .u64 0] []),qo 38 (.bsl .set4 [37]),qo 39 (.app 39 .set4 68719476736 36 38),qo 40 (.nilck 31),qo 41 (.fa 40 2),qo 42 (.fa 41 1),
 qp (.store 42 39 1)]) (.seq (.reg [qo 6 (.alloc 6 [.bool false, .int .u64 0, .int .u64 0, .int .u64 0, .int .u64 0, .int .u64 0, .int .u64 0, .int .u64 0, .int .u64 0])]) (.seq (.reg [qo 43 (.fa 6 1),qo 44 (.mv 5),qo 45 (.call 45 110 [43, 44])]) (.seq (.reg [qo 46 (.fa 6 5),qo 47 (.mv 5),qo 48 (.call 48 110 [46, 47])]) (.seq (.reg [qo 49 (.load 6 9 true),qp (.store 4 49 9)]) .ret)))))))))⟩
theorem w179_position {O : Oracle TT} (h110_add : C110_add O f110_add) (h110a_add : C110a_add O f110a_add) : C179_position (fun _ => vcF (S := SS) O j179_position) f179_position := by
 intro w1 w2 w3 w4 s5 v6 q7 v8 v9 v10 v11 v12 v13 v14 v15 q16 r17 r18 n0 en0 n1 en1 Q R hQ h
 subst en0
 subst en1
 unfold f179_position at h
 refine ⟨nle rfl, rfl, ?_⟩
 conv => whnf
 intro hl19
 conv => whnf
 refine kc h (fun h => ?_) fun h => ?_
 conv => whnf
 refine ⟨LN, rfl, ?_⟩
 conv => whnf
 refine ⟨rfl, ?_⟩
 conv => whnf
 refine kp h fun hb30 h => ?_
 conv => whnf
 refine ⟨LN, rfl, ?_⟩
 conv => whnf
 refine ⟨rfl, ?_⟩
 conv => whnf
 refine kp h fun hb29 h => ?_
 conv => whnf
 refine ⟨[(.s 6)], ?_⟩
 conv => whnf
 refine h110_add _ _ _ _ _ _ _ _ _ _ _ _ ?_ (sat_bind h)
 rintro v21 v22 v23 v24 h
 conv => whnf
 refine ⟨[(.s 6)], ?_⟩
 conv => whnf
 refine h110a_add _ _ _ _ _ _ _ _ _ _ _ _ ?_ (sat_bind h)
 rintro v25 v26 v27 v28 h
 conv => whnf
 exact ⟨[(.s 27), (.s 39)], ND 3, hQ _ _ _ _ _ _ _ _ _ _ _ _ _ LN _ LN (sat_some h)⟩
 conv => whnf
 exact ⟨[(.sub (.sub (.x 0) 801) 2), (.sub (.sub (.x 0) 801) 3)], ND 3, hQ _ _ _ _ _ _ _ _ _ _ _ _ _ LN _ LN (sat_some h)⟩
theorem c179_position {P : Program} {fid : Nat → FuncId} (mx : MX P) (k179_position : KF P fid 179 j179_position) (h110_add : C110_add (SP P fid) f110_add) (h110a_add : C110a_add (SP P fid) f110a_add) : C179_position (SP P fid) f179_position :=
 fun a0 a1 a2 a3 a4 a5 a6 a7 a8 a9 a10 a11 a12 a13 a14 a15 a16 a17 n0 e0 n1 e1 Q R hQ h => spec_of_vc mx k179_position (w179_position h110_add h110a_add a0 a1 a2 a3 a4 a5 a6 a7 a8 a9 a10 a11 a12 a13 a14 a15 a16 a17 n0 e0 n1 e1 Q R hQ h)
def f180_single : BA → Int → Bool → Int → Int → Int → Int → Int → Int → Int → Int → Bool → L4 → L4 → Option (Int × Int × L4 × L4 × Bool)
  | s1, v2, q3, v4, v5, v6, v7, v8, v9, v10, v11, q12, r13, r14 => cond (decide (v2 ≥ (s1.size : Int))) (some (0, v2, r13, r14, true)) (getB s1 v2 fun c16 => sbind (ο := Bool) (cond ((c16.toNat : Int) == 93) (some (.inr true)) (cond ((c16.toNat : Int) == 94) (some (.inr true)) (cond ((c16.toNat : Int) == 45) (some (.inr true)) (some (.inr q12))))) (fun q20 => cond ((c16.toNat : Int) == 92) (cond (decide ((wrap .i64 (v2 + 1)) ≥ (s1.size : Int))) (some (0, (wrap .i64 (v2 + 1)), r13, r14, true)) (getB s1 (wrap .i64 (v2 + 1)) fun c27 => some ((c27.toNat : Int), (wrap .i64 ((wrap .i64 (v2 + 1)) + 1)), r13, r14, q20))) (some ((c16.toNat : Int), (wrap .i64 (v2 + 1)), r13, r14, q20))))
def C180_single (O : Oracle TT) (m : BA → Int → Bool → Int → Int → Int → Int → Int → Int → Int → Int → Bool → L4 → L4 → Option (Int × Int × L4 × L4 × Bool)) : Prop :=
  ∀ (s1 : BA) (v2 : Int) (q3 : Bool) (v4 : Int) (v5 : Int) (v6 : Int) (v7 : Int) (v8 : Int) (v9 : Int) (v10 : Int) (v11 : Int) (q12 : Bool) (r13 : L4) (r14 : L4) (n0 : Nat) (en0 : n0 = r13.length) (n1 : Nat) (en1 : n1 = r14.length) (Q : (Int × Int × L4 × L4 × Bool) → Prop) (R : RR) (_ : ∀ (v28 : Int) (v29 : Int) (l30 : L4) (l31 : L4) (q32 : Bool) (n0r : Nat) (_ : n0r = l30.length) (n1r : Nat) (_ : n1r = l31.length) (_ : l30.length = r13.length) (_ : l31.length = r14.length), Q (v28, v29, l30, l31, q32) → R (.c (.int .u8 v28)) [(.x 0, some (.var [.str s1, .int .i64 v29, .osl (.x 1) 0 n0r, .osl (.x 2) 0 n1r, .bool q3, .int .u64 v4, .int .u64 v5, .int .u64 v6, .int .u64 v7, .int .u64 v8, .int .u64 v9, .int .u64 v10, .int .u64 v11, .bool q32])), (.x 1, some (.row false .set4 l30)), (.x 2, some (.row false .set4 l31))]) (_ : sat (m s1 v2 q3 v4 v5 v6 v7 v8 v9 v10 v11 q12 r13 r14) Q), O 180 [.c (.ptr (.x 0) 0 0)] [((.x 0), some (.var [.str s1, .int .i64 v2, .osl (.x 1) 0 n0, .osl (.x 2) 0 n1, .bool q3, .int .u64 v4, .int .u64 v5, .int .u64 v6, .int .u64 v7, .int .u64 v8, .int .u64 v9, .int .u64 v10, .int .u64 v11, .bool q12])), ((.x 1), some (.row false .set4 r13)), ((.x 2), some (.row false .set4 r14))] R
def j180_single : Fn TT := ⟨78, [.t 2], (.seq (.reg [qo 2 (.mv (.c (.int .u8 0)))]) (.seq (.seq (.drw [] (oR 10) [] (List.range 10) [qo 4 (.mv 0),qo 5 (.nilck 4),qo 6 (.fa 5 1),qo 7 (.load 6 1 false),qo 8 (.mv 0),qo 9 (.nilck 8),qo 10 (.fa 9 0),qo 11 (.load 10 1 false),qo 12 (.len true 11),qo 13 (.bin .geq .num 7 12)]) (.cond 13 (.seq (.reg [qo 14 (.mv 0),qo 15 (.nilck 14),
 qo 16 (.fa 15 13),qp (.store 16 bT 1)]) (.seq (.reg [qo 2 (.mv (.c (.int .u8 0)))]) .ret)) .skip)) (.seq (.drw [] (oR 10) [] (List.range 10) [qo 17 (.mv 0),qo 18 (.nilck 17),qo 19 (.fa 18 0),qo 20 (.load 19 1 false),qo 21 (.mv 0),qo 22 (.nilck 21),qo 23 (.fa 22 1),qo 24 (.load 23 1 false),qo 25 (.idxS 20 24),qo 3 (.mv 25)]) (.seq (.reg [qo 26 (.mv 0),qo 27 (.nilck 26),qo 28 (.fa 27 1),
 qo 29 (.load 28 1 false),qo 30 (.bin .add .num 29 (iC 1)),qo 31 (.nilck 26),qo 32 (.fa 31 1),qp (.store 32 30 1)]) (.cut [0, 3] [(.x 0), (.x 1), (.x 2)] (.seq (.reg [qo 33 (.mv 3),qo 34 (.bin .eql .num 33 (.c (.int .u8 93))),qo 35 (.mv 34),qf 35 36 (.mv 3),qf 35 37 (.bin .eql .num 36 (.c (.int .u8 94))),qo 38 (.pick 35 bT 37),qo 39 (.mv 38),qf 39 40 (.mv 3),
 qf 39 41 (.bin .eql .num 40 (.c (.int .u8 45))),qo 42 (.pick 39 bT 41)]) (.cond 42 (.reg [qo 43 (.mv 0),qo 44 (.nilck 43),qo 45 (.fa 44 13),qp (.store 45 bT 1)]) .skip)) (.seq (.seq (.reg [qo 46 (.mv 3),qo 47 (.bin .eql .num 46 (.c (.int .u8 92)))]) (.cond 47 (.seq (.seq (.drw [] (oR 10) [] (List.range 10) [qo 48 (.mv 0),qo 49 (.nilck 48),qo 50 (.fa 49 1),qo 51 (.load 50 1 false),
 qo 52 (.mv 0),qo 53 (.nilck 52),qo 54 (.fa 53 0),qo 55 (.load 54 1 false),qo 56 (.len true 55),qo 57 (.bin .geq .num 51 56)]) (.cond 57 (.seq (.reg [qo 58 (.mv 0),qo 59 (.nilck 58),qo 60 (.fa 59 13),qp (.store 60 bT 1)]) (.seq (.reg [qo 2 (.mv (.c (.int .u8 0)))]) .ret)) .skip)) (.seq (.drw [] (oR 10) [] (List.range 10) [qo 61 (.mv 0),qo 62 (.nilck 61),qo 63 (.fa 62 0),
 qo 64 (.load 63 1 false),qo 65 (.mv 0),qo 66 (.nilck 65),qo 67 (.fa 66 1),qo 68 (.load 67 1 false),qo 69 (.idxS 64 68),qo 3 (.mv 69)]) (.reg [qo 70 (.mv 0),qo 71 (.nilck 70),qo 72 (.fa 71 1),qo 73 (.load 72 1 false),qo 74 (.bin .add .num 73 (iC 1)),qo 75 (.nilck 70),qo 76 (.fa 75 1),qp (.store 76 74 1)]))) .skip)) (.seq (.reg [qo 77 (.mv 3),qo 2 (.mv 77)]) .ret)))))))⟩
theorem w180_single {O : Oracle TT} : C180_single (fun _ => vcF (S := SS) O j180_single) f180_single := by
 intro s1 v2 q3 v4 v5 v6 v7 v8 v9 v10 v11 q12 r13 r14 n0 en0 n1 en1 Q R hQ h
 subst en0
 subst en1
 unfold f180_single at h
 refine ⟨nle rfl, rfl, ?_⟩
 conv => whnf
 refine kc h (fun h => ?_) fun h => ?_
 conv => whnf
 refine kg (sat_getB h) fun c16 hc16 h => ?_
 obtain ⟨R21, h, hlR21, hrR21⟩ := sat_sbind h
 conv => whnf
 refine ⟨fun σ => ∃ (q20 : Bool), R21 (.inr q20) ∧ σ = ⟨[(0, .c (.ptr (.x 0) 0 0)), (3, .c (.int .u8 (c16.toNat : Int)))], [((.x 0), some (.var [.str s1, .int .i64 (wrap .i64 (v2 + 1)), .osl (.x 1) 0 r13.length, .osl (.x 2) 0 r14.length, .bool q3, .int .u64 v4, .int .u64 v5, .int .u64 v6, .int .u64 v7, .int .u64 v8, .int .u64 v9, .int .u64 v10, .int .u64 v11, .bool q20])), ((.x 1), some (.row false .set4 r13)), ((.x 2), some (.row false .set4 r14))]⟩, ?_, ?_⟩
 conv => whnf
 refine kc h (fun h => ?_) fun h => ?_
 conv => whnf
 refine kc h (fun h => ?_) fun h => ?_
 conv => whnf
 refine kc h (fun h => ?_) fun h => ?_
 conv => whnf
 exact ⟨q12, sat_some h, rfl⟩
 conv => whnf
 exact ⟨true, sat_some h, rfl⟩
 conv => whnf
 exact ⟨true, sat_some h, rfl⟩
 conv => whnf
 exact ⟨true, sat_some h, rfl⟩
 rintro _ ⟨q20, h, rfl⟩
 replace h := hrR21 _ h
 conv => whnf
 refine kc h (fun h => ?_) fun h => ?_
 conv => whnf
 exact ⟨[], ND 3, hQ _ _ _ _ _ _ LN _ LN LN LN (sat_some h)⟩
 conv => whnf
 refine kc h (fun h => ?_) fun h => ?_
 conv => whnf
 refine kg (sat_getB h) fun c27 hc27 h => ?_
 conv => whnf
 exact ⟨[], ND 3, hQ _ _ _ _ _ _ LN _ LN LN LN (sat_some h)⟩
 conv => whnf
 exact ⟨[], ND 3, hQ _ _ _ _ _ _ LN _ LN LN LN (sat_some h)⟩
 conv => whnf
 exact ⟨[], ND 3, hQ _ _ _ _ _ _ LN _ LN LN LN (sat_some h)⟩
theorem c180_single {P : Program} {fid : Nat → FuncId} (mx : MX P) (k180_single : KF P fid 180 j180_single) : C180_single (SP P fid) f180_single :=
 fun a0 a1 a2 a3 a4 a5 a6 a7 a8 a9 a10 a11 a12 a13 n0 e0 n1 e1 Q R hQ h => spec_of_vc mx k180_single (w180_single a0 a1 a2 a3 a4 a5 a6 a7 a8 a9 a10 a11 a12 a13 n0 e0 n1 e1 Q R hQ h)
def f176_turn_L1 : Nat → Int → Int → Int → Int → Int → Option N4
  | 0, v18, v22, v23, v24, v25 => some (v22, v23, v24, v25)
  | g20 + 1, v18, v22, v23, v24, v25 => caseI v18 [f176_turn_L1 g20 (v18 + 1) (bNot .u64 v22) v23 v24 v25, f176_turn_L1 g20 (v18 + 1) v22 (bNot .u64 v23) v24 v25, f176_turn_L1 g20 (v18 + 1) v22 v23 (bNot .u64 v24) v25, f176_turn_L1 g20 (v18 + 1) v22 v23 v24 (bNot .u64 v25)]
def f176_turn : Int → Int → Int → Int → Option N4
  | v1, v2, v3, v4 => grdP ((4 : Int) ≤ 9223372036854775807) (f176_turn_L1 ((4 : Int) - 0).toNat 0 v1 v2 v3 v4)
def C176_turn (O : Oracle TT) (m : Int → Int → Int → Int → Option N4) : Prop :=
  ∀ (v1 : Int) (v2 : Int) (v3 : Int) (v4 : Int) (Q : N4 → Prop) (R : RR) (_ : ∀ (v32 : Int) (v33 : Int) (v34 : Int) (v35 : Int), Q (v32, v33, v34, v35) → R (.tup []) [(.x 0, some (.var [.int .u64 v32, .int .u64 v33, .int .u64 v34, .int .u64 v35]))]) (_ : sat (m v1 v2 v3 v4) Q), O 176 [.c (.ptr (.x 0) 0 0)] [((.x 0), some (.var [.int .u64 v1, .int .u64 v2, .int .u64 v3, .int .u64 v4]))] R
def j176_turn : Fn TT := ⟨17, [], (.seq (.reg [qo 3 (.mv (iC 0))]) (.block 0 (.loop (.keep [0, 3] [(.x 0)] (.aft (.seq (.reg [qo 4 (.bin .lss .num 3 (iC 4))]) (.seq (.cond 4 .skip (.exit 0)) (.seq (.block 1 (.seq (.reg [qo 5 (.mv 3),qo 2 (.mv 5)]) (.drw [] (oR 11) [10] (List.range 10) [qo 6 (.mv 0),qo 7 (.mv 2),qo 8 (.mv 0),qo 9 (.mv 2),qo 10 (.nilck 8),qo 11 (.idxC 10 9 1 4),
 qo 12 (.load 11 1 false),qo 13 (.un .xor 12),qo 14 (.nilck 6),qo 15 (.idxC 14 7 1 4),qp (.store 15 13 1)]))) (.reg [qo 16 (.bin .add .num 3 (iC 1)),qo 3 (.mv 16)])))) [.keep [0, 3] [(.x 0)]])))))⟩
theorem w176_turn {O : Oracle TT} : C176_turn (fun _ => vcF (S := SS) O j176_turn) f176_turn := by
 intro v1 v2 v3 v4 Q R hQ h
 unfold f176_turn at h
 refine ⟨nle rfl, rfl, ?_⟩
 obtain ⟨hN21, h⟩ := sat_grdP h
 conv => whnf
 refine ⟨fun σ n => ∃ (f19 : Nat) (v18 : Int) (z : Int) (v22 : Int) (v23 : Int) (v24 : Int) (v25 : Int), f19 = n ∧ f19 = (4 - v18).toNat ∧ 0 ≤ v18 ∧ v18 = z ∧ sat (f176_turn_L1 f19 v18 v22 v23 v24 v25) Q ∧ σ.keep [0, 3] [(.x 0)] = ⟨[(0, .c (.ptr (.x 0) 0 0)), (3, .c (.int .i64 z))], [((.x 0), some (.var [.int .u64 v22, .int .u64 v23, .int .u64 v24, .int .u64 v25]))]⟩, ⟨_, _, 0, _, v1, v2, v3, v4, rfl, rfl, (by decide), rfl, h, rfl⟩, ?_⟩
 rintro σ n ⟨f19, v18, _, v22, v23, v24, v25, rfl, hf19, hpf19, rfl, h, hσ⟩
 refine kk hσ ?_
 conv => whnf
 intro t26 (ht26 : t26 = decide (v18 < 4))
 cases t26
 obtain rfl := il_nil hf19 ht26
 rw [f176_turn_L1] at h
 conv => whnf
 exact ⟨[], ND 1, hQ _ _ _ _ (sat_some h)⟩
 obtain ⟨g20, rfl, hwg20, hpg20, hfg20⟩ := il_cons hf19 hpf19 ht26 hN21
 rw [f176_turn_L1] at h
 conv => whnf
 obtain ⟨hbj27, h⟩ := sat_caseI h
 refine ⟨hbj27, fun j27 hj27 => ?_⟩
 replace h := h j27 hj27
 replace hbj27 : (0 : Int) ≤ v18 ∧ v18 < 4 := hbj27
 have hcj27 : j27 = 0 ∨ j27 = 1 ∨ j27 = 2 ∨ j27 = 3 := by omega
 rcases hcj27 with rfl | rfl | rfl | rfl
 replace h := sat_j0 h
 conv => whnf
 refine ⟨⟨by omega, by omega⟩, fun j28 hj28 => ?_⟩
 obtain rfl : j28 = 0 := by omega
 conv => whnf
 exact ⟨g20, nls, g20, v18 + 1, _, (bNot .u64 v22), v23, v24, v25, rfl, hfg20, hpg20, hwg20.symm, h, rfl⟩
 replace h := sat_j1 h
 conv => whnf
 refine ⟨⟨by omega, by omega⟩, fun j29 hj29 => ?_⟩
 obtain rfl : j29 = 1 := by omega
 conv => whnf
 exact ⟨g20, nls, g20, v18 + 1, _, v22, (bNot .u64 v23), v24, v25, rfl, hfg20, hpg20, hwg20.symm, h, rfl⟩
 replace h := sat_j2 h
 conv => whnf
 refine ⟨⟨by omega, by omega⟩, fun j30 hj30 => ?_⟩
 obtain rfl : j30 = 2 := by omega
 conv => whnf
 exact ⟨g20, nls, g20, v18 + 1, _, v22, v23, (bNot .u64 v24), v25, rfl, hfg20, hpg20, hwg20.symm, h, rfl⟩
 replace h := sat_j3 h
 conv => whnf
 refine ⟨⟨by omega, by omega⟩, fun j31 hj31 => ?_⟩
 obtain rfl : j31 = 3 := by omega
 conv => whnf
 exact ⟨g20, nls, g20, v18 + 1, _, v22, v23, v24, (bNot .u64 v25), rfl, hfg20, hpg20, hwg20.symm, h, rfl⟩
theorem c176_turn {P : Program} {fid : Nat → FuncId} (mx : MX P) (k176_turn : KF P fid 176 j176_turn) : C176_turn (SP P fid) f176_turn :=
 fun a0 a1 a2 a3 Q R hQ h => spec_of_vc mx k176_turn (w176_turn a0 a1 a2 a3 Q R hQ h)
def f177_bytes_L24 (v815 : Int) (v816 : Int) (l818 : L4) (l819 : L4) : Nat → Int → Int → Int → Int → Int → Option (Sum (Sum (N4 × Int × L4 × L4 × Bool) (Int × Bool × Int × Int × Int × Int × L4 × L4)) (Int × Bool × Int × Int × Int × Int × L4 × L4))
  | 0, _, _, _, _, _ => none
  | g847 + 1, v849, v850, v851, v852, v853 => cond (decide (v849 ≤ (wrap .i64 v815))) ((f178_add (wrap .u8 v849) v850 v851 v852 v853).bind fun (v855, v856, v857, v858) => f177_bytes_L24 v815 v816 l818 l819 g847 (wrap .i64 (v849 + 1)) v855 v856 v857 v858) (some (.inr (v816, false, v850, v851, v852, v853, l818, l819)))
def f177_bytes_L25 (v815 : Int) (v816 : Int) (l818 : L4) (l819 : L4) : Nat → Int → Int → Int → Int → Int → Option (Sum (Sum (N4 × Int × L4 × L4 × Bool) (Int × Bool × Int × Int × Int × Int × L4 × L4)) (Int × Bool × Int × Int × Int × Int × L4 × L4))
  | 0, _, _, _, _, _ => none
  | g865 + 1, v867, v868, v869, v870, v871 => cond (decide (v867 ≤ (wrap .i64 v815))) (some (.inr (v816, true, v868, v869, v870, v871, l818, l819))) (some (.inr (v816, true, v868, v869, v870, v871, l818, l819)))
def f177_bytes_L26 (v815 : Int) (v816 : Int) (l818 : L4) (l819 : L4) : Nat → Int → Int → Int → Int → Int → Option (Sum (Sum (N4 × Int × L4 × L4 × Bool) (Int × Bool × Int × Int × Int × Int × L4 × L4)) (Int × Bool × Int × Int × Int × Int × L4 × L4))
  | 0, _, _, _, _, _ => none
  | g879 + 1, v881, v882, v883, v884, v885 => cond (decide (v881 ≤ (wrap .i64 v815))) (some (.inr (v816, true, v882, v883, v884, v885, l818, l819))) (some (.inr (v816, true, v882, v883, v884, v885, l818, l819)))
def f177_bytes_L20 (fuel : Nat) (s1 : BA) (q3 : Bool) (v4 : Int) (v5 : Int) (v6 : Int) (v7 : Int) (v8 : Int) (v9 : Int) (v10 : Int) (v11 : Int) : Nat → L4 → L4 → Int → Bool → Int → Int → Int → Int → Option (Sum (N4 × Int × L4 × L4 × Bool) (Int × Bool × Int × Int × Int × Int × L4 × L4))
  | 0, _, _, _, _, _, _, _, _ => none
  | g676 + 1, l678, l679, v680, q681, v682, v683, v684, v685 => (f156b_more s1 v680 q3 v4 v5 v6 v7 v8 v9 v10 v11 q681 l678 l679).bind fun (q688, l689, l690, q691) => cond q688 ((f157b_peek s1 v680 q3 v4 v5 v6 v7 v8 v9 v10 v11 q691 l689 l690).bind fun (v692, l693, l694) => cond (v692 != 93) (sbind (ο := Int × Bool × Int × Int × Int × Int × L4 × L4) ((f180_single s1 v680 q3 v4 v5 v6 v7 v8 v9 v10 v11 q691 l693 l694).bind fun (v797, v798, l799, l800, q801) => sbind (ο := Int × Int × Bool × L4 × L4) ((f156b_more s1 v798 q3 v4 v5 v6 v7 v8 v9 v10 v11 q801 l799 l800).bind fun (q823, l824, l825, q826) => cond q823 ((f157b_peek s1 v798 q3 v4 v5 v6 v7 v8 v9 v10 v11 q826 l824 l825).bind fun (v827, l828, l829) => cond (v827 == 45) ((f180_single s1 (wrap .i64 (v798 + 1)) q3 v4 v5 v6 v7 v8 v9 v10 v11 q826 l828 l829).bind fun (v831, v832, l833, l834, q835) => some (.inr (v831, v832, q835, l833, l834))) (some (.inr (v797, v798, q826, l828, l829)))) (some (.inr (v797, v798, q826, l824, l825)))) (fun (v815, v816, q817, l818, l819) => cond q817 (f177_bytes_L26 v815 v816 l818 l819 fuel (wrap .i64 v797) v682 v683 v684 v685) (cond (decide (v815 < v797)) (f177_bytes_L25 v815 v816 l818 l819 fuel (wrap .i64 v797) v682 v683 v684 v685) (f177_bytes_L24 v815 v816 l818 l819 fuel (wrap .i64 v797) v682 v683 v684 v685)))) (fun (v786, q787, v788, v789, v790, v791, l792, l793) => f177_bytes_L20 fuel s1 q3 v4 v5 v6 v7 v8 v9 v10 v11 g676 l792 l793 v786 q787 v788 v789 v790 v791)) (some (.inr (v680, q691, v682, v683, v684, v685, l693, l694)))) (some (.inr (v680, q691, v682, v683, v684, v685, l689, l690)))
def f177_bytes (fuel : Nat) : BA → Int → Bool → Int → Int → Int → Int → Int → Int → Int → Int → Bool → L4 → L4 → Option (N4 × Int × L4 × L4 × Bool)
  | s1, v2, q3, v4, v5, v6, v7, v8, v9, v10, v11, q12, r13, r14 => sbind (ο := Bool × L4 × L4) ((f157b_peek s1 v2 q3 v4 v5 v6 v7 v8 v9 v10 v11 q12 r13 r14).bind fun (v27, l28, l29) => cond (v27 == 94) (cond (decide (v2 < (s1.size : Int))) (some (.inr (true, l28, l29))) (some (.inr (false, l28, l29)))) (some (.inr (false, l28, l29)))) (fun (q21, l22, l23) => sbind (ο := Bool × Int) (cond q21 (some (.inr (true, (wrap .i64 (v2 + 1))))) (some (.inr (false, v2)))) (fun (q33, v34) => sbind (ο := Int × Bool × Int × Int × Int × Int × L4 × L4) (f177_bytes_L20 fuel s1 q3 v4 v5 v6 v7 v8 v9 v10 v11 fuel l22 l23 v34 q12 (0 : Int) (0 : Int) (0 : Int) (0 : Int)) (fun (v456, q457, v458, v459, v460, v461, l462, l463) => cond q457 (some ((v458, v459, v460, v461), v456, l462, l463, true)) (cond (decide (v456 ≥ (s1.size : Int))) (some ((v458, v459, v460, v461), v456, l462, l463, true)) (cond q33 ((f176_turn v458 v459 v460 v461).bind fun (v889, v890, v891, v892) => cond ((v889 == 0) && ((v890 == 0) && ((v891 == 0) && ((v892 == 0) && (true))))) (some ((v889, v890, v891, v892), (wrap .i64 (v456 + 1)), l462, l463, true)) (some ((v889, v890, v891, v892), (wrap .i64 (v456 + 1)), l462, l463, false))) (cond ((v458 == 0) && ((v459 == 0) && ((v460 == 0) && ((v461 == 0) && (true))))) (some ((v458, v459, v460, v461), (wrap .i64 (v456 + 1)), l462, l463, true)) (some ((v458, v459, v460, v461), (wrap .i64 (v456 + 1)), l462, l463, false))))))))
def C177_bytes (O : Oracle TT) (m : BA → Int → Bool → Int → Int → Int → Int → Int → Int → Int → Int → Bool → L4 → L4 → Option (N4 × Int × L4 × L4 × Bool)) : Prop :=
  ∀ (s1 : BA) (v2 : Int) (q3 : Bool) (v4 : Int) (v5 : Int) (v6 : Int) (v7 : Int) (v8 : Int) (v9 : Int) (v10 : Int) (v11 : Int) (q12 : Bool) (r13 : L4) (r14 : L4) (n0 : Nat) (en0 : n0 = r13.length) (n1 : Nat) (en1 : n1 = r14.length) (Q : (N4 × Int × L4 × L4 × Bool) → Prop) (R : RR) (_ : ∀ (w894 : Int) (w895 : Int) (w896 : Int) (w897 : Int) (v898 : Int) (l899 : L4) (l900 : L4) (q901 : Bool) (n0r : Nat) (_ : n0r = l899.length) (n1r : Nat) (_ : n1r = l900.length) (_ : l899.length = r13.length) (_ : l900.length = r14.length), Q ((w894, w895, w896, w897), v898, l899, l900, q901) → R (.agg [.int .u64 w894, .int .u64 w895, .int .u64 w896, .int .u64 w897]) [(.x 0, some (.var [.str s1, .int .i64 v898, .osl (.x 1) 0 n0r, .osl (.x 2) 0 n1r, .bool q3, .int .u64 v4, .int .u64 v5, .int .u64 v6, .int .u64 v7, .int .u64 v8, .int .u64 v9, .int .u64 v10, .int .u64 v11, .bool q901])), (.x 1, some (.row false .set4 l899)), (.x 2, some (.row false .set4 l900))]) (_ : sat (m s1 v2 q3 v4 v5 v6 v7 v8 v9 v10 v11 q12 r13 r14) Q), O 177 [.c (.ptr (.x 0) 0 0)] [((.x 0), some (.var [.str s1, .int .i64 v2, .osl (.x 1) 0 n0, .osl (.x 2) 0 n1, .bool q3, .int .u64 v4, .int .u64 v5, .int .u64 v6, .int .u64 v7, .int .u64 v8, .int .u64 v9, .int .u64 v10, .int .u64 v11, .bool q12])), ((.x 1), some (.row false .set4 r13)), ((.x 2), some (.row false .set4 r14))] R
def j177_bytes : Fn TT := ⟨127, [.cell 2 4 true], (.seq (.reg [qo 2 (.alloc 2 [.int .u64 0, .int .u64 0, .int .u64 0, .int .u64 0])]) (.seq (.reg [qo 3 (.alloc 3 [.int .u64 0, .int .u64 0, .int .u64 0, .int .u64 0])]) (.cut [0, 2, 3, 4] [(.x 0), (.s 2), (.s 3), (.x 1), (.x 2)]
 (.drw [(.x 0), (.x 1), (.x 2)] (.go 0 (.go 1 (.go 2 (.go 3 (.go 4 (.go 5 (.go 6 (.go 8 (.go 9 (.go 10 (.alt 7 (.go 11 (.go 12 (.go 13 (.go 14 (.go 15 .nil))))) 11 (.go 12 (.go 7 (.go 13 (.go 14 (.go 15 .nil)))))))))))))))) [] [0, 2, 3, 4, 5, 6, 8, 9, 10, 12, 13, 14, 15] [qo 8 (.mv 0),qo 9 (.call 9 157 [8]),qo 10 (.bin .eql .num 9 (.c (.int .u8 94))),qo 11 (.mv 10),qg 11 12 (.mv 0),
 qg 11 13 (.nilck 12),qg 11 14 (.fa 13 1),qg 11 15 (.load 14 1 false),qg 11 16 (.mv 0),qg 11 17 (.nilck 16),qg 11 18 (.fa 17 0),qg 11 19 (.load 18 1 false),qg 11 20 (.len true 19),qg 11 21 (.bin .lss .num 15 20),qo 22 (.pick 11 21 bF),qo 4 (.mv 22)]) (.cut [0, 2, 3, 4] [(.x 0), (.s 2), (.s 3), (.x 1), (.x 2)] (.seq (.reg [qo 23 (.mv 4)]) (.cond 23 (.reg [qo 24 (.mv 0),qo 25 (.nilck 24),
 qo 26 (.fa 25 1),qo 27 (.load 26 1 false),qo 28 (.bin .add .num 27 (iC 1)),qo 29 (.nilck 24),qo 30 (.fa 29 1),qp (.store 30 28 1)]) .skip)) (.cut [0, 2, 3, 4] [(.x 0), (.s 2), (.s 3), (.x 1), (.x 2)] (.block 0 (.loop (.keep [0, 2, 3, 4] [(.x 0), (.s 2), (.s 3), (.x 1), (.x 2)] (.aft (.seq (.seq (.reg [qo 31 (.mv 0),qo 32 (.call 32 156 [31]),qo 33 (.mv 32),qg 33 34 (.mv 0),
 qg 33 35 (.call 35 157 [34]),qg 33 36 (.bin .neq .num 35 (.c (.int .u8 93))),qo 37 (.pick 33 36 bF)]) (.cond 37 .skip (.exit 0))) (.cut1 [0, 2, 3, 4] [(.x 0), (.s 2), (.s 3), (.x 1), (.x 2)] (.block 1 (.seq (.reg [qo 38 (.mv 0),qo 39 (.call 39 180 [38]),qo 5 (.mv 39)]) (.seq (.reg [qo 40 (.mv 5),qo 6 (.mv 40)]) (.cut [0, 2, 3, 4, 5, 6] [(.x 0), (.s 2), (.s 3), (.x 1), (.x 2)] (.seq
 (.reg [qo 41 (.mv 0),qo 42 (.call 42 156 [41]),qo 43 (.mv 42),qg 43 44 (.mv 0),qg 43 45 (.call 45 157 [44]),qg 43 46 (.bin .eql .num 45 (.c (.int .u8 45))),qo 47 (.pick 43 46 bF)]) (.cond 47 (.seq (.reg [qo 48 (.mv 0),qo 49 (.nilck 48),qo 50 (.fa 49 1),qo 51 (.load 50 1 false),qo 52 (.bin .add .num 51 (iC 1)),qo 53 (.nilck 48),qo 54 (.fa 53 1),qp (.store 54 52 1)])
 (.reg [qo 55 (.mv 0),qo 56 (.call 56 180 [55]),qo 6 (.mv 56)])) .skip)) (.seq (.reg [qo 57 (.mv 0),qo 58 (.mv 0),qo 59 (.nilck 58),qo 60 (.fa 59 13),qo 61 (.load 60 1 false),qo 62 (.mv 61),qf 62 63 (.mv 6),qf 62 64 (.mv 5),qf 62 65 (.bin .lss .num 63 64),qo 66 (.pick 62 bT 65),qo 67 (.nilck 57),qo 68 (.fa 67 13),qp (.store 68 66 1)]) (.seq (.reg [qo 69 (.mv 5),qo 70 (.conv .i64 69),
 qo 7 (.mv 70)]) (.block 2 (.loop (.keep [0, 2, 3, 4, 6, 7] [(.x 0), (.s 2), (.s 3), (.x 1), (.x 2)] (.aft (.seq (.seq (.reg [qo 71 (.mv 7),qo 72 (.mv 6),qo 73 (.conv .i64 72),qo 74 (.bin .leq .num 71 73),qo 75 (.mv 74),qg 75 76 (.mv 0),qg 75 77 (.nilck 76),qg 75 78 (.fa 77 13),qg 75 79 (.load 78 1 false),qg 75 80 (.un .not 79),qo 81 (.pick 75 80 bF)]) (.cond 81 .skip (.exit 2))) (.seq
 (.block 3 (.reg [qo 84 (.mv 7),qo 85 (.conv .u8 84),qo 86 (.call 86 178 [3, 85])])) (.reg [qo 82 (.mv 7),qo 83 (.bin .add .num 82 (iC 1)),qo 7 (.mv 83)]))) [.keep [0, 2, 3, 4, 6, 7] [(.x 0), (.s 2), (.s 3), (.x 1), (.x 2)]])))))))))))) [.keep [0, 2, 3, 4] [(.x 0), (.s 2), (.s 3), (.x 1), (.x 2)]])))) (.seq (.seq (.drw [] (oR 20) [19] (List.range 19) [qo 87 (.mv 0),qo 88 (.mv 0),
 qo 89 (.nilck 88),qo 90 (.fa 89 13),qo 91 (.load 90 1 false),qo 92 (.mv 91),qf 92 93 (.mv 0),qf 92 94 (.nilck 93),qf 92 95 (.fa 94 1),qf 92 96 (.load 95 1 false),qf 92 97 (.mv 0),qf 92 98 (.nilck 97),qf 92 99 (.fa 98 0),qf 92 100 (.load 99 1 false),qf 92 101 (.len true 100),qf 92 102 (.bin .geq .num 96 101),qo 103 (.pick 92 bT 102),qo 104 (.nilck 87),qo 105 (.fa 104 13),
 qp (.store 105 103 1)]) (.seq (.reg [qo 106 (.mv 0),qo 107 (.nilck 106),qo 108 (.fa 107 13),qo 109 (.load 108 1 false)]) (.cond 109 (.seq (.reg [qo 110 (.load 3 4 true),qp (.store 2 110 4)]) .ret) .skip))) (.seq (.reg [qo 111 (.mv 0),qo 112 (.nilck 111),qo 113 (.fa 112 1),qo 114 (.load 113 1 false),qo 115 (.bin .add .num 114 (iC 1)),qo 116 (.nilck 111),qo 117 (.fa 116 1),
 qp (.store 117 115 1)]) (.seq (.seq (.reg [qo 118 (.mv 4)]) (.cond 118 (.reg [qo 119 (.call 119 176 [3])]) .skip)) (.seq (.reg [qo 120 (.mv 0),qo 121 (.load 3 4 true),qo 122 (.build [.int .u64 0, .int .u64 0, .int .u64 0, .int .u64 0] []),qo 123 (.bin .eql (.two 4) 121 122),qo 124 (.nilck 120),qo 125 (.fa 124 13),qp (.store 125 123 1)]) (.seq (.reg [qo 126 (.load 3 4 true),
 qp (.store 2 126 4)]) .ret))))))))))⟩
theorem w177_bytes {O : Oracle TT} (fuel : Nat) (h178_add : C178_add O f178_add) (h156b_more : C156b_more O f156b_more) (h157b_peek : C157b_peek O f157b_peek) (h180_single : C180_single O f180_single) (h176_turn : C176_turn O f176_turn) : C177_bytes (fun _ => vcF (S := SS) O j177_bytes) (f177_bytes fuel) := by
 intro s1 v2 q3 v4 v5 v6 v7 v8 v9 v10 v11 q12 r13 r14 n0 en0 n1 en1 Q R hQ h
 subst en0
 subst en1
 unfold f177_bytes at h
 refine ⟨nle rfl, rfl, ?_⟩
 obtain ⟨R26, h, hlR26, hrR26⟩ := sat_sbind h
 conv => whnf
 refine ⟨fun σ => ∃ (q21 : Bool) (l22 : L4) (l23 : L4) (n24 : Nat) (n25 : Nat), n24 = l22.length ∧ n25 = l23.length ∧ l22.length = r13.length ∧ l23.length = r14.length ∧ R26 (.inr (q21, l22, l23)) ∧ σ = ⟨[(0, .c (.ptr (.x 0) 0 0)), (2, .c (.ptr (.s 2) 0 0)), (3, .c (.ptr (.s 3) 0 0)), (4, .c (.bool q21))], [((.x 0), some (.var [.str s1, .int .i64 v2, .osl (.x 1) 0 n24, .osl (.x 2) 0 n25, .bool q3, .int .u64 v4, .int .u64 v5, .int .u64 v6, .int .u64 v7, .int .u64 v8, .int .u64 v9, .int .u64 v10, .int .u64 v11, .bool q12])), ((.s 2), some (.var [.int .u64 0, .int .u64 0, .int .u64 0, .int .u64 0])), ((.s 3), some (.var [.int .u64 0, .int .u64 0, .int .u64 0, .int .u64 0])), ((.x 1), some (.row false .set4 l22)), ((.x 2), some (.row false .set4 l23))]⟩, ?_, ?_⟩
 conv => whnf
 refine ⟨[(.x 0), (.x 1), (.x 2)], ?_⟩
 conv => whnf
 refine h157b_peek _ _ _ _ _ _ _ _ _ _ _ _ _ _ _ LN _ LN _ _ ?_ (sat_bind h)
 rintro v27 l28 l29 _ rfl _ rfl hkrl28 hkrl29 h
 conv => whnf
 refine kc h (fun h => ?_) fun h => ?_
 conv => whnf
 refine ⟨?_, ?_⟩
 conv => whnf
 exact ⟨false, l28, l29, _, _, LN, LN, LN, LN, sat_some h, rfl⟩
 conv => whnf
 exact ⟨false, l28, l29, _, _, LN, LN, LN, LN, sat_some h, rfl⟩
 conv => whnf
 refine ⟨?_, ?_⟩
 conv => whnf
 refine kc h (fun h => ?_) fun h => ?_
 conv => whnf
 exact ⟨false, l28, l29, _, _, LN, LN, LN, LN, sat_some h, rfl⟩
 conv => whnf
 exact ⟨true, l28, l29, _, _, LN, LN, LN, LN, sat_some h, rfl⟩
 conv => whnf
 refine kc h (fun h => ?_) fun h => ?_
 conv => whnf
 exact ⟨false, l28, l29, _, _, LN, LN, LN, LN, sat_some h, rfl⟩
 conv => whnf
 exact ⟨true, l28, l29, _, _, LN, LN, LN, LN, sat_some h, rfl⟩
 rintro _ ⟨q21, l22, l23, _, _, rfl, rfl, hkll22, hkll23, h, rfl⟩
 replace h := hrR26 _ h
 obtain ⟨R35, h, hlR35, hrR35⟩ := sat_sbind h
 conv => whnf
 refine ⟨fun σ => ∃ (q33 : Bool) (v34 : Int), R35 (.inr (q33, v34)) ∧ σ = ⟨[(0, .c (.ptr (.x 0) 0 0)), (2, .c (.ptr (.s 2) 0 0)), (3, .c (.ptr (.s 3) 0 0)), (4, .c (.bool q33))], [((.x 0), some (.var [.str s1, .int .i64 v34, .osl (.x 1) 0 l22.length, .osl (.x 2) 0 l23.length, .bool q3, .int .u64 v4, .int .u64 v5, .int .u64 v6, .int .u64 v7, .int .u64 v8, .int .u64 v9, .int .u64 v10, .int .u64 v11, .bool q12])), ((.s 2), some (.var [.int .u64 0, .int .u64 0, .int .u64 0, .int .u64 0])), ((.s 3), some (.var [.int .u64 0, .int .u64 0, .int .u64 0, .int .u64 0])), ((.x 1), some (.row false .set4 l22)), ((.x 2), some (.row false .set4 l23))]⟩, ?_, ?_⟩
 cases q21
 replace h := sat_cf h
 conv => whnf
 exact ⟨false, v2, sat_some h, rfl⟩
 replace h := sat_ct h
 conv => whnf
 exact ⟨true, (wrap .i64 (v2 + 1)), sat_some h, rfl⟩
 rintro _ ⟨q33, v34, h, rfl⟩
 replace h := hrR35 _ h
 obtain ⟨R466, h, hlR466, hrR466⟩ := sat_sbind h
 conv => whnf
 refine ⟨fun σ => ∃ (v456 : Int) (q457 : Bool) (v458 : Int) (v459 : Int) (v460 : Int) (v461 : Int) (l462 : L4) (l463 : L4) (n464 : Nat) (n465 : Nat), n464 = l462.length ∧ n465 = l463.length ∧ l462.length = r13.length ∧ l463.length = r14.length ∧ R466 (.inr (v456, q457, v458, v459, v460, v461, l462, l463)) ∧ σ = ⟨[(0, .c (.ptr (.x 0) 0 0)), (2, .c (.ptr (.s 2) 0 0)), (3, .c (.ptr (.s 3) 0 0)), (4, .c (.bool q33))], [((.x 0), some (.var [.str s1, .int .i64 v456, .osl (.x 1) 0 n464, .osl (.x 2) 0 n465, .bool q3, .int .u64 v4, .int .u64 v5, .int .u64 v6, .int .u64 v7, .int .u64 v8, .int .u64 v9, .int .u64 v10, .int .u64 v11, .bool q457])), ((.s 2), some (.var [.int .u64 0, .int .u64 0, .int .u64 0, .int .u64 0])), ((.s 3), some (.var [.int .u64 v458, .int .u64 v459, .int .u64 v460, .int .u64 v461])), ((.x 1), some (.row false .set4 l462)), ((.x 2), some (.row false .set4 l463))]⟩, ?_, ?_⟩
 conv => whnf
 refine ⟨fun σ n => ∃ (f677 : Nat) (l678 : L4) (l679 : L4) (v680 : Int) (q681 : Bool) (v682 : Int) (v683 : Int) (v684 : Int) (v685 : Int) (n686 : Nat) (n687 : Nat), f677 = n ∧ n686 = l678.length ∧ n687 = l679.length ∧ l678.length = r13.length ∧ l679.length = r14.length ∧ sat (f177_bytes_L20 fuel s1 q3 v4 v5 v6 v7 v8 v9 v10 v11 f677 l678 l679 v680 q681 v682 v683 v684 v685) R466 ∧ σ.keep [0, 2, 3, 4] [(.x 0), (.s 2), (.s 3), (.x 1), (.x 2)] = ⟨[(0, .c (.ptr (.x 0) 0 0)), (2, .c (.ptr (.s 2) 0 0)), (3, .c (.ptr (.s 3) 0 0)), (4, .c (.bool q33))], [((.x 0), some (.var [.str s1, .int .i64 v680, .osl (.x 1) 0 n686, .osl (.x 2) 0 n687, .bool q3, .int .u64 v4, .int .u64 v5, .int .u64 v6, .int .u64 v7, .int .u64 v8, .int .u64 v9, .int .u64 v10, .int .u64 v11, .bool q681])), ((.s 2), some (.var [.int .u64 0, .int .u64 0, .int .u64 0, .int .u64 0])), ((.s 3), some (.var [.int .u64 v682, .int .u64 v683, .int .u64 v684, .int .u64 v685])), ((.x 1), some (.row false .set4 l678)), ((.x 2), some (.row false .set4 l679))]⟩, ⟨_, _, l22, l23, v34, q12, (0 : Int), (0 : Int), (0 : Int), (0 : Int), _, _, rfl, LN, LN, LN, LN, h, rfl⟩, ?_⟩
 rintro σ n ⟨f677, l678, l679, v680, q681, v682, v683, v684, v685, _, _, rfl, rfl, rfl, hkll678, hkll679, h, hσ⟩
 refine kk hσ ?_
 rcases f677 with _ | g676
 rw [f177_bytes_L20] at h; exact nn h
 rw [f177_bytes_L20] at h
 conv => whnf
 refine ⟨[(.x 0), (.x 1), (.x 2)], ?_⟩
 conv => whnf
 refine h156b_more _ _ _ _ _ _ _ _ _ _ _ _ _ _ _ LN _ LN _ _ ?_ (sat_bind h)
 rintro q688 l689 l690 q691 _ rfl _ rfl hkrl689 hkrl690 h
 cases q688
 replace h := sat_cf h
 conv => whnf
 exact ⟨v680, q691, v682, v683, v684, v685, l689, l690, _, _, LN, LN, LN, LN, sat_some h, rfl⟩
 replace h := sat_ct h
 conv => whnf
 refine ⟨[(.x 0), (.x 1), (.x 2)], ?_⟩
 conv => whnf
 refine h157b_peek _ _ _ _ _ _ _ _ _ _ _ _ _ _ _ LN _ LN _ _ ?_ (sat_bind h)
 rintro v692 l693 l694 _ rfl _ rfl hkrl693 hkrl694 h
 conv => whnf
 refine kc h (fun h => ?_) fun h => ?_
 conv => whnf
 exact ⟨v680, q691, v682, v683, v684, v685, l693, l694, _, _, LN, LN, LN, LN, sat_some h, rfl⟩
 obtain ⟨R796, h, hlR796, hrR796⟩ := sat_sbind h
 conv => whnf
 refine ⟨fun σ => ∃ (v786 : Int) (q787 : Bool) (v788 : Int) (v789 : Int) (v790 : Int) (v791 : Int) (l792 : L4) (l793 : L4) (n794 : Nat) (n795 : Nat), n794 = l792.length ∧ n795 = l793.length ∧ l792.length = r13.length ∧ l793.length = r14.length ∧ R796 (.inr (v786, q787, v788, v789, v790, v791, l792, l793)) ∧ σ = ⟨[(0, .c (.ptr (.x 0) 0 0)), (2, .c (.ptr (.s 2) 0 0)), (3, .c (.ptr (.s 3) 0 0)), (4, .c (.bool q33))], [((.x 0), some (.var [.str s1, .int .i64 v786, .osl (.x 1) 0 n794, .osl (.x 2) 0 n795, .bool q3, .int .u64 v4, .int .u64 v5, .int .u64 v6, .int .u64 v7, .int .u64 v8, .int .u64 v9, .int .u64 v10, .int .u64 v11, .bool q787])), ((.s 2), some (.var [.int .u64 0, .int .u64 0, .int .u64 0, .int .u64 0])), ((.s 3), some (.var [.int .u64 v788, .int .u64 v789, .int .u64 v790, .int .u64 v791])), ((.x 1), some (.row false .set4 l792)), ((.x 2), some (.row false .set4 l793))]⟩, ?_, ?_⟩
 conv => whnf
 refine ⟨[(.x 0), (.x 1), (.x 2)], ?_⟩
 conv => whnf
 refine h180_single _ _ _ _ _ _ _ _ _ _ _ _ _ _ _ LN _ LN _ _ ?_ (sat_bind h)
 rintro v797 v798 l799 l800 q801 _ rfl _ rfl hkrl799 hkrl800 h
 obtain ⟨R822, h, hlR822, hrR822⟩ := sat_sbind h
 conv => whnf
 refine ⟨fun σ => ∃ (v815 : Int) (v816 : Int) (q817 : Bool) (l818 : L4) (l819 : L4) (n820 : Nat) (n821 : Nat), n820 = l818.length ∧ n821 = l819.length ∧ l818.length = r13.length ∧ l819.length = r14.length ∧ R822 (.inr (v815, v816, q817, l818, l819)) ∧ σ = ⟨[(0, .c (.ptr (.x 0) 0 0)), (2, .c (.ptr (.s 2) 0 0)), (3, .c (.ptr (.s 3) 0 0)), (4, .c (.bool q33)), (5, .c (.int .u8 v797)), (6, .c (.int .u8 v815))], [((.x 0), some (.var [.str s1, .int .i64 v816, .osl (.x 1) 0 n820, .osl (.x 2) 0 n821, .bool q3, .int .u64 v4, .int .u64 v5, .int .u64 v6, .int .u64 v7, .int .u64 v8, .int .u64 v9, .int .u64 v10, .int .u64 v11, .bool q817])), ((.s 2), some (.var [.int .u64 0, .int .u64 0, .int .u64 0, .int .u64 0])), ((.s 3), some (.var [.int .u64 v682, .int .u64 v683, .int .u64 v684, .int .u64 v685])), ((.x 1), some (.row false .set4 l818)), ((.x 2), some (.row false .set4 l819))]⟩, ?_, ?_⟩
 conv => whnf
 refine ⟨[(.x 0), (.x 1), (.x 2)], ?_⟩
 conv => whnf
 refine h156b_more _ _ _ _ _ _ _ _ _ _ _ _ _ _ _ LN _ LN _ _ ?_ (sat_bind h)
 rintro q823 l824 l825 q826 _ rfl _ rfl hkrl824 hkrl825 h
 cases q823
 replace h := sat_cf h
 conv => whnf
 exact ⟨v797, v798, q826, l824, l825, _, _, LN, LN, LN, LN, sat_some h, rfl⟩
 replace h := sat_ct h
 conv => whnf
 refine ⟨[(.x 0), (.x 1), (.x 2)], ?_⟩
 conv => whnf
 refine h157b_peek _ _ _ _ _ _ _ _ _ _ _ _ _ _ _ LN _ LN _ _ ?_ (sat_bind h)
 rintro v827 l828 l829 _ rfl _ rfl hkrl828 hkrl829 h
 conv => whnf
 refine kc h (fun h => ?_) fun h => ?_
 conv => whnf
 exact ⟨v797, v798, q826, l828, l829, _, _, LN, LN, LN, LN, sat_some h, rfl⟩
 conv => whnf
 refine ⟨[(.x 0), (.x 1), (.x 2)], ?_⟩
 conv => whnf
 refine h180_single _ _ _ _ _ _ _ _ _ _ _ _ _ _ _ LN _ LN _ _ ?_ (sat_bind h)
 rintro v831 v832 l833 l834 q835 _ rfl _ rfl hkrl833 hkrl834 h
 conv => whnf
 exact ⟨v831, v832, q835, l833, l834, _, _, LN, LN, LN, LN, sat_some h, rfl⟩
 rintro _ ⟨v815, v816, q817, l818, l819, _, _, rfl, rfl, hkll818, hkll819, h, rfl⟩
 replace h := hrR822 _ h
 cases q817
 replace h := sat_cf h
 conv => whnf
 refine kc h (fun h => ?_) fun h => ?_
 conv => whnf
 refine ⟨fun σ n => ∃ (f848 : Nat) (v849 : Int) (v850 : Int) (v851 : Int) (v852 : Int) (v853 : Int), f848 = n ∧ sat (f177_bytes_L24 v815 v816 l818 l819 f848 v849 v850 v851 v852 v853) R796 ∧ σ.keep [0, 2, 3, 4, 6, 7] [(.x 0), (.s 2), (.s 3), (.x 1), (.x 2)] = ⟨[(0, .c (.ptr (.x 0) 0 0)), (2, .c (.ptr (.s 2) 0 0)), (3, .c (.ptr (.s 3) 0 0)), (4, .c (.bool q33)), (6, .c (.int .u8 v815)), (7, .c (.int .i64 v849))], [((.x 0), some (.var [.str s1, .int .i64 v816, .osl (.x 1) 0 l818.length, .osl (.x 2) 0 l819.length, .bool q3, .int .u64 v4, .int .u64 v5, .int .u64 v6, .int .u64 v7, .int .u64 v8, .int .u64 v9, .int .u64 v10, .int .u64 v11, .bool false])), ((.s 2), some (.var [.int .u64 0, .int .u64 0, .int .u64 0, .int .u64 0])), ((.s 3), some (.var [.int .u64 v850, .int .u64 v851, .int .u64 v852, .int .u64 v853])), ((.x 1), some (.row false .set4 l818)), ((.x 2), some (.row false .set4 l819))]⟩, ⟨_, _, (wrap .i64 v797), v682, v683, v684, v685, rfl, h, rfl⟩, ?_⟩
 rintro σ n ⟨f848, v849, v850, v851, v852, v853, rfl, h, hσ⟩
 refine kk hσ ?_
 rcases f848 with _ | g847
 rw [f177_bytes_L24] at h; exact nn h
 rw [f177_bytes_L24] at h
 conv => whnf
 refine kc h (fun h => ?_) fun h => ?_
 conv => whnf
 exact ⟨v816, false, v850, v851, v852, v853, l818, l819, _, _, LN, LN, LN, LN, sat_some h, rfl⟩
 conv => whnf
 refine ⟨[(.s 3)], ?_⟩
 conv => whnf
 refine h178_add _ _ _ _ _ _ _ ?_ (sat_bind h)
 rintro v855 v856 v857 v858 h
 conv => whnf
 exact ⟨g847, nls, g847, (wrap .i64 (v849 + 1)), v855, v856, v857, v858, rfl, h, rfl⟩
 conv => whnf
 refine ⟨fun σ n => ∃ (f866 : Nat) (v867 : Int) (v868 : Int) (v869 : Int) (v870 : Int) (v871 : Int), f866 = n ∧ sat (f177_bytes_L25 v815 v816 l818 l819 f866 v867 v868 v869 v870 v871) R796 ∧ σ.keep [0, 2, 3, 4, 6, 7] [(.x 0), (.s 2), (.s 3), (.x 1), (.x 2)] = ⟨[(0, .c (.ptr (.x 0) 0 0)), (2, .c (.ptr (.s 2) 0 0)), (3, .c (.ptr (.s 3) 0 0)), (4, .c (.bool q33)), (6, .c (.int .u8 v815)), (7, .c (.int .i64 v867))], [((.x 0), some (.var [.str s1, .int .i64 v816, .osl (.x 1) 0 l818.length, .osl (.x 2) 0 l819.length, .bool q3, .int .u64 v4, .int .u64 v5, .int .u64 v6, .int .u64 v7, .int .u64 v8, .int .u64 v9, .int .u64 v10, .int .u64 v11, .bool true])), ((.s 2), some (.var [.int .u64 0, .int .u64 0, .int .u64 0, .int .u64 0])), ((.s 3), some (.var [.int .u64 v868, .int .u64 v869, .int .u64 v870, .int .u64 v871])), ((.x 1), some (.row false .set4 l818)), ((.x 2), some (.row false .set4 l819))]⟩, ⟨_, _, (wrap .i64 v797), v682, v683, v684, v685, rfl, h, rfl⟩, ?_⟩
 rintro σ n ⟨f866, v867, v868, v869, v870, v871, rfl, h, hσ⟩
 refine kk hσ ?_
 rcases f866 with _ | g865
 rw [f177_bytes_L25] at h; exact nn h
 rw [f177_bytes_L25] at h
 conv => whnf
 refine kc h (fun h => ?_) fun h => ?_
 conv => whnf
 exact ⟨v816, true, v868, v869, v870, v871, l818, l819, _, _, LN, LN, LN, LN, sat_some h, rfl⟩
 conv => whnf
 exact ⟨v816, true, v868, v869, v870, v871, l818, l819, _, _, LN, LN, LN, LN, sat_some h, rfl⟩
 replace h := sat_ct h
 conv => whnf
 refine ⟨fun σ n => ∃ (f880 : Nat) (v881 : Int) (v882 : Int) (v883 : Int) (v884 : Int) (v885 : Int), f880 = n ∧ sat (f177_bytes_L26 v815 v816 l818 l819 f880 v881 v882 v883 v884 v885) R796 ∧ σ.keep [0, 2, 3, 4, 6, 7] [(.x 0), (.s 2), (.s 3), (.x 1), (.x 2)] = ⟨[(0, .c (.ptr (.x 0) 0 0)), (2, .c (.ptr (.s 2) 0 0)), (3, .c (.ptr (.s 3) 0 0)), (4, .c (.bool q33)), (6, .c (.int .u8 v815)), (7, .c (.int .i64 v881))], [((.x 0), some (.var [.str s1, .int .i64 v816, .osl (.x 1) 0 l818.length, .osl (.x 2) 0 l819.length, .bool q3, .int .u64 v4, .int .u64 v5, .int .u64 v6, .int .u64 v7, .int .u64 v8, .int .u64 v9, .int .u64 v10, .int .u64 v11, .bool true])), ((.s 2), some (.var [.int .u64 0, .int .u64 0, .int .u64 0, .int .u64 0])), ((.s 3), some (.var [.int .u64 v882, .int .u64 v883, .int .u64 v884, .int .u64 v885])), ((.x 1), some (.row false .set4 l818)), ((.x 2), some (.row false .set4 l819))]⟩, ⟨_, _, (wrap .i64 v797), v682, v683, v684, v685, rfl, h, rfl⟩, ?_⟩
 rintro σ n ⟨f880, v881, v882, v883, v884, v885, rfl, h, hσ⟩
 refine kk hσ ?_
 rcases f880 with _ | g879
 rw [f177_bytes_L26] at h; exact nn h
 rw [f177_bytes_L26] at h
 conv => whnf
 refine kc h (fun h => ?_) fun h => ?_
 conv => whnf
 exact ⟨v816, true, v882, v883, v884, v885, l818, l819, _, _, LN, LN, LN, LN, sat_some h, rfl⟩
 conv => whnf
 exact ⟨v816, true, v882, v883, v884, v885, l818, l819, _, _, LN, LN, LN, LN, sat_some h, rfl⟩
 rintro _ ⟨v786, q787, v788, v789, v790, v791, l792, l793, _, _, rfl, rfl, hkll792, hkll793, h, rfl⟩
 replace h := hrR796 _ h
 conv => whnf
 exact ⟨g676, nls, g676, l792, l793, v786, q787, v788, v789, v790, v791, _, _, rfl, LN, LN, LN, LN, h, rfl⟩
 rintro _ ⟨v456, q457, v458, v459, v460, v461, l462, l463, _, _, rfl, rfl, hkll462, hkll463, h, rfl⟩
 replace h := hrR466 _ h
 cases q457
 replace h := sat_cf h
 conv => whnf
 refine kc h (fun h => ?_) fun h => ?_
 cases q33
 replace h := sat_cf h
 conv => whnf
 refine kc h (fun h => ?_) fun h => ?_
 conv => whnf
 exact ⟨[], ND 3, hQ _ _ _ _ _ _ _ _ _ LN _ LN LN LN (sat_some h)⟩
 conv => whnf
 exact ⟨[], ND 3, hQ _ _ _ _ _ _ _ _ _ LN _ LN LN LN (sat_some h)⟩
 replace h := sat_ct h
 conv => whnf
 refine ⟨[(.s 3)], ?_⟩
 conv => whnf
 refine h176_turn _ _ _ _ _ _ ?_ (sat_bind h)
 rintro v889 v890 v891 v892 h
 conv => whnf
 refine kc h (fun h => ?_) fun h => ?_
 conv => whnf
 exact ⟨[], ND 3, hQ _ _ _ _ _ _ _ _ _ LN _ LN LN LN (sat_some h)⟩
 conv => whnf
 exact ⟨[], ND 3, hQ _ _ _ _ _ _ _ _ _ LN _ LN LN LN (sat_some h)⟩
 conv => whnf
 exact ⟨[], ND 3, hQ _ _ _ _ _ _ _ _ _ LN _ LN LN LN (sat_some h)⟩
 replace h := sat_ct h
 conv => whnf
 exact ⟨[], ND 3, hQ _ _ _ _ _ _ _ _ _ LN _ LN LN LN (sat_some h)⟩
theorem c177_bytes {P : Program} {fid : Nat → FuncId} (mx : MX P) (k177_bytes : KF P fid 177 j177_bytes) (h178_add : C178_add (SP P fid) f178_add) (h156b_more : C156b_more (SP P fid) f156b_more) (h157b_peek : C157b_peek (SP P fid) f157b_peek) (h180_single : C180_single (SP P fid) f180_single) (h176_turn : C176_turn (SP P fid) f176_turn) : ∀ n, C177_bytes (SP P fid) (f177_bytes n) :=
 fun n => fun a0 a1 a2 a3 a4 a5 a6 a7 a8 a9 a10 a11 a12 a13 n0 e0 n1 e1 Q R hQ h => spec_of_vc mx k177_bytes (w177_bytes n h178_add h156b_more h157b_peek h180_single h176_turn a0 a1 a2 a3 a4 a5 a6 a7 a8 a9 a10 a11 a12 a13 n0 e0 n1 e1 Q R hQ h)
def f140_has : Int → Int → Int → Int → Int → Option (Bool)
  | v1, v2, v3, v4, v5 => caseI (wrap .i64 (Int.tdiv v1 64)) [grdP (0 ≤ (Int.tmod v1 64)) (cond ((bAnd .u64 (bShr .u64 v2 (Int.tmod v1 64)) 1) == 1) (some true) (some false)), grdP (0 ≤ (Int.tmod v1 64)) (cond ((bAnd .u64 (bShr .u64 v3 (Int.tmod v1 64)) 1) == 1) (some true) (some false)), grdP (0 ≤ (Int.tmod v1 64)) (cond ((bAnd .u64 (bShr .u64 v4 (Int.tmod v1 64)) 1) == 1) (some true) (some false)), grdP (0 ≤ (Int.tmod v1 64)) (cond ((bAnd .u64 (bShr .u64 v5 (Int.tmod v1 64)) 1) == 1) (some true) (some false))]
def C140_has (O : Oracle TT) (m : Int → Int → Int → Int → Int → Option (Bool)) : Prop :=
  ∀ (v1 : Int) (v2 : Int) (v3 : Int) (v4 : Int) (v5 : Int) (Q : Bool → Prop) (R : RR) (_ : ∀ (q15 : Bool), Q q15 → R (.c (.bool q15)) [(.x 0, some (.var [.int .u64 v2, .int .u64 v3, .int .u64 v4, .int .u64 v5]))]) (_ : sat (m v1 v2 v3 v4 v5) Q), O 140 [.c (.ptr (.x 0) 0 0), .c (.int .i64 v1)] [((.x 0), some (.var [.int .u64 v2, .int .u64 v3, .int .u64 v4, .int .u64 v5]))] R
def j140_has : Fn TT := ⟨16, [.t 4], (.seq (.reg [qo 4 (.mv bF)]) (.seq (.reg [qo 5 (.mv 0),qo 6 (.mv 1),qo 7 (.bin .quo .num 6 (iC 64)),qo 8 (.nilck 5),qo 9 (.idxC 8 7 1 4),qo 10 (.load 9 1 false),qo 11 (.mv 1),qo 12 (.bin .rem .num 11 (iC 64)),qo 13 (.bin .shr .num 10 12),qo 14 (.bin .and .num 13 (.c (.int .u64 1))),qo 15 (.bin .eql .num 14 (.c (.int .u64 1))),qo 4 (.mv 15)]) .ret))⟩
theorem w140_has {O : Oracle TT} : C140_has (fun _ => vcF (S := SS) O j140_has) f140_has := by
 intro v1 v2 v3 v4 v5 Q R hQ h
 unfold f140_has at h
 refine ⟨nle rfl, rfl, ?_⟩
 conv => whnf
 refine ⟨by decide, ?_⟩
 conv => whnf
 obtain ⟨hbj6, h⟩ := sat_caseI h
 refine ⟨hbj6, fun j6 hj6 => ?_⟩
 replace h := h j6 hj6
 replace hbj6 : (0 : Int) ≤ (wrap .i64 (Int.tdiv v1 64)) ∧ (wrap .i64 (Int.tdiv v1 64)) < 4 := hbj6
 have hcj6 : j6 = 0 ∨ j6 = 1 ∨ j6 = 2 ∨ j6 = 3 := by omega
 rcases hcj6 with rfl | rfl | rfl | rfl
 replace h := sat_j0 h
 conv => whnf
 refine ⟨by decide, ?_⟩
 conv => whnf
 refine kp h fun hb8 h => ?_
 conv => whnf
 refine kc h (fun h => ?_) fun h => ?_
 conv => whnf
 exact ⟨[], ND 1, hQ _ (sat_some h)⟩
 conv => whnf
 exact ⟨[], ND 1, hQ _ (sat_some h)⟩
 replace h := sat_j1 h
 conv => whnf
 refine ⟨by decide, ?_⟩
 conv => whnf
 refine kp h fun hb10 h => ?_
 conv => whnf
 refine kc h (fun h => ?_) fun h => ?_
 conv => whnf
 exact ⟨[], ND 1, hQ _ (sat_some h)⟩
 conv => whnf
 exact ⟨[], ND 1, hQ _ (sat_some h)⟩
 replace h := sat_j2 h
 conv => whnf
 refine ⟨by decide, ?_⟩
 conv => whnf
 refine kp h fun hb12 h => ?_
 conv => whnf
 refine kc h (fun h => ?_) fun h => ?_
 conv => whnf
 exact ⟨[], ND 1, hQ _ (sat_some h)⟩
 conv => whnf
 exact ⟨[], ND 1, hQ _ (sat_some h)⟩
 replace h := sat_j3 h
 conv => whnf
 refine ⟨by decide, ?_⟩
 conv => whnf
 refine kp h fun hb14 h => ?_
 conv => whnf
 refine kc h (fun h => ?_) fun h => ?_
 conv => whnf
 exact ⟨[], ND 1, hQ _ (sat_some h)⟩
 conv => whnf
 exact ⟨[], ND 1, hQ _ (sat_some h)⟩
theorem c140_has {P : Program} {fid : Nat → FuncId} (mx : MX P) (k140_has : KF P fid 140 j140_has) : C140_has (SP P fid) f140_has :=
 fun a0 a1 a2 a3 a4 Q R hQ h => spec_of_vc mx k140_has (w140_has a0 a1 a2 a3 a4 Q R hQ h)
def f141_join_L1 (e1 : Nat) (w2 : Int) (w3 : Int) (w4 : Int) (w5 : Int) : Nat → Int → L4 → Option (L4)
  | 0, v61, l65 => some l65
  | g63 + 1, v61, l65 => caseI v61 [getN l65 e1 fun uu72 => match uu72 with | (w68, w69, w70, w71) => getN l65 e1 fun uu79 => match uu79 with | (w75, w76, w77, w78) => f141_join_L1 e1 w2 w3 w4 w5 g63 (v61 + 1) (l65.set e1 ((bOr .u64 w68 w2), w76, w77, w78)), getN l65 e1 fun uu84 => match uu84 with | (w80, w81, w82, w83) => getN l65 e1 fun uu91 => match uu91 with | (w87, w88, w89, w90) => f141_join_L1 e1 w2 w3 w4 w5 g63 (v61 + 1) (l65.set e1 (w87, (bOr .u64 w81 w3), w89, w90)), getN l65 e1 fun uu96 => match uu96 with | (w92, w93, w94, w95) => getN l65 e1 fun uu103 => match uu103 with | (w99, w100, w101, w102) => f141_join_L1 e1 w2 w3 w4 w5 g63 (v61 + 1) (l65.set e1 (w99, w100, (bOr .u64 w94 w4), w102)), getN l65 e1 fun uu108 => match uu108 with | (w104, w105, w106, w107) => getN l65 e1 fun uu115 => match uu115 with | (w111, w112, w113, w114) => f141_join_L1 e1 w2 w3 w4 w5 g63 (v61 + 1) (l65.set e1 (w111, w112, w113, (bOr .u64 w107 w5)))]
def f141_join : Nat → N4 → L4 → Option (L4)
  | e1, (w2, w3, w4, w5), r6 => grdP ((4 : Int) ≤ 9223372036854775807) (f141_join_L1 e1 w2 w3 w4 w5 ((4 : Int) - 0).toNat 0 r6)
def C141_join (O : Oracle TT) (m : Nat → N4 → L4 → Option (L4)) : Prop :=
  ∀ (e1 : Nat) (w2 : Int) (w3 : Int) (w4 : Int) (w5 : Int) (r6 : L4) (Q : L4 → Prop) (R : RR) (_ : ∀ (l116 : L4) (_ : l116.length = r6.length), Q l116 → R (.tup []) [(.x 0, some (.row false .set4 l116))]) (_ : sat (m e1 (w2, w3, w4, w5) r6) Q), O 141 [.c (.ptr (.x 0) e1 0), .agg [.int .u64 w2, .int .u64 w3, .int .u64 w4, .int .u64 w5]] [((.x 0), some (.row false .set4 r6))] R
def j141_join : Fn TT := ⟨20, [], (.seq (.reg [qo 3 (.box 3 1)]) (.seq (.reg [qo 5 (.mv (iC 0))]) (.block 0 (.loop (.keep [0, 3, 5] [(.x 0), (.s 3)] (.aft (.seq (.reg [qo 6 (.bin .lss .num 5 (iC 4))]) (.seq (.cond 6 .skip (.exit 0)) (.seq (.block 1 (.seq (.reg [qo 7 (.mv 5),qo 4 (.mv 7)]) (.drw [] (oR 12) [11] (List.range 11) [qo 8 (.mv 0),qo 9 (.mv 4),qo 10 (.nilck 8),qo 11 (.idxC 10 9 1 4),
 qo 12 (.load 11 1 false),qo 13 (.mv 4),qo 14 (.idxC 3 13 1 4),qo 15 (.load 14 1 false),qo 16 (.bin .or .num 12 15),qo 17 (.nilck 8),qo 18 (.idxC 17 9 1 4),qp (.store 18 16 1)]))) (.reg [qo 19 (.bin .add .num 5 (iC 1)),qo 5 (.mv 19)])))) [.keep [0, 3, 5] [(.x 0), (.s 3)]]))))))⟩
theorem w141_join {O : Oracle TT} : C141_join (fun _ => vcF (S := SS) O j141_join) f141_join := by
 intro e1 w2 w3 w4 w5 r6 Q R hQ h
 unfold f141_join at h
 refine ⟨nle rfl, rfl, ?_⟩
 obtain ⟨hN64, h⟩ := sat_grdP h
 conv => whnf
 refine ⟨fun σ n => ∃ (f62 : Nat) (v61 : Int) (z : Int) (l65 : L4), f62 = n ∧ f62 = (4 - v61).toNat ∧ 0 ≤ v61 ∧ v61 = z ∧ l65.length = r6.length ∧ sat (f141_join_L1 e1 w2 w3 w4 w5 f62 v61 l65) Q ∧ σ.keep [0, 3, 5] [(.x 0), (.s 3)] = ⟨[(0, .c (.ptr (.x 0) e1 0)), (3, .c (.ptr (.s 3) 0 0)), (5, .c (.int .i64 z))], [((.x 0), some (.row false .set4 l65)), ((.s 3), some (.var [.int .u64 w2, .int .u64 w3, .int .u64 w4, .int .u64 w5]))]⟩, ⟨_, _, 0, _, r6, rfl, rfl, (by decide), rfl, LN, h, rfl⟩, ?_⟩
 rintro σ n ⟨f62, v61, _, l65, rfl, hf62, hpf62, rfl, hkll65, h, hσ⟩
 refine kk hσ ?_
 conv => whnf
 intro t66 (ht66 : t66 = decide (v61 < 4))
 cases t66
 obtain rfl := il_nil hf62 ht66
 rw [f141_join_L1] at h
 conv => whnf
 exact ⟨[], ND 1, hQ _ LN (sat_some h)⟩
 obtain ⟨g63, rfl, hwg63, hpg63, hfg63⟩ := il_cons hf62 hpf62 ht66 hN64
 rw [f141_join_L1] at h
 conv => whnf
 obtain ⟨hbj67, h⟩ := sat_caseI h
 refine ⟨hbj67, fun j67 hj67 => ?_⟩
 replace h := h j67 hj67
 replace hbj67 : (0 : Int) ≤ v61 ∧ v61 < 4 := hbj67
 have hcj67 : j67 = 0 ∨ j67 = 1 ∨ j67 = 2 ∨ j67 = 3 := by omega
 rcases hcj67 with rfl | rfl | rfl | rfl
 replace h := sat_j0 h
 conv => whnf
 refine kg (sat_getN h) fun uu72 huu72 h => ?_
 obtain ⟨w68, w69, w70, w71⟩ := uu72
 conv => whnf
 refine ⟨⟨by omega, by omega⟩, fun j73 hj73 => ?_⟩
 obtain rfl : j73 = 0 := by omega
 conv => whnf
 refine ⟨⟨by omega, by omega⟩, fun j74 hj74 => ?_⟩
 obtain rfl : j74 = 0 := by omega
 conv => whnf
 refine kg (sat_getN h) fun uu79 huu79 h => ?_
 obtain ⟨w75, w76, w77, w78⟩ := uu79
 refine ⟨((bOr .u64 w68 w2), w76, w77, w78), rfl, ?_⟩
 conv => whnf
 exact ⟨g63, nls, g63, v61 + 1, _, (l65.set e1 ((bOr .u64 w68 w2), w76, w77, w78)), rfl, hfg63, hpg63, hwg63.symm, LN, h, rfl⟩
 replace h := sat_j1 h
 conv => whnf
 refine kg (sat_getN h) fun uu84 huu84 h => ?_
 obtain ⟨w80, w81, w82, w83⟩ := uu84
 conv => whnf
 refine ⟨⟨by omega, by omega⟩, fun j85 hj85 => ?_⟩
 obtain rfl : j85 = 1 := by omega
 conv => whnf
 refine ⟨⟨by omega, by omega⟩, fun j86 hj86 => ?_⟩
 obtain rfl : j86 = 1 := by omega
 conv => whnf
 refine kg (sat_getN h) fun uu91 huu91 h => ?_
 obtain ⟨w87, w88, w89, w90⟩ := uu91
 refine ⟨(w87, (bOr .u64 w81 w3), w89, w90), rfl, ?_⟩
 conv => whnf
 exact ⟨g63, nls, g63, v61 + 1, _, (l65.set e1 (w87, (bOr .u64 w81 w3), w89, w90)), rfl, hfg63, hpg63, hwg63.symm, LN, h, rfl⟩
 replace h := sat_j2 h
 conv => whnf
 refine kg (sat_getN h) fun uu96 huu96 h => ?_
 obtain ⟨w92, w93, w94, w95⟩ := uu96
 conv => whnf
 refine ⟨⟨by omega, by omega⟩, fun j97 hj97 => ?_⟩
 obtain rfl : j97 = 2 := by omega
 conv => whnf
 refine ⟨⟨by omega, by omega⟩, fun j98 hj98 => ?_⟩
 obtain rfl : j98 = 2 := by omega
 conv => whnf
 refine kg (sat_getN h) fun uu103 huu103 h => ?_
 obtain ⟨w99, w100, w101, w102⟩ := uu103
 refine ⟨(w99, w100, (bOr .u64 w94 w4), w102), rfl, ?_⟩
 conv => whnf
 exact ⟨g63, nls, g63, v61 + 1, _, (l65.set e1 (w99, w100, (bOr .u64 w94 w4), w102)), rfl, hfg63, hpg63, hwg63.symm, LN, h, rfl⟩
 replace h := sat_j3 h
 conv => whnf
 refine kg (sat_getN h) fun uu108 huu108 h => ?_
 obtain ⟨w104, w105, w106, w107⟩ := uu108
 conv => whnf
 refine ⟨⟨by omega, by omega⟩, fun j109 hj109 => ?_⟩
 obtain rfl : j109 = 3 := by omega
 conv => whnf
 refine ⟨⟨by omega, by omega⟩, fun j110 hj110 => ?_⟩
 obtain rfl : j110 = 3 := by omega
 conv => whnf
 refine kg (sat_getN h) fun uu115 huu115 h => ?_
 obtain ⟨w111, w112, w113, w114⟩ := uu115
 refine ⟨(w111, w112, w113, (bOr .u64 w107 w5)), rfl, ?_⟩
 conv => whnf
 exact ⟨g63, nls, g63, v61 + 1, _, (l65.set e1 (w111, w112, w113, (bOr .u64 w107 w5))), rfl, hfg63, hpg63, hwg63.symm, LN, h, rfl⟩
theorem c141_join {P : Program} {fid : Nat → FuncId} (mx : MX P) (k141_join : KF P fid 141 j141_join) : C141_join (SP P fid) f141_join :=
 fun a0 a1 a2 a3 a4 a5 Q R hQ h => spec_of_vc mx k141_join (w141_join a0 a1 a2 a3 a4 a5 Q R hQ h)
def f169_link_L1 (w1 : Int) (w2 : Int) (w3 : Int) (w4 : Int) (w5 : Int) (w6 : Int) (w7 : Int) (w8 : Int) (r21 : L4) : Nat → Int → L4 → Option (L4 × L4)
  | 0, v33, l37 => some (r21, l37)
  | g35 + 1, v33, l37 => (f140_has v33 w1 w2 w3 w4).bind fun q40 => cond q40 (grdP ((0 : Int) ≤ v33 ∧ v33 < ((l37.length : Nat) : Int)) ((f141_join (0 + v33.toNat) (w5, w6, w7, w8) l37).bind fun l42 => f169_link_L1 w1 w2 w3 w4 w5 w6 w7 w8 r21 g35 (v33 + 1) l42)) (f169_link_L1 w1 w2 w3 w4 w5 w6 w7 w8 r21 g35 (v33 + 1) l37)
def f169_link : N4 → N4 → BA → Int → Bool → Int → Int → Int → Int → Int → Int → Int → Int → Bool → L4 → L4 → Option (L4 × L4)
  | (w1, w2, w3, w4), (w5, w6, w7, w8), s9, v10, q11, v12, v13, v14, v15, v16, v17, v18, v19, q20, r21, r22 => grdP (((r22.length : Nat) : Int) ≤ 9223372036854775807) (f169_link_L1 w1 w2 w3 w4 w5 w6 w7 w8 r21 (((r22.length : Nat) : Int) - 0).toNat 0 r22)
def C169_link (O : Oracle TT) (m : N4 → N4 → BA → Int → Bool → Int → Int → Int → Int → Int → Int → Int → Int → Bool → L4 → L4 → Option (L4 × L4)) : Prop :=
  ∀ (w1 : Int) (w2 : Int) (w3 : Int) (w4 : Int) (w5 : Int) (w6 : Int) (w7 : Int) (w8 : Int) (s9 : BA) (v10 : Int) (q11 : Bool) (v12 : Int) (v13 : Int) (v14 : Int) (v15 : Int) (v16 : Int) (v17 : Int) (v18 : Int) (v19 : Int) (q20 : Bool) (r21 : L4) (r22 : L4) (n0 : Nat) (en0 : n0 = r21.length) (n1 : Nat) (en1 : n1 = r22.length) (Q : (L4 × L4) → Prop) (R : RR) (_ : ∀ (l43 : L4) (l44 : L4) (n0r : Nat) (_ : n0r = l43.length) (n1r : Nat) (_ : n1r = l44.length) (_ : l43.length = r21.length) (_ : l44.length = r22.length), Q (l43, l44) → R (.tup []) [(.x 0, some (.var [.str s9, .int .i64 v10, .osl (.x 1) 0 n0r, .osl (.x 2) 0 n1r, .bool q11, .int .u64 v12, .int .u64 v13, .int .u64 v14, .int .u64 v15, .int .u64 v16, .int .u64 v17, .int .u64 v18, .int .u64 v19, .bool q20])), (.x 1, some (.row false .set4 l43)), (.x 2, some (.row false .set4 l44))]) (_ : sat (m (w1, w2, w3, w4) (w5, w6, w7, w8) s9 v10 q11 v12 v13 v14 v15 v16 v17 v18 v19 q20 r21 r22) Q), O 169 [.c (.ptr (.x 0) 0 0), .agg [.int .u64 w1, .int .u64 w2, .int .u64 w3, .int .u64 w4], .agg [.int .u64 w5, .int .u64 w6, .int .u64 w7, .int .u64 w8]] [((.x 0), some (.var [.str s9, .int .i64 v10, .osl (.x 1) 0 n0, .osl (.x 2) 0 n1, .bool q11, .int .u64 v12, .int .u64 v13, .int .u64 v14, .int .u64 v15, .int .u64 v16, .int .u64 v17, .int .u64 v18, .int .u64 v19, .bool q20])), ((.x 1), some (.row false .set4 r21)), ((.x 2), some (.row false .set4 r22))] R
def j169_link : Fn TT := ⟨28, [], (.seq (.reg [qo 4 (.box 4 1),qo 5 (.box 5 2)]) (.seq (.reg [qo 7 (.mv 0),qo 8 (.nilck 7),qo 9 (.fa 8 2),qo 10 (.fa 9 1),qo 11 (.load 10 1 false),qo 12 (.len false 11),qo 13 (.mv (iC 0))]) (.block 0 (.loop (.keep [0, 4, 5, 12, 13] [(.x 0), (.s 4), (.s 5), (.x 1), (.x 2)] (.aft (.seq (.reg [qo 14 (.bin .lss .num 13 12)]) (.seq (.cond 14 .skip (.exit 0)) (.seq
 (.block 1 (.seq (.reg [qo 15 (.mv 13),qo 6 (.mv 15)]) (.seq (.reg [qo 16 (.mv 6),qo 17 (.call 17 140 [4, 16])]) (.cond 17 (.drw [(.x 2)] (oR 9) [] (List.range 8) [qo 18 (.mv 0),qo 19 (.nilck 18),qo 20 (.fa 19 2),qo 21 (.fa 20 1),qo 22 (.load 21 1 false),qo 23 (.mv 6),qo 24 (.idxA 22 23 4),qo 25 (.load 5 4 true),qo 26 (.call 26 141 [24, 25])]) .skip))))
 (.reg [qo 27 (.bin .add .num 13 (iC 1)),qo 13 (.mv 27)])))) [.keep [0, 4, 5, 12, 13] [(.x 0), (.s 4), (.s 5), (.x 1), (.x 2)]]))))))⟩
theorem w169_link {O : Oracle TT} (h140_has : C140_has O f140_has) (h141_join : C141_join O f141_join) : C169_link (fun _ => vcF (S := SS) O j169_link) f169_link := by
 intro w1 w2 w3 w4 w5 w6 w7 w8 s9 v10 q11 v12 v13 v14 v15 v16 v17 v18 v19 q20 r21 r22 n0 en0 n1 en1 Q R hQ h
 subst en0
 subst en1
 unfold f169_link at h
 refine ⟨nle rfl, rfl, ?_⟩
 conv => whnf
 intro hl23
 obtain ⟨hN36, h⟩ := sat_grdP h
 conv => whnf
 refine ⟨fun σ n => ∃ (f34 : Nat) (v33 : Int) (z : Int) (l37 : L4) (n38 : Nat), f34 = n ∧ f34 = (((r22.length : Nat) : Int) - v33).toNat ∧ 0 ≤ v33 ∧ v33 = z ∧ n38 = l37.length ∧ l37.length = r22.length ∧ sat (f169_link_L1 w1 w2 w3 w4 w5 w6 w7 w8 r21 f34 v33 l37) Q ∧ σ.keep [0, 4, 5, 12, 13] [(.x 0), (.s 4), (.s 5), (.x 1), (.x 2)] = ⟨[(0, .c (.ptr (.x 0) 0 0)), (4, .c (.ptr (.s 4) 0 0)), (5, .c (.ptr (.s 5) 0 0)), (12, .c (.int .i64 ((r22.length : Nat) : Int))), (13, .c (.int .i64 z))], [((.x 0), some (.var [.str s9, .int .i64 v10, .osl (.x 1) 0 r21.length, .osl (.x 2) 0 n38, .bool q11, .int .u64 v12, .int .u64 v13, .int .u64 v14, .int .u64 v15, .int .u64 v16, .int .u64 v17, .int .u64 v18, .int .u64 v19, .bool q20])), ((.s 4), some (.var [.int .u64 w1, .int .u64 w2, .int .u64 w3, .int .u64 w4])), ((.s 5), some (.var [.int .u64 w5, .int .u64 w6, .int .u64 w7, .int .u64 w8])), ((.x 1), some (.row false .set4 r21)), ((.x 2), some (.row false .set4 l37))]⟩, ⟨_, _, 0, _, r22, _, rfl, rfl, (by decide), rfl, LN, LN, h, rfl⟩, ?_⟩
 rintro σ n ⟨f34, v33, _, l37, _, rfl, hf34, hpf34, rfl, rfl, hkll37, h, hσ⟩
 refine kk hσ ?_
 conv => whnf
 intro t39 (ht39 : t39 = decide (v33 < ((r22.length : Nat) : Int)))
 cases t39
 obtain rfl := il_nil hf34 ht39
 rw [f169_link_L1] at h
 conv => whnf
 exact ⟨[], ND 3, hQ _ _ _ LN _ LN LN LN (sat_some h)⟩
 obtain ⟨g35, rfl, hwg35, hpg35, hfg35⟩ := il_cons hf34 hpf34 ht39 hN36
 rw [f169_link_L1] at h
 conv => whnf
 refine ⟨[(.s 4)], ?_⟩
 conv => whnf
 refine h140_has _ _ _ _ _ _ _ ?_ (sat_bind h)
 rintro q40 h
 cases q40
 replace h := sat_cf h
 conv => whnf
 exact ⟨g35, nls, g35, v33 + 1, _, l37, _, rfl, hfg35, hpg35, hwg35.symm, LN, LN, h, rfl⟩
 replace h := sat_ct h
 conv => whnf
 refine kp h fun hb41 h => ?_
 conv => whnf
 refine ⟨[(.x 2)], ?_⟩
 conv => whnf
 refine h141_join _ _ _ _ _ _ _ _ ?_ (sat_bind h)
 rintro l42 hkrl42 h
 conv => whnf
 exact ⟨g35, nls, g35, v33 + 1, _, l42, _, rfl, hfg35, hpg35, hwg35.symm, LN, LN, h, rfl⟩
theorem c169_link {P : Program} {fid : Nat → FuncId} (mx : MX P) (k169_link : KF P fid 169 j169_link) (h140_has : C140_has (SP P fid) f140_has) (h141_join : C141_join (SP P fid) f141_join) : C169_link (SP P fid) f169_link :=
 fun a0 a1 a2 a3 a4 a5 a6 a7 a8 a9 a10 a11 a12 a13 a14 a15 a16 a17 a18 a19 a20 a21 n0 e0 n1 e1 Q R hQ h => spec_of_vc mx k169_link (w169_link h140_has h141_join a0 a1 a2 a3 a4 a5 a6 a7 a8 a9 a10 a11 a12 a13 a14 a15 a16 a17 a18 a19 a20 a21 n0 e0 n1 e1 Q R hQ h)
def f141a_join_L1 (w1 : Int) (w2 : Int) (w3 : Int) (w4 : Int) : Nat → Int → Int → Int → Int → Int → Option N4
  | 0, v31, v35, v36, v37, v38 => some (v35, v36, v37, v38)
  | g33 + 1, v31, v35, v36, v37, v38 => caseI v31 [f141a_join_L1 w1 w2 w3 w4 g33 (v31 + 1) (bOr .u64 v35 w1) v36 v37 v38, f141a_join_L1 w1 w2 w3 w4 g33 (v31 + 1) v35 (bOr .u64 v36 w2) v37 v38, f141a_join_L1 w1 w2 w3 w4 g33 (v31 + 1) v35 v36 (bOr .u64 v37 w3) v38, f141a_join_L1 w1 w2 w3 w4 g33 (v31 + 1) v35 v36 v37 (bOr .u64 v38 w4)]
def f141a_join : N4 → Bool → Int → Int → Int → Int → Int → Int → Int → Int → Option N4
  | (w1, w2, w3, w4), q5, v6, v7, v8, v9, v10, v11, v12, v13 => grdP ((4 : Int) ≤ 9223372036854775807) (f141a_join_L1 w1 w2 w3 w4 ((4 : Int) - 0).toNat 0 v6 v7 v8 v9)
def C141a_join (O : Oracle TT) (m : N4 → Bool → Int → Int → Int → Int → Int → Int → Int → Int → Option N4) : Prop :=
  ∀ (w1 : Int) (w2 : Int) (w3 : Int) (w4 : Int) (q5 : Bool) (v6 : Int) (v7 : Int) (v8 : Int) (v9 : Int) (v10 : Int) (v11 : Int) (v12 : Int) (v13 : Int) (Q : N4 → Prop) (R : RR) (_ : ∀ (v49 : Int) (v50 : Int) (v51 : Int) (v52 : Int), Q (v49, v50, v51, v52) → R (.tup []) [(.x 0, some (.var [.bool q5, .int .u64 v49, .int .u64 v50, .int .u64 v51, .int .u64 v52, .int .u64 v10, .int .u64 v11, .int .u64 v12, .int .u64 v13]))]) (_ : sat (m (w1, w2, w3, w4) q5 v6 v7 v8 v9 v10 v11 v12 v13) Q), O 141 [.c (.ptr (.x 0) 0 1), .agg [.int .u64 w1, .int .u64 w2, .int .u64 w3, .int .u64 w4]] [((.x 0), some (.var [.bool q5, .int .u64 v6, .int .u64 v7, .int .u64 v8, .int .u64 v9, .int .u64 v10, .int .u64 v11, .int .u64 v12, .int .u64 v13]))] R
def j141a_join : Fn TT := ⟨20, [], (.seq (.reg [qo 3 (.box 3 1)]) (.seq (.reg [qo 5 (.mv (iC 0))]) (.block 0 (.loop (.keep [0, 3, 5] [(.x 0), (.s 3)] (.aft (.seq (.reg [qo 6 (.bin .lss .num 5 (iC 4))]) (.seq (.cond 6 .skip (.exit 0)) (.seq (.block 1 (.seq (.reg [qo 7 (.mv 5),qo 4 (.mv 7)]) (.drw [] (oR 12) [11] (List.range 11) [qo 8 (.mv 0),qo 9 (.mv 4),qo 10 (.nilck 8),qo 11 (.idxC 10 9 1 4),
 qo 12 (.load 11 1 false),qo 13 (.mv 4),qo 14 (.idxC 3 13 1 4),qo 15 (.load 14 1 false),qo 16 (.bin .or .num 12 15),qo 17 (.nilck 8),qo 18 (.idxC 17 9 1 4),qp (.store 18 16 1)]))) (.reg [qo 19 (.bin .add .num 5 (iC 1)),qo 5 (.mv 19)])))) [.keep [0, 3, 5] [(.x 0), (.s 3)]]))))))⟩
theorem w141a_join {O : Oracle TT} : C141a_join (fun _ => vcF (S := SS) O j141a_join) f141a_join := by
 intro w1 w2 w3 w4 q5 v6 v7 v8 v9 v10 v11 v12 v13 Q R hQ h
 unfold f141a_join at h
 refine ⟨nle rfl, rfl, ?_⟩
 obtain ⟨hN34, h⟩ := sat_grdP h
 conv => whnf
 refine ⟨fun σ n => ∃ (f32 : Nat) (v31 : Int) (z : Int) (v35 : Int) (v36 : Int) (v37 : Int) (v38 : Int), f32 = n ∧ f32 = (4 - v31).toNat ∧ 0 ≤ v31 ∧ v31 = z ∧ sat (f141a_join_L1 w1 w2 w3 w4 f32 v31 v35 v36 v37 v38) Q ∧ σ.keep [0, 3, 5] [(.x 0), (.s 3)] = ⟨[(0, .c (.ptr (.x 0) 0 1)), (3, .c (.ptr (.s 3) 0 0)), (5, .c (.int .i64 z))], [((.x 0), some (.var [.bool q5, .int .u64 v35, .int .u64 v36, .int .u64 v37, .int .u64 v38, .int .u64 v10, .int .u64 v11, .int .u64 v12, .int .u64 v13])), ((.s 3), some (.var [.int .u64 w1, .int .u64 w2, .int .u64 w3, .int .u64 w4]))]⟩, ⟨_, _, 0, _, v6, v7, v8, v9, rfl, rfl, (by decide), rfl, h, rfl⟩, ?_⟩
 rintro σ n ⟨f32, v31, _, v35, v36, v37, v38, rfl, hf32, hpf32, rfl, h, hσ⟩
 refine kk hσ ?_
 conv => whnf
 intro t39 (ht39 : t39 = decide (v31 < 4))
 cases t39
 obtain rfl := il_nil hf32 ht39
 rw [f141a_join_L1] at h
 conv => whnf
 exact ⟨[], ND 1, hQ _ _ _ _ (sat_some h)⟩
 obtain ⟨g33, rfl, hwg33, hpg33, hfg33⟩ := il_cons hf32 hpf32 ht39 hN34
 rw [f141a_join_L1] at h
 conv => whnf
 obtain ⟨hbj40, h⟩ := sat_caseI h
 refine ⟨hbj40, fun j40 hj40 => ?_⟩
 replace h := h j40 hj40
 replace hbj40 : (0 : Int) ≤ v31 ∧ v31 < 4 := hbj40
 have hcj40 : j40 = 0 ∨ j40 = 1 ∨ j40 = 2 ∨ j40 = 3 := by omega
 rcases hcj40 with rfl | rfl | rfl | rfl
 replace h := sat_j0 h
 conv => whnf
 refine ⟨⟨by omega, by omega⟩, fun j41 hj41 => ?_⟩
 obtain rfl : j41 = 0 := by omega
 conv => whnf
 refine ⟨⟨by omega, by omega⟩, fun j42 hj42 => ?_⟩
 obtain rfl : j42 = 0 := by omega
 conv => whnf
 exact ⟨g33, nls, g33, v31 + 1, _, (bOr .u64 v35 w1), v36, v37, v38, rfl, hfg33, hpg33, hwg33.symm, h, rfl⟩
 replace h := sat_j1 h
 conv => whnf
 refine ⟨⟨by omega, by omega⟩, fun j43 hj43 => ?_⟩
 obtain rfl : j43 = 1 := by omega
 conv => whnf
 refine ⟨⟨by omega, by omega⟩, fun j44 hj44 => ?_⟩
 obtain rfl : j44 = 1 := by omega
 conv => whnf
 exact ⟨g33, nls, g33, v31 + 1, _, v35, (bOr .u64 v36 w2), v37, v38, rfl, hfg33, hpg33, hwg33.symm, h, rfl⟩
 replace h := sat_j2 h
 conv => whnf
 refine ⟨⟨by omega, by omega⟩, fun j45 hj45 => ?_⟩
 obtain rfl : j45 = 2 := by omega
 conv => whnf
 refine ⟨⟨by omega, by omega⟩, fun j46 hj46 => ?_⟩
 obtain rfl : j46 = 2 := by omega
 conv => whnf
 exact ⟨g33, nls, g33, v31 + 1, _, v35, v36, (bOr .u64 v37 w3), v38, rfl, hfg33, hpg33, hwg33.symm, h, rfl⟩
 replace h := sat_j3 h
 conv => whnf
 refine ⟨⟨by omega, by omega⟩, fun j47 hj47 => ?_⟩
 obtain rfl : j47 = 3 := by omega
 conv => whnf
 refine ⟨⟨by omega, by omega⟩, fun j48 hj48 => ?_⟩
 obtain rfl : j48 = 3 := by omega
 conv => whnf
 exact ⟨g33, nls, g33, v31 + 1, _, v35, v36, v37, (bOr .u64 v38 w4), rfl, hfg33, hpg33, hwg33.symm, h, rfl⟩
theorem c141a_join {P : Program} {fid : Nat → FuncId} (mx : MX P) (k141a_join : KF P fid 141 j141a_join) : C141a_join (SP P fid) f141a_join :=
 fun a0 a1 a2 a3 a4 a5 a6 a7 a8 a9 a10 a11 a12 Q R hQ h => spec_of_vc mx k141a_join (w141a_join a0 a1 a2 a3 a4 a5 a6 a7 a8 a9 a10 a11 a12 Q R hQ h)
def f141b_join_L1 (w1 : Int) (w2 : Int) (w3 : Int) (w4 : Int) : Nat → Int → Int → Int → Int → Int → Option N4
  | 0, v31, v35, v36, v37, v38 => some (v35, v36, v37, v38)
  | g33 + 1, v31, v35, v36, v37, v38 => caseI v31 [f141b_join_L1 w1 w2 w3 w4 g33 (v31 + 1) (bOr .u64 v35 w1) v36 v37 v38, f141b_join_L1 w1 w2 w3 w4 g33 (v31 + 1) v35 (bOr .u64 v36 w2) v37 v38, f141b_join_L1 w1 w2 w3 w4 g33 (v31 + 1) v35 v36 (bOr .u64 v37 w3) v38, f141b_join_L1 w1 w2 w3 w4 g33 (v31 + 1) v35 v36 v37 (bOr .u64 v38 w4)]
def f141b_join : N4 → Bool → Int → Int → Int → Int → Int → Int → Int → Int → Option N4
  | (w1, w2, w3, w4), q5, v6, v7, v8, v9, v10, v11, v12, v13 => grdP ((4 : Int) ≤ 9223372036854775807) (f141b_join_L1 w1 w2 w3 w4 ((4 : Int) - 0).toNat 0 v10 v11 v12 v13)
def C141b_join (O : Oracle TT) (m : N4 → Bool → Int → Int → Int → Int → Int → Int → Int → Int → Option N4) : Prop :=
  ∀ (w1 : Int) (w2 : Int) (w3 : Int) (w4 : Int) (q5 : Bool) (v6 : Int) (v7 : Int) (v8 : Int) (v9 : Int) (v10 : Int) (v11 : Int) (v12 : Int) (v13 : Int) (Q : N4 → Prop) (R : RR) (_ : ∀ (v49 : Int) (v50 : Int) (v51 : Int) (v52 : Int), Q (v49, v50, v51, v52) → R (.tup []) [(.x 0, some (.var [.bool q5, .int .u64 v6, .int .u64 v7, .int .u64 v8, .int .u64 v9, .int .u64 v49, .int .u64 v50, .int .u64 v51, .int .u64 v52]))]) (_ : sat (m (w1, w2, w3, w4) q5 v6 v7 v8 v9 v10 v11 v12 v13) Q), O 141 [.c (.ptr (.x 0) 0 5), .agg [.int .u64 w1, .int .u64 w2, .int .u64 w3, .int .u64 w4]] [((.x 0), some (.var [.bool q5, .int .u64 v6, .int .u64 v7, .int .u64 v8, .int .u64 v9, .int .u64 v10, .int .u64 v11, .int .u64 v12, .int .u64 v13]))] R
def j141b_join : Fn TT := ⟨20, [], (.seq (.reg [qo 3 (.box 3 1)]) (.seq (.reg [qo 5 (.mv (iC 0))]) (.block 0 (.loop (.keep [0, 3, 5] [(.x 0), (.s 3)] (.aft (.seq (.reg [qo 6 (.bin .lss .num 5 (iC 4))]) (.seq (.cond 6 .skip (.exit 0)) (.seq (.block 1 (.seq (.reg [qo 7 (.mv 5),qo 4 (.mv 7)]) (.drw [] (oR 12) [11] (List.range 11) [qo 8 (.mv 0),qo 9 (.mv 4),qo 10 (.nilck 8),qo 11 (.idxC 10 9 1 4),
 qo 12 (.load 11 1 false),qo 13 (.mv 4),qo 14 (.idxC 3 13 1 4),qo 15 (.load 14 1 false),qo 16 (.bin .or .num 12 15),qo 17 (.nilck 8),qo 18 (.idxC 17 9 1 4),qp (.store 18 16 1)]))) (.reg [qo 19 (.bin .add .num 5 (iC 1)),qo 5 (.mv 19)])))) [.keep [0, 3, 5] [(.x 0), (.s 3)]]))))))⟩
theorem w141b_join {O : Oracle TT} : C141b_join (fun _ => vcF (S := SS) O j141b_join) f141b_join := by
 intro w1 w2 w3 w4 q5 v6 v7 v8 v9 v10 v11 v12 v13 Q R hQ h
 unfold f141b_join at h
 refine ⟨nle rfl, rfl, ?_⟩
 obtain ⟨hN34, h⟩ := sat_grdP h
 conv => whnf
 refine ⟨fun σ n => ∃ (f32 : Nat) (v31 : Int) (z : Int) (v35 : Int) (v36 : Int) (v37 : Int) (v38 : Int), f32 = n ∧ f32 = (4 - v31).toNat ∧ 0 ≤ v31 ∧ v31 = z ∧ sat (f141b_join_L1 w1 w2 w3 w4 f32 v31 v35 v36 v37 v38) Q ∧ σ.keep [0, 3, 5] [(.x 0), (.s 3)] = ⟨[(0, .c (.ptr (.x 0) 0 5)), (3, .c (.ptr (.s 3) 0 0)), (5, .c (.int .i64 z))], [((.x 0), some (.var [.bool q5, .int .u64 v6, .int .u64 v7, .int .u64 v8, .int .u64 v9, .int .u64 v35, .int .u64 v36, .int .u64 v37, .int .u64 v38])), ((.s 3), some (.var [.int .u64 w1, .int .u64 w2, .int .u64 w3, .int .u64 w4]))]⟩, ⟨_, _, 0, _, v10, v11, v12, v13, rfl, rfl, (by decide), rfl, h, rfl⟩, ?_⟩
 rintro σ n ⟨f32, v31, _, v35, v36, v37, v38, rfl, hf32, hpf32, rfl, h, hσ⟩
 refine kk hσ ?_
 conv => whnf
 intro t39 (ht39 : t39 = decide (v31 < 4))
 cases t39
 obtain rfl := il_nil hf32 ht39
 rw [f141b_join_L1] at h
 conv => whnf
 exact ⟨[], ND 1, hQ _ _ _ _ (sat_some h)⟩
 obtain ⟨g33, rfl, hwg33, hpg33, hfg33⟩ := il_cons hf32 hpf32 ht39 hN34
 rw [f141b_join_L1] at h
 conv => whnf
 obtain ⟨hbj40, h⟩ := sat_caseI h
 refine ⟨hbj40, fun j40 hj40 => ?_⟩
 replace h := h j40 hj40
 replace hbj40 : (0 : Int) ≤ v31 ∧ v31 < 4 := hbj40
 have hcj40 : j40 = 0 ∨ j40 = 1 ∨ j40 = 2 ∨ j40 = 3 := by omega
 rcases hcj40 with rfl | rfl | rfl | rfl
 replace h := sat_j0 h
 conv => whnf
 refine ⟨⟨by omega, by omega⟩, fun j41 hj41 => ?_⟩
 obtain rfl : j41 = 0 := by omega
 conv => whnf
 refine ⟨⟨by omega, by omega⟩, fun j42 hj42 => ?_⟩
 obtain rfl : j42 = 0 := by omega
 conv => whnf
 exact ⟨g33, nls, g33, v31 + 1, _, (bOr .u64 v35 w1), v36, v37, v38, rfl, hfg33, hpg33, hwg33.symm, h, rfl⟩
 replace h := sat_j1 h
 conv => whnf
 refine ⟨⟨by omega, by omega⟩, fun j43 hj43 => ?_⟩
 obtain rfl : j43 = 1 := by omega
 conv => whnf
 refine ⟨⟨by omega, by omega⟩, fun j44 hj44 => ?_⟩
 obtain rfl : j44 = 1 := by omega
 conv => whnf
 exact ⟨g33, nls, g33, v31 + 1, _, v35, (bOr .u64 v36 w2), v37, v38, rfl, hfg33, hpg33, hwg33.symm, h, rfl⟩
 replace h := sat_j2 h
 conv => whnf
 refine ⟨⟨by omega, by omega⟩, fun j45 hj45 => ?_⟩
 obtain rfl : j45 = 2 := by omega
 conv => whnf
 refine ⟨⟨by omega, by omega⟩, fun j46 hj46 => ?_⟩
 obtain rfl : j46 = 2 := by omega
 conv => whnf
 exact ⟨g33, nls, g33, v31 + 1, _, v35, v36, (bOr .u64 v37 w3), v38, rfl, hfg33, hpg33, hwg33.symm, h, rfl⟩
 replace h := sat_j3 h
 conv => whnf
 refine ⟨⟨by omega, by omega⟩, fun j47 hj47 => ?_⟩
 obtain rfl : j47 = 3 := by omega
 conv => whnf
 refine ⟨⟨by omega, by omega⟩, fun j48 hj48 => ?_⟩
 obtain rfl : j48 = 3 := by omega
 conv => whnf
 exact ⟨g33, nls, g33, v31 + 1, _, v35, v36, v37, (bOr .u64 v38 w4), rfl, hfg33, hpg33, hwg33.symm, h, rfl⟩
theorem c141b_join {P : Program} {fid : Nat → FuncId} (mx : MX P) (k141b_join : KF P fid 141 j141b_join) : C141b_join (SP P fid) f141b_join :=
 fun a0 a1 a2 a3 a4 a5 a6 a7 a8 a9 a10 a11 a12 Q R hQ h => spec_of_vc mx k141b_join (w141b_join a0 a1 a2 a3 a4 a5 a6 a7 a8 a9 a10 a11 a12 Q R hQ h)
end Go.Clap
