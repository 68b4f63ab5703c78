/- PRINTED by gm.py: small code, models, and that the code meets the models. -/
import Derived.Test.YtnielhfaioakkaaClapK2
set_option linter.unusedVariables false
set_option linter.unusedSimpArgs false
set_option maxHeartbeats 4000000
set_option maxRecDepth 100000
namespace Go.Clap
open Go.IntKind (wrap)
def f175_IndexFunc_L2 (s2 : BA) (v3 : Int) (s4 : BA) (v5 : Int) (v6 : Int) (s7 : BA) (l8 : PT) : PT → Nat → Option (Sum (Int) (Unit))
  | [], j52 => some (.inr ())
  | ((a57, .mk k58 m59 lo60 hi61 p62 ps63)) :: tl54, j52 => (f172_1 (a57, (Tp.mk k58 m59 lo60 hi61 p62 ps63)) s2 v3 s4 v5 v6 s7 l8).bind fun q65 => cond q65 (lft (some ((j52 : Nat) : Int))) (f175_IndexFunc_L2 s2 v3 s4 v5 v6 s7 l8 tl54 (j52 + 1))
def f175_IndexFunc : PT → BA → Int → BA → Int → Int → BA → PT → Option (Int)
  | l1, s2, v3, s4, v5, v6, s7, l8 => sbind (ο := Unit) (f175_IndexFunc_L2 s2 v3 s4 v5 v6 s7 l8 l1 0) (fun () => some (-1))
def C175_IndexFunc (O : Oracle TT) (m : PT → BA → Int → BA → Int → Int → BA → PT → Option (Int)) : Prop :=
  ∀ (l1 : PT) (s2 : BA) (v3 : Int) (s4 : BA) (v5 : Int) (v6 : Int) (s7 : BA) (l8 : PT) (Q : Int → Prop) (R : RR) (_ : ∀ (v66 : Int), Q v66 → R (.c (.int .i64 v66)) [(.x 0, some (.var [.str s2, .int .i64 v3, .str s4, .int .i64 v5, .int .i64 v6, .str s7, .isl .part l8]))]) (_ : sat (m l1 s2 v3 s4 v5 v6 s7 l8) Q), O 175 [.c (.isl .part l1), .c (.fn 172 [(.x 0)])] [((.x 0), some (.var [.str s2, .int .i64 v3, .str s4, .int .i64 v5, .int .i64 v6, .str s7, .isl .part l8]))] R
def j175_IndexFunc : Fn TT := ⟨19, [.t 4], (.seq (.reg [qo 4 (.mv (iC 0))]) (.cut [] [(.x 0)] (.seq (.reg [qo 6 (.mv 0),qo 7 (.len false 6),qo 8 (.mv (iC 0))]) (.block 0 (.loop (.keep [0, 1, 7, 8] [(.x 0)] (.aft (.seq (.reg [qo 9 (.bin .lss .num 8 7)]) (.seq (.cond 9 .skip (.exit 0)) (.seq (.block 1 (.seq (.reg [qo 10 (.mv 8),qo 5 (.mv 10)]) (.seq (.reg [qo 11 (.mv 1),qo 12 (.mv 0),
 qo 13 (.mv 5),qo 14 (.idxA 12 13 7),qo 15 (.load 14 7 true),qo 16 (.callv 16 11 [15])]) (.cond 16 (.seq (.reg [qo 17 (.mv 5),qo 4 (.mv 17)]) .ret) .skip)))) (.reg [qo 18 (.bin .add .num 8 (iC 1)),qo 8 (.mv 18)])))) [.keep [0, 1, 7, 8] [(.x 0)]]))))) (.seq (.reg [qo 4 (.mv (iC (-1)))]) .ret)))⟩
theorem w175_IndexFunc {O : Oracle TT} (h172_1 : C172_1 O f172_1) : C175_IndexFunc (fun _ => vcF (S := SS) O j175_IndexFunc) f175_IndexFunc := by
 intro l1 s2 v3 s4 v5 v6 s7 l8 Q R hQ h
 unfold f175_IndexFunc at h
 refine ⟨nle rfl, rfl, ?_⟩
 obtain ⟨R37, h, hlR37, hrR37⟩ := sat_sbind h
 conv => whnf
 refine ⟨fun σ => R37 (.inr ()) ∧ σ = ⟨[], [((.x 0), some (.var [.str s2, .int .i64 v3, .str s4, .int .i64 v5, .int .i64 v6, .str s7, .isl .part l8]))]⟩, ?_, ?_⟩
 conv => whnf
 intro hl38
 conv => whnf
 refine ⟨fun σ n => ∃ (rem53 : PT) (j52 : Nat) (z : Int), n = rem53.length ∧ l1.drop j52 = rem53 ∧ z = ((j52 : Nat) : Int) ∧ sat (f175_IndexFunc_L2 s2 v3 s4 v5 v6 s7 l8 rem53 j52) R37 ∧ σ.keep [0, 1, 7, 8] [(.x 0)] = ⟨[(0, .c (.isl .part l1)), (1, .c (.fn 172 [(.x 0)])), (7, .c (.int .i64 ((l1.length : Nat) : Int))), (8, .c (.int .i64 z))], [((.x 0), some (.var [.str s2, .int .i64 v3, .str s4, .int .i64 v5, .int .i64 v6, .str s7, .isl .part l8]))]⟩, ⟨_, l1, 0, _, rfl, rfl, rfl, h, rfl⟩, ?_⟩
 rintro σ n ⟨rem53, j52, _, rfl, hrem53, rfl, h, hσ⟩
 refine kk hσ ?_
 conv => whnf
 intro t56 (ht56 : t56 = decide (((j52 : Nat) : Int) < ((l1.length : Nat) : Int)))
 cases t56
 obtain rfl := ll_nil hrem53 ht56
 rw [f175_IndexFunc_L2] at h
 conv => whnf
 exact ⟨sat_some h, rfl⟩
 obtain ⟨x55, tl54, rfl, hx55, htl54⟩ := ll_cons hrem53 ht56
 obtain ⟨a57, ⟨k58, m59, lo60, hi61, p62, ps63⟩⟩ := x55
 rw [f175_IndexFunc_L2] at h
 conv => whnf
 refine ⟨lx_bd hx55, fun uu64 huu64 => ?_⟩
 obtain rfl := lx_eq hx55 huu64
 conv => whnf
 refine ⟨[(.x 0)], ?_⟩
 conv => whnf
 refine h172_1 _ _ _ _ _ _ _ _ _ _ _ _ _ _ _ _ ?_ (sat_bind h)
 rintro q65 h
 cases q65
 replace h := sat_cf h
 conv => whnf
 exact ⟨tl54.length, nls, tl54, j52 + 1, _, rfl, htl54, lx_wr hx55 hl38, h, rfl⟩
 replace h := sat_ct h
 replace h := sat_lft hlR37 h
 conv => whnf
 exact ⟨[], ND 1, hQ _ (sat_some h)⟩
 rintro _ ⟨h, rfl⟩
 replace h := hrR37 _ h
 conv => whnf
 exact ⟨[], ND 1, hQ _ (sat_some h)⟩
theorem c175_IndexFunc {P : Program} {fid : Nat → FuncId} (mx : MX P) (k175_IndexFunc : KF P fid 175 j175_IndexFunc) (h172_1 : C172_1 (SP P fid) f172_1) : C175_IndexFunc (SP P fid) f175_IndexFunc :=
 fun a0 a1 a2 a3 a4 a5 a6 a7 Q R hQ h => spec_of_vc mx k175_IndexFunc (w175_IndexFunc h172_1 a0 a1 a2 a3 a4 a5 a6 a7 Q R hQ h)
def f171_ContainsFunc : PT → BA → Int → BA → Int → Int → BA → PT → Option (Bool)
  | l1, s2, v3, s4, v5, v6, s7, l8 => (f175_IndexFunc l1 s2 v3 s4 v5 v6 s7 l8).bind fun v9 => cond (decide (v9 ≥ 0)) (some true) (some false)
def C171_ContainsFunc (O : Oracle TT) (m : PT → BA → Int → BA → Int → Int → BA → PT → Option (Bool)) : Prop :=
  ∀ (l1 : PT) (s2 : BA) (v3 : Int) (s4 : BA) (v5 : Int) (v6 : Int) (s7 : BA) (l8 : PT) (Q : Bool → Prop) (R : RR) (_ : ∀ (q11 : Bool), Q q11 → R (.c (.bool q11)) [(.x 0, some (.var [.str s2, .int .i64 v3, .str s4, .int .i64 v5, .int .i64 v6, .str s7, .isl .part l8]))]) (_ : sat (m l1 s2 v3 s4 v5 v6 s7 l8) Q), O 171 [.c (.isl .part l1), .c (.fn 172 [(.x 0)])] [((.x 0), some (.var [.str s2, .int .i64 v3, .str s4, .int .i64 v5, .int .i64 v6, .str s7, .isl .part l8]))] R
def j171_ContainsFunc : Fn TT := ⟨9, [.t 4], (.seq (.reg [qo 4 (.mv bF)]) (.seq (.reg [qo 5 (.mv 0),qo 6 (.mv 1),qo 7 (.call 7 175 [5, 6]),qo 8 (.bin .geq .num 7 (iC 0)),qo 4 (.mv 8)]) .ret))⟩
theorem w171_ContainsFunc {O : Oracle TT} (h175_IndexFunc : C175_IndexFunc O f175_IndexFunc) : C171_ContainsFunc (fun _ => vcF (S := SS) O j171_ContainsFunc) f171_ContainsFunc := by
 intro l1 s2 v3 s4 v5 v6 s7 l8 Q R hQ h
 unfold f171_ContainsFunc at h
 refine ⟨nle rfl, rfl, ?_⟩
 conv => whnf
 refine ⟨[(.x 0)], ?_⟩
 conv => whnf
 refine h175_IndexFunc _ _ _ _ _ _ _ _ _ _ ?_ (sat_bind h)
 rintro v9 h
 conv => whnf
 refine kc h (fun h => ?_) fun h => ?_
 conv => whnf
 exact ⟨[], ND 1, hQ _ (sat_some h)⟩
 conv => whnf
 exact ⟨[], ND 1, hQ _ (sat_some h)⟩
theorem c171_ContainsFunc {P : Program} {fid : Nat → FuncId} (mx : MX P) (k171_ContainsFunc : KF P fid 171 j171_ContainsFunc) (h175_IndexFunc : C175_IndexFunc (SP P fid) f175_IndexFunc) : C171_ContainsFunc (SP P fid) f171_ContainsFunc :=
 fun a0 a1 a2 a3 a4 a5 a6 a7 Q R hQ h => spec_of_vc mx k171_ContainsFunc (w171_ContainsFunc h175_IndexFunc a0 a1 a2 a3 a4 a5 a6 a7 Q R hQ h)
def f167_parts_L3 (ps6 : PT) : PT → Nat → Option (Sum (Int) (Unit))
  | [], j133 => some (.inr ())
  | ((a138, .mk k139 m140 lo141 hi142 p143 ps144)) :: tl135, j133 => (f132_Name a138).bind fun q146 => cond q146 (grdP ((0 : Int) ≤ ((j133 : Nat) : Int) ∧ 0 ≤ ((j133 : Nat) : Int).toNat ∧ ((j133 : Nat) : Int).toNat ≤ ps6.length) ((f171_ContainsFunc ((ps6.drop 0).take (((j133 : Nat) : Int).toNat - 0)) a138 k139 m140 lo141 hi142 p143 ps144).bind fun q149 => cond q149 (lft (some 5)) (f167_parts_L3 ps6 tl135 (j133 + 1)))) (lft (some 15))
def f167_parts_L4 (ps6 : PT) : PT → Nat → Option (Sum (Int) (Unit))
  | [], j168 => some (.inr ())
  | ((a173, .mk k174 m175 lo176 hi177 p178 ps179)) :: tl170, j168 => (f132_Name a173).bind fun q181 => cond q181 (grdP ((0 : Int) ≤ ((j168 : Nat) : Int) ∧ 0 ≤ ((j168 : Nat) : Int).toNat ∧ ((j168 : Nat) : Int).toNat ≤ ps6.length) ((f171_ContainsFunc ((ps6.drop 0).take (((j168 : Nat) : Int).toNat - 0)) a173 k174 m175 lo176 hi177 p178 ps179).bind fun q184 => cond q184 (lft (some 5)) (f167_parts_L4 ps6 tl170 (j168 + 1)))) (lft (some 15))
def f167_parts : Tp → Option (Int)
  | .mk k1 m2 lo3 hi4 p5 ps6 => sbind (ο := Unit) (sbind (ο := Bool) (cond (k1 == 8) (some (.inr true)) (cond (k1 == 9) (some (.inr true)) (some (.inr false)))) (fun q104 => cond q104 (cond (((ps6.length : Nat) : Int) != 1) (lft (some 3)) (getL ps6 0 fun uu193 => match uu193 with | (a186, .mk k187 m188 lo189 hi190 p191 ps192) => cond (!(a186.toList == (⟨#[]⟩ : BA).toList)) (lft (some 3)) (some (.inr ())))) (sbind (ο := Bool) (cond (k1 == 6) (some (.inr true)) (cond (k1 == 7) (some (.inr true)) (some (.inr false)))) (fun q110 => cond q110 (cond (decide (((ps6.length : Nat) : Int) > 24)) (lft (some 2)) (cond (k1 == 7) (cond (((ps6.length : Nat) : Int) == 0) (lft (some 3)) (f167_parts_L4 ps6 ps6 0)) (f167_parts_L3 ps6 ps6 0))) (some (.inr ())))))) (fun () => some 0)
def C167_parts (O : Oracle TT) (m : Tp → Option (Int)) : Prop :=
  ∀ (k1 : Int) (m2 : BA) (lo3 : Int) (hi4 : Int) (p5 : BA) (ps6 : PT) (Q : Int → Prop) (R : RR) (_ : ∀ (v195 : Int), Q v195 → R (.c (.int .i64 v195)) []) (_ : sat (m (Tp.mk k1 m2 lo3 hi4 p5 ps6)) Q), O 167 [.agg [.int .i64 k1, .str m2, .int .i64 lo3, .int .i64 hi4, .str p5, .isl .part ps6]] [] R
def j167_parts : Fn TT := ⟨55, [.t 2], (.seq (.reg [qo 1 (.box 1 0),qo 2 (.mv (iC 0))]) (.seq (.reg [qo 6 (.fa 1 5),qo 7 (.load 6 1 false),qo 8 (.len false 7),qo 3 (.mv 8)]) (.cut [] [] (.seq (.reg [qo 9 (.fa 1 0),qo 10 (.load 9 1 false)]) (.block 0 (.cut [1, 3, 10, 11] [(.s 1)] (.seq (.reg [qo 12 (.bin .eql .num 10 (iC 8)),qo 11 (.mv 12)]) (.cond 11 .skip
 (.reg [qo 13 (.bin .eql .num 10 (iC 9)),qo 11 (.mv 13)]))) (.cond 11 (.seq (.reg [qo 14 (.mv 3),qo 15 (.bin .neq .num 14 (iC 1)),qo 16 (.mv 15),qf 16 17 (.fa 1 5),qf 16 18 (.load 17 1 false),qf 16 19 (.idxA 18 (iC 0) 7),qf 16 20 (.fa 19 0),qf 16 21 (.load 20 1 false),qf 16 22 (.bin .neq .str 21 (.c (.str (⟨#[]⟩ : BA)))),qo 23 (.pick 16 bT 22)]) (.cond 23 (.seq
 (.reg [qo 2 (.mv (iC 3))]) .ret) .skip)) (.cut [1, 3, 24] [(.s 1)] (.seq (.reg [qo 25 (.bin .eql .num 10 (iC 6)),qo 24 (.mv 25)]) (.cond 24 .skip (.reg [qo 26 (.bin .eql .num 10 (iC 7)),qo 24 (.mv 26)]))) (.cond 24 (.seq (.seq (.reg [qo 27 (.mv 3),qo 28 (.bin .gtr .num 27 (iC 24))]) (.cond 28 (.seq (.reg [qo 2 (.mv (iC 2))]) .ret) .skip)) (.seq (.seq (.reg [qo 29 (.fa 1 0),
 qo 30 (.load 29 1 false),qo 31 (.bin .eql .num 30 (iC 7)),qo 32 (.mv 31),qg 32 33 (.mv 3),qg 32 34 (.bin .eql .num 33 (iC 0)),qo 35 (.pick 32 34 bF)]) (.cond 35 (.seq (.reg [qo 2 (.mv (iC 3))]) .ret) .skip)) (.seq (.reg [qo 36 (.fa 1 5),qo 37 (.load 36 1 false),qo 38 (.len false 37),qo 39 (.mv (iC 0))]) (.block 1 (.loop (.keep [1, 37, 38, 39] [(.s 1)] (.aft (.seq
 (.reg [qo 40 (.bin .lss .num 39 38)]) (.seq (.cond 40 .skip (.exit 1)) (.seq (.block 2 (.seq (.reg [qo 41 (.mv 39),qo 42 (.idxA 37 39 7),qo 43 (.load 42 7 true),qo 5 (.alloc 5 [.str (⟨#[]⟩ : BA), .int .i64 0, .str (⟨#[]⟩ : BA), .int .i64 0, .int .i64 0, .str (⟨#[]⟩ : BA), .isl .part []]),qo 4 (.mv 41),qp (.store 5 43 7)]) (.seq (.seq (.reg [qo 44 (.fa 5 0),
 qo 45 (.load 44 1 false),qo 46 (.call 46 132 [45]),qo 47 (.un .not 46)]) (.cond 47 (.seq (.reg [qo 2 (.mv (iC 15))]) .ret) .skip)) (.seq (.reg [qo 48 (.fa 1 5),qo 49 (.load 48 1 false),qo 50 (.mv 4),qo 51 (.slc 7 49 none (some 50)),qo 52 (.mkf 172 [5]),qo 53 (.call 53 171 [51, 52])]) (.cond 53 (.seq (.reg [qo 2 (.mv (iC 5))]) .ret) .skip))))) (.reg [qo 54 (.bin .add .num 39 (iC 1)),
 qo 39 (.mv 54)])))) [.keep [1, 37, 38, 39] [(.s 1)]]))))))) .skip)))))) (.seq (.reg [qo 2 (.mv (iC 0))]) .ret))))⟩
theorem w167_parts {O : Oracle TT} (h132_Name : C132_Name O f132_Name) (h171_ContainsFunc : C171_ContainsFunc O f171_ContainsFunc) : C167_parts (fun _ => vcF (S := SS) O j167_parts) f167_parts := by
 intro k1 m2 lo3 hi4 p5 ps6 Q R hQ h
 unfold f167_parts at h
 refine ⟨nle rfl, rfl, ?_⟩
 conv => whnf
 intro hl7
 obtain ⟨R101, h, hlR101, hrR101⟩ := sat_sbind h
 conv => whnf
 refine ⟨fun σ => R101 (.inr ()) ∧ σ = ⟨[], []⟩, ?_, ?_⟩
 obtain ⟨R105, h, hlR105, hrR105⟩ := sat_sbind h
 conv => whnf
 refine ⟨fun σ => ∃ (q104 : Bool), R105 (.inr q104) ∧ σ = ⟨[(1, .c (.ptr (.s 1) 0 0)), (3, .c (.int .i64 ((ps6.length : Nat) : Int))), (10, .c (.int .i64 k1)), (11, .c (.bool q104))], [((.s 1), some (.var [.int .i64 k1, .str m2, .int .i64 lo3, .int .i64 hi4, .str p5, .isl .part ps6]))]⟩, ?_, ?_⟩
 conv => whnf
 refine kc h (fun h => ?_) fun h => ?_
 conv => whnf
 refine kc h (fun h => ?_) fun h => ?_
 conv => whnf
 exact ⟨false, sat_some h, rfl⟩
 conv => whnf
 exact ⟨true, sat_some h, rfl⟩
 conv => whnf
 exact ⟨true, sat_some h, rfl⟩
 rintro _ ⟨q104, h, rfl⟩
 replace h := hrR105 _ h
 cases q104
 replace h := sat_cf h
 obtain ⟨R111, h, hlR111, hrR111⟩ := sat_sbind h
 conv => whnf
 refine ⟨fun σ => ∃ (q110 : Bool), R111 (.inr q110) ∧ σ = ⟨[(1, .c (.ptr (.s 1) 0 0)), (3, .c (.int .i64 ((ps6.length : Nat) : Int))), (24, .c (.bool q110))], [((.s 1), some (.var [.int .i64 k1, .str m2, .int .i64 lo3, .int .i64 hi4, .str p5, .isl .part ps6]))]⟩, ?_, ?_⟩
 conv => whnf
 refine kc h (fun h => ?_) fun h => ?_
 conv => whnf
 refine kc h (fun h => ?_) fun h => ?_
 conv => whnf
 exact ⟨false, sat_some h, rfl⟩
 conv => whnf
 exact ⟨true, sat_some h, rfl⟩
 conv => whnf
 exact ⟨true, sat_some h, rfl⟩
 rintro _ ⟨q110, h, rfl⟩
 replace h := hrR111 _ h
 cases q110
 replace h := sat_cf h
 conv => whnf
 exact ⟨sat_some h, rfl⟩
 replace h := sat_ct h
 conv => whnf
 refine kc h (fun h => ?_) fun h => ?_
 conv => whnf
 refine kc h (fun h => ?_) fun h => ?_
 conv => whnf
 intro hl116
 conv => whnf
 refine ⟨fun σ n => ∃ (rem134 : PT) (j133 : Nat) (z : Int), n = rem134.length ∧ ps6.drop j133 = rem134 ∧ z = ((j133 : Nat) : Int) ∧ sat (f167_parts_L3 ps6 rem134 j133) R101 ∧ σ.keep [1, 37, 38, 39] [(.s 1)] = ⟨[(1, .c (.ptr (.s 1) 0 0)), (37, .c (.isl .part ps6)), (38, .c (.int .i64 ((ps6.length : Nat) : Int))), (39, .c (.int .i64 z))], [((.s 1), some (.var [.int .i64 k1, .str m2, .int .i64 lo3, .int .i64 hi4, .str p5, .isl .part ps6]))]⟩, ⟨_, ps6, 0, _, rfl, rfl, rfl, h, rfl⟩, ?_⟩
 rintro σ n ⟨rem134, j133, _, rfl, hrem134, rfl, h, hσ⟩
 refine kk hσ ?_
 conv => whnf
 intro t137 (ht137 : t137 = decide (((j133 : Nat) : Int) < ((ps6.length : Nat) : Int)))
 cases t137
 obtain rfl := ll_nil hrem134 ht137
 rw [f167_parts_L3] at h
 conv => whnf
 exact ⟨sat_some h, rfl⟩
 obtain ⟨x136, tl135, rfl, hx136, htl135⟩ := ll_cons hrem134 ht137
 obtain ⟨a138, ⟨k139, m140, lo141, hi142, p143, ps144⟩⟩ := x136
 rw [f167_parts_L3] at h
 conv => whnf
 refine ⟨lx_bd hx136, fun uu145 huu145 => ?_⟩
 obtain rfl := lx_eq hx136 huu145
 conv => whnf
 refine ⟨[], ?_⟩
 conv => whnf
 refine h132_Name _ _ _ ?_ (sat_bind h)
 rintro q146 h
 cases q146
 replace h := sat_cf h
 replace h := sat_lft hlR101 h
 conv => whnf
 exact ⟨[], ND 0, hQ _ (sat_some h)⟩
 replace h := sat_ct h
 conv => whnf
 obtain ⟨⟨hb147, hb148⟩, h⟩ := sat_grdP h
 refine ⟨hb147, ?_⟩
 conv => whnf
 refine ⟨hb148, ?_⟩
 conv => whnf
 refine ⟨[(.s 5)], ?_⟩
 conv => whnf
 refine h171_ContainsFunc _ _ _ _ _ _ _ _ _ _ ?_ (sat_bind h)
 rintro q149 h
 cases q149
 replace h := sat_cf h
 conv => whnf
 exact ⟨tl135.length, nls, tl135, j133 + 1, _, rfl, htl135, lx_wr hx136 hl116, h, rfl⟩
 replace h := sat_ct h
 replace h := sat_lft hlR101 h
 conv => whnf
 exact ⟨[], ND 0, hQ _ (sat_some h)⟩
 conv => whnf
 refine kc h (fun h => ?_) fun h => ?_
 conv => whnf
 intro hl151
 conv => whnf
 refine ⟨fun σ n => ∃ (rem169 : PT) (j168 : Nat) (z : Int), n = rem169.length ∧ ps6.drop j168 = rem169 ∧ z = ((j168 : Nat) : Int) ∧ sat (f167_parts_L4 ps6 rem169 j168) R101 ∧ σ.keep [1, 37, 38, 39] [(.s 1)] = ⟨[(1, .c (.ptr (.s 1) 0 0)), (37, .c (.isl .part ps6)), (38, .c (.int .i64 ((ps6.length : Nat) : Int))), (39, .c (.int .i64 z))], [((.s 1), some (.var [.int .i64 k1, .str m2, .int .i64 lo3, .int .i64 hi4, .str p5, .isl .part ps6]))]⟩, ⟨_, ps6, 0, _, rfl, rfl, rfl, h, rfl⟩, ?_⟩
 rintro σ n ⟨rem169, j168, _, rfl, hrem169, rfl, h, hσ⟩
 refine kk hσ ?_
 conv => whnf
 intro t172 (ht172 : t172 = decide (((j168 : Nat) : Int) < ((ps6.length : Nat) : Int)))
 cases t172
 obtain rfl := ll_nil hrem169 ht172
 rw [f167_parts_L4] at h
 conv => whnf
 exact ⟨sat_some h, rfl⟩
 obtain ⟨x171, tl170, rfl, hx171, htl170⟩ := ll_cons hrem169 ht172
 obtain ⟨a173, ⟨k174, m175, lo176, hi177, p178, ps179⟩⟩ := x171
 rw [f167_parts_L4] at h
 conv => whnf
 refine ⟨lx_bd hx171, fun uu180 huu180 => ?_⟩
 obtain rfl := lx_eq hx171 huu180
 conv => whnf
 refine ⟨[], ?_⟩
 conv => whnf
 refine h132_Name _ _ _ ?_ (sat_bind h)
 rintro q181 h
 cases q181
 replace h := sat_cf h
 replace h := sat_lft hlR101 h
 conv => whnf
 exact ⟨[], ND 0, hQ _ (sat_some h)⟩
 replace h := sat_ct h
 conv => whnf
 obtain ⟨⟨hb182, hb183⟩, h⟩ := sat_grdP h
 refine ⟨hb182, ?_⟩
 conv => whnf
 refine ⟨hb183, ?_⟩
 conv => whnf
 refine ⟨[(.s 5)], ?_⟩
 conv => whnf
 refine h171_ContainsFunc _ _ _ _ _ _ _ _ _ _ ?_ (sat_bind h)
 rintro q184 h
 cases q184
 replace h := sat_cf h
 conv => whnf
 exact ⟨tl170.length, nls, tl170, j168 + 1, _, rfl, htl170, lx_wr hx171 hl151, h, rfl⟩
 replace h := sat_ct h
 replace h := sat_lft hlR101 h
 conv => whnf
 exact ⟨[], ND 0, hQ _ (sat_some h)⟩
 replace h := sat_lft hlR101 h
 conv => whnf
 exact ⟨[], ND 0, hQ _ (sat_some h)⟩
 replace h := sat_lft hlR101 h
 conv => whnf
 exact ⟨[], ND 0, hQ _ (sat_some h)⟩
 replace h := sat_ct h
 conv => whnf
 refine kc h (fun h => ?_) fun h => ?_
 conv => whnf
 refine kg (sat_getL h) fun uu193 huu193 h => ?_
 obtain ⟨a186, ⟨k187, m188, lo189, hi190, p191, ps192⟩⟩ := uu193
 conv => whnf
 refine kc h (fun h => ?_) fun h => ?_
 conv => whnf
 exact ⟨sat_some h, rfl⟩
 replace h := sat_lft hlR101 h
 conv => whnf
 exact ⟨[], ND 0, hQ _ (sat_some h)⟩
 replace h := sat_lft hlR101 h
 conv => whnf
 exact ⟨[], ND 0, hQ _ (sat_some h)⟩
 rintro _ ⟨h, rfl⟩
 replace h := hrR101 _ h
 conv => whnf
 exact ⟨[], ND 0, hQ _ (sat_some h)⟩
theorem c167_parts {P : Program} {fid : Nat → FuncId} (mx : MX P) (k167_parts : KF P fid 167 j167_parts) (h132_Name : C132_Name (SP P fid) f132_Name) (h171_ContainsFunc : C171_ContainsFunc (SP P fid) f171_ContainsFunc) : C167_parts (SP P fid) f167_parts :=
 fun a0 a1 a2 a3 a4 a5 Q R hQ h => spec_of_vc mx k167_parts (w167_parts h132_Name h171_ContainsFunc a0 a1 a2 a3 a4 a5 Q R hQ h)
def f154_own (fuel : Nat) : PT → Tp → Option (Int)
  | l1, .mk k2 m3 lo4 hi5 p6 ps7 => (f165_bounds k2).bind fun (v8, v9) => cond (decide (k2 < 0)) (some 3) (cond (decide (k2 > 10)) (some 3) ((f166_unused (Tp.mk k2 m3 lo4 hi5 p6 ps7)).bind fun q12 => cond q12 (some 3) (cond (decide (lo4 < v8)) (some 11) (cond (decide (lo4 > hi5)) (some 11) (cond (decide (hi5 > v9)) (some 11) (cond (k2 == 5) ((f160_Check fuel p6).bind fun v26 => cond (v26 != 0) (some v26) ((f167_parts (Tp.mk k2 m3 lo4 hi5 p6 ps7)).bind fun v28 => some v28)) (cond (k2 == 9) ((f160_Check fuel p6).bind fun v23 => cond (v23 != 0) (some v23) ((f167_parts (Tp.mk k2 m3 lo4 hi5 p6 ps7)).bind fun v25 => some v25)) (cond (k2 == 10) ((f107_find l1 m3).bind fun v20 => cond (decide (v20 < 0)) (some 15) ((f167_parts (Tp.mk k2 m3 lo4 hi5 p6 ps7)).bind fun v22 => some v22)) ((f167_parts (Tp.mk k2 m3 lo4 hi5 p6 ps7)).bind fun v19 => some v19)))))))))
def C154_own (O : Oracle TT) (m : PT → Tp → Option (Int)) : Prop :=
  ∀ (l1 : PT) (k2 : Int) (m3 : BA) (lo4 : Int) (hi5 : Int) (p6 : BA) (ps7 : PT) (Q : Int → Prop) (R : RR) (_ : ∀ (v29 : Int), Q v29 → R (.c (.int .i64 v29)) []) (_ : sat (m l1 (Tp.mk k2 m3 lo4 hi5 p6 ps7)) Q), O 154 [.c (.isl .dfn l1), .agg [.int .i64 k2, .str m3, .int .i64 lo4, .int .i64 hi5, .str p6, .isl .part ps7]] [] R
def j154_own : Fn TT := ⟨73, [.t 4], (.seq (.reg [qo 3 (.box 3 1),qo 4 (.mv (iC 0))]) (.seq (.reg [qo 9 (.fa 3 0),qo 10 (.load 9 1 false),qo 11 (.call 11 165 [10]),qo 8 (.mv 11),qo 12 (.ext 8 0),qo 13 (.ext 8 1),qo 5 (.mv 12),qo 6 (.mv 13)]) (.seq (.block 0 (.seq (.reg [qo 15 (.fa 3 0),qo 16 (.load 15 1 false),qo 17 (.bin .lss .num 16 (iC 0)),qo 18 (.mv 17),qf 18 19 (.fa 3 0),
 qf 18 20 (.load 19 1 false),qf 18 21 (.bin .gtr .num 20 (iC 10)),qo 22 (.pick 18 bT 21),qo 23 (.mv 22),qf 23 24 (.load 3 6 true),qf 23 25 (.call 25 166 [24]),qo 26 (.pick 23 bT 25),qo 14 (.mv 26)]) (.cond 14 (.seq (.reg [qo 4 (.mv (iC 3))]) .ret) (.seq (.reg [qo 28 (.fa 3 2),qo 29 (.load 28 1 false),qo 30 (.mv 5),qo 31 (.bin .lss .num 29 30),qo 32 (.mv 31),qf 32 33 (.fa 3 2),
 qf 32 34 (.load 33 1 false),qf 32 35 (.fa 3 3),qf 32 36 (.load 35 1 false),qf 32 37 (.bin .gtr .num 34 36),qo 38 (.pick 32 bT 37),qo 39 (.mv 38),qf 39 40 (.fa 3 3),qf 39 41 (.load 40 1 false),qf 39 42 (.mv 6),qf 39 43 (.bin .gtr .num 41 42),qo 44 (.pick 39 bT 43),qo 27 (.mv 44)]) (.cond 27 (.seq (.reg [qo 4 (.mv (iC 11))]) .ret) (.seq (.reg [qo 46 (.fa 3 0),qo 47 (.load 46 1 false),
 qo 48 (.bin .eql .num 47 (iC 5)),qo 49 (.mv 48),qf 49 50 (.fa 3 0),qf 49 51 (.load 50 1 false),qf 49 52 (.bin .eql .num 51 (iC 9)),qo 53 (.pick 49 bT 52),qo 45 (.mv 53)]) (.cond 45 (.seq (.reg [qo 54 (.fa 3 4),qo 55 (.load 54 1 false),qo 56 (.call 56 160 [55]),qo 7 (.mv 56)]) (.seq (.reg [qo 57 (.mv 7),qo 58 (.bin .neq .num 57 (iC 0))]) (.cond 58 (.seq (.reg [qo 59 (.mv 7),
 qo 4 (.mv 59)]) .ret) .skip))) (.seq (.reg [qo 61 (.fa 3 0),qo 62 (.load 61 1 false),qo 63 (.bin .eql .num 62 (iC 10)),qo 64 (.mv 63),qg 64 65 (.mv 0),qg 64 66 (.fa 3 1),qg 64 67 (.load 66 1 false),qg 64 68 (.call 68 107 [65, 67]),qg 64 69 (.bin .lss .num 68 (iC 0)),qo 70 (.pick 64 69 bF),qo 60 (.mv 70)]) (.cond 60 (.seq (.reg [qo 4 (.mv (iC 15))]) .ret) .skip))))))))) (.seq
 (.reg [qo 71 (.load 3 6 true),qo 72 (.call 72 167 [71]),qo 4 (.mv 72)]) .ret))))⟩
theorem w154_own {O : Oracle TT} (fuel : Nat) (h160_Check : C160_Check O (f160_Check fuel)) (h107_find : C107_find O f107_find) (h165_bounds : C165_bounds O f165_bounds) (h166_unused : C166_unused O f166_unused) (h167_parts : C167_parts O f167_parts) : C154_own (fun _ => vcF (S := SS) O j154_own) (f154_own fuel) := by
 intro l1 k2 m3 lo4 hi5 p6 ps7 Q R hQ h
 unfold f154_own at h
 refine ⟨nle rfl, rfl, ?_⟩
 conv => whnf
 refine ⟨[], ?_⟩
 conv => whnf
 refine h165_bounds _ _ _ ?_ (sat_bind h)
 rintro v8 v9 h
 conv => whnf
 refine kc h (fun h => ?_) fun h => ?_
 conv => whnf
 refine kc h (fun h => ?_) fun h => ?_
 conv => whnf
 refine ⟨[], ?_⟩
 conv => whnf
 refine h166_unused _ _ _ _ _ _ _ _ ?_ (sat_bind h)
 rintro q12 h
 cases q12
 replace h := sat_cf h
 conv => whnf
 refine kc h (fun h => ?_) fun h => ?_
 conv => whnf
 refine kc h (fun h => ?_) fun h => ?_
 conv => whnf
 refine kc h (fun h => ?_) fun h => ?_
 conv => whnf
 refine kc h (fun h => ?_) fun h => ?_
 conv => whnf
 refine kc h (fun h => ?_) fun h => ?_
 conv => whnf
 refine kc h (fun h => ?_) fun h => ?_
 conv => whnf
 refine ⟨[], ?_⟩
 conv => whnf
 refine h167_parts _ _ _ _ _ _ _ _ ?_ (sat_bind h)
 rintro v19 h
 conv => whnf
 exact ⟨[], ND 0, hQ _ (sat_some h)⟩
 conv => whnf
 refine ⟨[], ?_⟩
 conv => whnf
 refine h107_find _ _ _ _ ?_ (sat_bind h)
 rintro v20 h
 conv => whnf
 refine kc h (fun h => ?_) fun h => ?_
 conv => whnf
 refine ⟨[], ?_⟩
 conv => whnf
 refine h167_parts _ _ _ _ _ _ _ _ ?_ (sat_bind h)
 rintro v22 h
 conv => whnf
 exact ⟨[], ND 0, hQ _ (sat_some h)⟩
 conv => whnf
 exact ⟨[], ND 0, hQ _ (sat_some h)⟩
 conv => whnf
 refine ⟨[], ?_⟩
 conv => whnf
 refine h160_Check _ _ _ ?_ (sat_bind h)
 rintro v23 h
 conv => whnf
 refine kc h (fun h => ?_) fun h => ?_
 conv => whnf
 refine ⟨[], ?_⟩
 conv => whnf
 refine h167_parts _ _ _ _ _ _ _ _ ?_ (sat_bind h)
 rintro v25 h
 conv => whnf
 exact ⟨[], ND 0, hQ _ (sat_some h)⟩
 conv => whnf
 exact ⟨[], ND 0, hQ _ (sat_some h)⟩
 conv => whnf
 refine ⟨[], ?_⟩
 conv => whnf
 refine h160_Check _ _ _ ?_ (sat_bind h)
 rintro v26 h
 conv => whnf
 refine kc h (fun h => ?_) fun h => ?_
 conv => whnf
 refine ⟨[], ?_⟩
 conv => whnf
 refine h167_parts _ _ _ _ _ _ _ _ ?_ (sat_bind h)
 rintro v28 h
 conv => whnf
 exact ⟨[], ND 0, hQ _ (sat_some h)⟩
 conv => whnf
 exact ⟨[], ND 0, hQ _ (sat_some h)⟩
 conv => whnf
 exact ⟨[], ND 0, hQ _ (sat_some h)⟩
 conv => whnf
 exact ⟨[], ND 0, hQ _ (sat_some h)⟩
 conv => whnf
 exact ⟨[], ND 0, hQ _ (sat_some h)⟩
 replace h := sat_ct h
 conv => whnf
 exact ⟨[], ND 0, hQ _ (sat_some h)⟩
 conv => whnf
 exact ⟨[], ND 0, hQ _ (sat_some h)⟩
 conv => whnf
 exact ⟨[], ND 0, hQ _ (sat_some h)⟩
theorem c154_own {P : Program} {fid : Nat → FuncId} (mx : MX P) (k154_own : KF P fid 154 j154_own) (h160_Check : ∀ n, C160_Check (SP P fid) (f160_Check n)) (h107_find : C107_find (SP P fid) f107_find) (h165_bounds : C165_bounds (SP P fid) f165_bounds) (h166_unused : C166_unused (SP P fid) f166_unused) (h167_parts : C167_parts (SP P fid) f167_parts) : ∀ n, C154_own (SP P fid) (f154_own n) :=
 fun n => fun a0 a1 a2 a3 a4 a5 a6 Q R hQ h => spec_of_vc mx k154_own (w154_own n (h160_Check n) h107_find h165_bounds h166_unused h167_parts a0 a1 a2 a3 a4 a5 a6 Q R hQ h)
def f135_node_L2 (self135_node : PT → Tp → Option (Int)) (l1 : PT) : PT → Nat → Option (Sum (Int) (Unit))
  | [], j56 => some (.inr ())
  | ((a61, .mk k62 m63 lo64 hi65 p66 ps67)) :: tl58, j56 => (self135_node l1 (Tp.mk k62 m63 lo64 hi65 p66 ps67)).bind fun v69 => cond (v69 != 0) (lft (some v69)) (f135_node_L2 self135_node l1 tl58 (j56 + 1))
def b135_node (fuel : Nat) (self135_node : PT → Tp → Option (Int)) : PT → Tp → Option (Int)
  | l1, .mk k2 m3 lo4 hi5 p6 ps7 => (f154_own fuel l1 (Tp.mk k2 m3 lo4 hi5 p6 ps7)).bind fun v8 => cond (v8 != 0) (some v8) (sbind (ο := Unit) (f135_node_L2 self135_node l1 ps7 0) (fun () => some 0))
def f135_node : Nat → PT → Tp → Option (Int)
  | 0 => fun _ _ => none
  | n + 1 => b135_node n (f135_node n)
def C135_node (O : Oracle TT) (m : PT → Tp → Option (Int)) : Prop :=
  ∀ (l1 : PT) (k2 : Int) (m3 : BA) (lo4 : Int) (hi5 : Int) (p6 : BA) (ps7 : PT) (Q : Int → Prop) (R : RR) (_ : ∀ (v71 : Int), Q v71 → R (.c (.int .i64 v71)) []) (_ : sat (m l1 (Tp.mk k2 m3 lo4 hi5 p6 ps7)) Q), O 135 [.c (.isl .dfn l1), .agg [.int .i64 k2, .str m3, .int .i64 lo4, .int .i64 hi5, .str p6, .isl .part ps7]] [] R
def j135_node : Fn TT := ⟨30, [.t 4], (.seq (.reg [qo 3 (.box 3 1),qo 4 (.mv (iC 0))]) (.seq (.seq (.reg [qo 9 (.mv 0),qo 10 (.load 3 6 true),qo 11 (.call 11 154 [9, 10]),qo 5 (.mv 11)]) (.seq (.reg [qo 12 (.mv 5),qo 13 (.bin .neq .num 12 (iC 0))]) (.cond 13 (.seq (.reg [qo 14 (.mv 5),qo 4 (.mv 14)]) .ret) .skip))) (.cut [] [] (.seq (.reg [qo 15 (.fa 3 5),qo 16 (.load 15 1 false),
 qo 17 (.len false 16),qo 18 (.mv (iC 0))]) (.block 0 (.loop (.keep [0, 16, 17, 18] [] (.aft (.seq (.reg [qo 19 (.bin .lss .num 18 17)]) (.seq (.cond 19 .skip (.exit 0)) (.seq (.block 1 (.seq (.reg [qo 20 (.idxA 16 18 7),qo 21 (.load 20 7 true),qo 7 (.alloc 7 [.str (⟨#[]⟩ : BA), .int .i64 0, .str (⟨#[]⟩ : BA), .int .i64 0, .int .i64 0, .str (⟨#[]⟩ : BA), .isl .part []]),
 qp (.store 7 21 7)]) (.seq (.reg [qo 22 (.mv 0),qo 23 (.fa 7 1),qo 24 (.load 23 6 true),qo 25 (.call 25 135 [22, 24]),qo 8 (.mv 25)]) (.seq (.reg [qo 26 (.mv 8),qo 27 (.bin .neq .num 26 (iC 0))]) (.cond 27 (.seq (.reg [qo 28 (.mv 8),qo 4 (.mv 28)]) .ret) .skip))))) (.reg [qo 29 (.bin .add .num 18 (iC 1)),qo 18 (.mv 29)])))) [.keep [0, 16, 17, 18] []]))))) (.seq (.reg [qo 4 (.mv (iC 0))])
 .ret))))⟩
theorem w135_node {O : Oracle TT} (fuel : Nat) (self135_node : PT → Tp → Option (Int)) (h135_node : C135_node O self135_node) (h154_own : C154_own O (f154_own fuel)) : C135_node (fun _ => vcF (S := SS) O j135_node) (b135_node fuel self135_node) := by
 intro l1 k2 m3 lo4 hi5 p6 ps7 Q R hQ h
 unfold b135_node at h
 refine ⟨nle rfl, rfl, ?_⟩
 conv => whnf
 refine ⟨[], ?_⟩
 conv => whnf
 refine h154_own _ _ _ _ _ _ _ _ _ ?_ (sat_bind h)
 rintro v8 h
 conv => whnf
 refine kc h (fun h => ?_) fun h => ?_
 obtain ⟨R40, h, hlR40, hrR40⟩ := sat_sbind h
 conv => whnf
 refine ⟨fun σ => R40 (.inr ()) ∧ σ = ⟨[], []⟩, ?_, ?_⟩
 conv => whnf
 intro hl41
 conv => whnf
 refine ⟨fun σ n => ∃ (rem57 : PT) (j56 : Nat) (z : Int), n = rem57.length ∧ ps7.drop j56 = rem57 ∧ z = ((j56 : Nat) : Int) ∧ sat (f135_node_L2 self135_node l1 rem57 j56) R40 ∧ σ.keep [0, 16, 17, 18] [] = ⟨[(0, .c (.isl .dfn l1)), (16, .c (.isl .part ps7)), (17, .c (.int .i64 ((ps7.length : Nat) : Int))), (18, .c (.int .i64 z))], []⟩, ⟨_, ps7, 0, _, rfl, rfl, rfl, h, rfl⟩, ?_⟩
 rintro σ n ⟨rem57, j56, _, rfl, hrem57, rfl, h, hσ⟩
 refine kk hσ ?_
 conv => whnf
 intro t60 (ht60 : t60 = decide (((j56 : Nat) : Int) < ((ps7.length : Nat) : Int)))
 cases t60
 obtain rfl := ll_nil hrem57 ht60
 rw [f135_node_L2] at h
 conv => whnf
 exact ⟨sat_some h, rfl⟩
 obtain ⟨x59, tl58, rfl, hx59, htl58⟩ := ll_cons hrem57 ht60
 obtain ⟨a61, ⟨k62, m63, lo64, hi65, p66, ps67⟩⟩ := x59
 rw [f135_node_L2] at h
 conv => whnf
 refine ⟨lx_bd hx59, fun uu68 huu68 => ?_⟩
 obtain rfl := lx_eq hx59 huu68
 conv => whnf
 refine ⟨[], ?_⟩
 conv => whnf
 refine h135_node _ _ _ _ _ _ _ _ _ ?_ (sat_bind h)
 rintro v69 h
 conv => whnf
 refine kc h (fun h => ?_) fun h => ?_
 conv => whnf
 exact ⟨tl58.length, nls, tl58, j56 + 1, _, rfl, htl58, lx_wr hx59 hl41, h, rfl⟩
 replace h := sat_lft hlR40 h
 conv => whnf
 exact ⟨[], ND 0, hQ _ (sat_some h)⟩
 rintro _ ⟨h, rfl⟩
 replace h := hrR40 _ h
 conv => whnf
 exact ⟨[], ND 0, hQ _ (sat_some h)⟩
 conv => whnf
 exact ⟨[], ND 0, hQ _ (sat_some h)⟩
theorem cg135_node {P : Program} {fid : Nat → FuncId} (mx : MX P) (k135_node : KF P fid 135 j135_node) (h154_own : ∀ n, C154_own (SP P fid) (f154_own n)) : ∀ n, C135_node (SP P fid) (f135_node n) := by
 intro n
 induction n with
 | zero => exact fun a0 a1 a2 a3 a4 a5 a6 Q R hQ h => (sat_none h).elim
 | succ n ih =>
  have ih0 := ih
  exact fun a0 a1 a2 a3 a4 a5 a6 Q R hQ h => spec_of_vc mx k135_node (w135_node n (f135_node n) ih0 (h154_own n) a0 a1 a2 a3 a4 a5 a6 Q R hQ h)
theorem c135_node {P : Program} {fid : Nat → FuncId} (mx : MX P) (k135_node : KF P fid 135 j135_node) (h154_own : ∀ n, C154_own (SP P fid) (f154_own n)) : ∀ n, C135_node (SP P fid) (f135_node n) := fun n => (cg135_node mx k135_node h154_own n)
def f106_right (fuel : Nat) : PT → Tp → Option (Int)
  | l1, .mk k2 m3 lo4 hi5 p6 ps7 => (f133_Size fuel (Tp.mk k2 m3 lo4 hi5 p6 ps7)).bind fun v8 => cond (decide (v8 > 200)) (some 2) ((f134_Deep fuel (Tp.mk k2 m3 lo4 hi5 p6 ps7)).bind fun v10 => cond (decide (v10 > 40)) (some 2) ((f135_node fuel l1 (Tp.mk k2 m3 lo4 hi5 p6 ps7)).bind fun v12 => some v12))
def C106_right (O : Oracle TT) (m : PT → Tp → Option (Int)) : Prop :=
  ∀ (l1 : PT) (k2 : Int) (m3 : BA) (lo4 : Int) (hi5 : Int) (p6 : BA) (ps7 : PT) (Q : Int → Prop) (R : RR) (_ : ∀ (v13 : Int), Q v13 → R (.c (.int .i64 v13)) []) (_ : sat (m l1 (Tp.mk k2 m3 lo4 hi5 p6 ps7)) Q), O 106 [.c (.isl .dfn l1), .agg [.int .i64 k2, .str m3, .int .i64 lo4, .int .i64 hi5, .str p6, .isl .part ps7]] [] R
def j106_right : Fn TT := ⟨16, [.t 4], (.seq (.reg [qo 3 (.box 3 1),qo 4 (.mv (iC 0))]) (.seq (.seq (.reg [qo 5 (.load 3 6 true),qo 6 (.call 6 133 [5]),qo 7 (.bin .gtr .num 6 (iC 200)),qo 8 (.mv 7),qf 8 9 (.load 3 6 true),qf 8 10 (.call 10 134 [9]),qf 8 11 (.bin .gtr .num 10 (iC 40)),qo 12 (.pick 8 bT 11)]) (.cond 12 (.seq (.reg [qo 4 (.mv (iC 2))]) .ret) .skip)) (.seq
 (.reg [qo 13 (.mv 0),qo 14 (.load 3 6 true),qo 15 (.call 15 135 [13, 14]),qo 4 (.mv 15)]) .ret)))⟩
theorem w106_right {O : Oracle TT} (fuel : Nat) (h133_Size : C133_Size O (f133_Size fuel)) (h134_Deep : C134_Deep O (f134_Deep fuel)) (h135_node : C135_node O (f135_node fuel)) : C106_right (fun _ => vcF (S := SS) O j106_right) (f106_right fuel) := by
 intro l1 k2 m3 lo4 hi5 p6 ps7 Q R hQ h
 unfold f106_right at h
 refine ⟨nle rfl, rfl, ?_⟩
 conv => whnf
 refine ⟨[], ?_⟩
 conv => whnf
 refine h133_Size _ _ _ _ _ _ _ _ ?_ (sat_bind h)
 rintro v8 h
 conv => whnf
 refine kc h (fun h => ?_) fun h => ?_
 conv => whnf
 refine ⟨[], ?_⟩
 conv => whnf
 refine h134_Deep _ _ _ _ _ _ _ _ ?_ (sat_bind h)
 rintro v10 h
 conv => whnf
 refine kc h (fun h => ?_) fun h => ?_
 conv => whnf
 refine ⟨[], ?_⟩
 conv => whnf
 refine h135_node _ _ _ _ _ _ _ _ _ ?_ (sat_bind h)
 rintro v12 h
 conv => whnf
 exact ⟨[], ND 0, hQ _ (sat_some h)⟩
 conv => whnf
 exact ⟨[], ND 0, hQ _ (sat_some h)⟩
 conv => whnf
 exact ⟨[], ND 0, hQ _ (sat_some h)⟩
theorem c106_right {P : Program} {fid : Nat → FuncId} (mx : MX P) (k106_right : KF P fid 106 j106_right) (h133_Size : ∀ n, C133_Size (SP P fid) (f133_Size n)) (h134_Deep : ∀ n, C134_Deep (SP P fid) (f134_Deep n)) (h135_node : ∀ n, C135_node (SP P fid) (f135_node n)) : ∀ n, C106_right (SP P fid) (f106_right n) :=
 fun n => fun a0 a1 a2 a3 a4 a5 a6 Q R hQ h => spec_of_vc mx k106_right (w106_right n (h133_Size n) (h134_Deep n) (h135_node n) a0 a1 a2 a3 a4 a5 a6 Q R hQ h)
def f84_resolve_L2 (l1 : PT) : Nat → Int → Int → BA → Int → Int → BA → PT → Option (Sum (Tp × Int) (Unit))
  | 0, v75, v79, s80, v81, v82, s83, l84 => some (.inr ())
  | g77 + 1, v75, v79, s80, v81, v82, s83, l84 => cond (v79 != 10) (lft (some ((Tp.mk v79 s80 v81 v82 s83 l84), 0))) ((f107_find l1 s80).bind fun v87 => cond (decide (v87 < 0)) (lft (some ((Tp.mk 0 (⟨#[]⟩ : BA) 0 0 (⟨#[]⟩ : BA) []), 15))) (getL l1 v87 fun uu96 => match uu96 with | (a89, .mk k90 m91 lo92 hi93 p94 ps95) => f84_resolve_L2 l1 g77 (v75 + 1) k90 m91 lo92 hi93 p94 ps95))
def f84_resolve : PT → Tp → Option (Tp × Int)
  | l1, .mk k2 m3 lo4 hi5 p6 ps7 => sbind (ο := Unit) (grdP ((wrap .i64 (((l1.length : Nat) : Int) + 1)) ≤ 9223372036854775807) (f84_resolve_L2 l1 ((wrap .i64 (((l1.length : Nat) : Int) + 1)) - 0).toNat 0 k2 m3 lo4 hi5 p6 ps7)) (fun () => some ((Tp.mk 0 (⟨#[]⟩ : BA) 0 0 (⟨#[]⟩ : BA) []), 10))
def C84_resolve (O : Oracle TT) (m : PT → Tp → Option (Tp × Int)) : Prop :=
  ∀ (l1 : PT) (k2 : Int) (m3 : BA) (lo4 : Int) (hi5 : Int) (p6 : BA) (ps7 : PT) (Q : (Tp × Int) → Prop) (R : RR) (_ : ∀ (k97 : Int) (m98 : BA) (lo99 : Int) (hi100 : Int) (p101 : BA) (ps102 : PT) (v103 : Int), Q ((Tp.mk k97 m98 lo99 hi100 p101 ps102), v103) → R (.tup [.agg [.int .i64 k97, .str m98, .int .i64 lo99, .int .i64 hi100, .str p101, .isl .part ps102], .c (.int .i64 v103)]) []) (_ : sat (m l1 (Tp.mk k2 m3 lo4 hi5 p6 ps7)) Q), O 84 [.c (.isl .dfn l1), .agg [.int .i64 k2, .str m3, .int .i64 lo4, .int .i64 hi5, .str p6, .isl .part ps7]] [] R
def j84_resolve : Fn TT := ⟨30, [.cell 4 6 true, .t 5], (.seq (.reg [qo 3 (.box 3 1),qo 4 (.alloc 4 [.int .i64 0, .str (⟨#[]⟩ : BA), .int .i64 0, .int .i64 0, .str (⟨#[]⟩ : BA), .isl .part []]),qo 5 (.mv (iC 0))]) (.cut [4] [(.s 4)] (.seq (.reg [qo 7 (.mv 0),qo 8 (.len false 7),qo 9 (.bin .add .num 8 (iC 1)),qo 10 (.mv (iC 0))]) (.block 0
 (.loop (.keep [0, 3, 4, 9, 10] [(.s 3), (.s 4)] (.aft (.seq (.reg [qo 11 (.bin .lss .num 10 9)]) (.seq (.cond 11 .skip (.exit 0)) (.seq (.block 1 (.seq (.seq (.reg [qo 12 (.fa 3 0),qo 13 (.load 12 1 false),qo 14 (.bin .neq .num 13 (iC 10))]) (.cond 14 (.seq (.reg [qo 15 (.load 3 6 true),qp (.store 4 15 6),qo 5 (.mv (iC 0))]) .ret) .skip)) (.seq (.reg [qo 16 (.mv 0),qo 17 (.fa 3 1),
 qo 18 (.load 17 1 false),qo 19 (.call 19 107 [16, 18]),qo 6 (.mv 19)]) (.seq (.seq (.reg [qo 20 (.mv 6),qo 21 (.bin .lss .num 20 (iC 0))]) (.cond 21 (.seq (.reg [qo 22 (.build [.int .i64 0, .str (⟨#[]⟩ : BA), .int .i64 0, .int .i64 0, .str (⟨#[]⟩ : BA), .isl .part []] []),qp (.store 4 22 6),qo 5 (.mv (iC 15))]) .ret) .skip)) (.reg [qo 23 (.mv 0),qo 24 (.mv 6),
 qo 25 (.idxA 23 24 7),qo 26 (.fa 25 1),qo 27 (.load 26 6 true),qp (.store 3 27 6)]))))) (.reg [qo 28 (.bin .add .num 10 (iC 1)),qo 10 (.mv 28)])))) [.keep [0, 3, 4, 9, 10] [(.s 3), (.s 4)]]))))) (.seq (.reg [qo 29 (.build [.int .i64 0, .str (⟨#[]⟩ : BA), .int .i64 0, .int .i64 0, .str (⟨#[]⟩ : BA), .isl .part []] []),qp (.store 4 29 6),qo 5 (.mv (iC 10))]) .ret)))⟩
theorem w84_resolve {O : Oracle TT} (h107_find : C107_find O f107_find) : C84_resolve (fun _ => vcF (S := SS) O j84_resolve) f84_resolve := by
 intro l1 k2 m3 lo4 hi5 p6 ps7 Q R hQ h
 unfold f84_resolve at h
 refine ⟨nle rfl, rfl, ?_⟩
 obtain ⟨R52, h, hlR52, hrR52⟩ := sat_sbind h
 conv => whnf
 refine ⟨fun σ => R52 (.inr ()) ∧ σ = ⟨[(4, .c (.ptr (.s 4) 0 0))], [((.s 4), some (.var [.int .i64 0, .str (⟨#[]⟩ : BA), .int .i64 0, .int .i64 0, .str (⟨#[]⟩ : BA), .isl .part []]))]⟩, ?_, ?_⟩
 conv => whnf
 intro hl53
 obtain ⟨hN78, h⟩ := sat_grdP h
 conv => whnf
 refine ⟨fun σ n => ∃ (f76 : Nat) (v75 : Int) (z : Int) (v79 : Int) (s80 : BA) (v81 : Int) (v82 : Int) (s83 : BA) (l84 : PT), f76 = n ∧ f76 = ((wrap .i64 (((l1.length : Nat) : Int) + 1)) - v75).toNat ∧ 0 ≤ v75 ∧ v75 = z ∧ sat (f84_resolve_L2 l1 f76 v75 v79 s80 v81 v82 s83 l84) R52 ∧ σ.keep [0, 3, 4, 9, 10] [(.s 3), (.s 4)] = ⟨[(0, .c (.isl .dfn l1)), (3, .c (.ptr (.s 3) 0 0)), (4, .c (.ptr (.s 4) 0 0)), (9, .c (.int .i64 (wrap .i64 (((l1.length : Nat) : Int) + 1)))), (10, .c (.int .i64 z))], [((.s 3), some (.var [.int .i64 v79, .str s80, .int .i64 v81, .int .i64 v82, .str s83, .isl .part l84])), ((.s 4), some (.var [.int .i64 0, .str (⟨#[]⟩ : BA), .int .i64 0, .int .i64 0, .str (⟨#[]⟩ : BA), .isl .part []]))]⟩, ⟨_, _, 0, _, k2, m3, lo4, hi5, p6, ps7, rfl, rfl, (by decide), rfl, h, rfl⟩, ?_⟩
 rintro σ n ⟨f76, v75, _, v79, s80, v81, v82, s83, l84, rfl, hf76, hpf76, rfl, h, hσ⟩
 refine kk hσ ?_
 conv => whnf
 intro t85 (ht85 : t85 = decide (v75 < (wrap .i64 (((l1.length : Nat) : Int) + 1))))
 cases t85
 obtain rfl := il_nil hf76 ht85
 rw [f84_resolve_L2] at h
 conv => whnf
 exact ⟨sat_some h, rfl⟩
 obtain ⟨g77, rfl, hwg77, hpg77, hfg77⟩ := il_cons hf76 hpf76 ht85 hN78
 rw [f84_resolve_L2] at h
 conv => whnf
 refine kc h (fun h => ?_) fun h => ?_
 conv => whnf
 refine ⟨[], ?_⟩
 conv => whnf
 refine h107_find _ _ _ _ ?_ (sat_bind h)
 rintro v87 h
 conv => whnf
 refine kc h (fun h => ?_) fun h => ?_
 conv => whnf
 refine kg (sat_getL h) fun uu96 huu96 h => ?_
 obtain ⟨a89, ⟨k90, m91, lo92, hi93, p94, ps95⟩⟩ := uu96
 conv => whnf
 exact ⟨g77, nls, g77, v75 + 1, _, k90, m91, lo92, hi93, p94, ps95, rfl, hfg77, hpg77, hwg77.symm, h, rfl⟩
 replace h := sat_lft hlR52 h
 conv => whnf
 exact ⟨[], ND 0, hQ _ _ _ _ _ _ _ (sat_some h)⟩
 replace h := sat_lft hlR52 h
 conv => whnf
 exact ⟨[], ND 0, hQ _ _ _ _ _ _ _ (sat_some h)⟩
 rintro _ ⟨h, rfl⟩
 replace h := hrR52 _ h
 conv => whnf
 exact ⟨[], ND 0, hQ _ _ _ _ _ _ _ (sat_some h)⟩
theorem c84_resolve {P : Program} {fid : Nat → FuncId} (mx : MX P) (k84_resolve : KF P fid 84 j84_resolve) (h107_find : C107_find (SP P fid) f107_find) : C84_resolve (SP P fid) f84_resolve :=
 fun a0 a1 a2 a3 a4 a5 a6 Q R hQ h => spec_of_vc mx k84_resolve (w84_resolve h107_find a0 a1 a2 a3 a4 a5 a6 Q R hQ h)
def f105_Check_L2 (l1 : PT) : PT → Nat → Option (Sum (Int) (Unit))
  | [], j53 => some (.inr ())
  | ((a58, .mk k59 m60 lo61 hi62 p63 ps64)) :: tl55, j53 => (f132_Name a58).bind fun q66 => cond q66 ((f107_find l1 a58).bind fun v67 => cond (decide (v67 < ((j53 : Nat) : Int))) (lft (some 5)) (f105_Check_L2 l1 tl55 (j53 + 1))) (lft (some 15))
def f105_Check_L4 (fuel : Nat) (l1 : PT) : PT → Nat → Option (Sum (Int) (Unit))
  | [], j115 => some (.inr ())
  | ((a120, .mk k121 m122 lo123 hi124 p125 ps126)) :: tl117, j115 => (f106_right fuel l1 (Tp.mk k121 m122 lo123 hi124 p125 ps126)).bind fun v128 => cond (v128 != 0) (lft (some v128)) (f105_Check_L4 fuel l1 tl117 (j115 + 1))
def f105_Check_L6 (l1 : PT) : PT → Nat → Option (Sum (Int) (Unit))
  | [], j194 => some (.inr ())
  | ((a199, .mk k200 m201 lo202 hi203 p204 ps205)) :: tl196, j194 => (f84_resolve l1 (Tp.mk k200 m201 lo202 hi203 p204 ps205)).bind fun ((.mk k207 m208 lo209 hi210 p211 ps212), v213) => cond (v213 != 0) (lft (some v213)) (f105_Check_L6 l1 tl196 (j194 + 1))
def f105_Check (fuel : Nat) : PT → Option (Int)
  | l1 => cond (decide (((l1.length : Nat) : Int) > 24)) (some 2) (sbind (ο := Unit) (f105_Check_L2 l1 l1 0) (fun () => sbind (ο := Unit) (f105_Check_L4 fuel l1 l1 0) (fun () => sbind (ο := Unit) (f105_Check_L6 l1 l1 0) (fun () => some 0))))
def C105_Check (O : Oracle TT) (m : PT → Option (Int)) : Prop :=
  ∀ (l1 : PT) (Q : Int → Prop) (R : RR) (_ : ∀ (v215 : Int), Q v215 → R (.c (.int .i64 v215)) []) (_ : sat (m l1) Q), O 105 [.c (.isl .dfn l1)] [] R
def j105_Check : Fn TT := ⟨64, [.t 2], (.seq (.reg [qo 2 (.mv (iC 0))]) (.seq (.seq (.reg [qo 12 (.mv 0),qo 13 (.len false 12),qo 14 (.bin .gtr .num 13 (iC 24))]) (.cond 14 (.seq (.reg [qo 2 (.mv (iC 2))]) .ret) .skip)) (.cut [0] [] (.seq (.reg [qo 15 (.mv 0),qo 16 (.len false 15),qo 17 (.mv (iC 0))]) (.block 0 (.loop (.keep [0, 15, 16, 17] [] (.aft (.seq (.reg [qo 18 (.bin .lss .num 17 16)])
 (.seq (.cond 18 .skip (.exit 0)) (.seq (.block 1 (.seq (.reg [qo 19 (.mv 17),qo 20 (.idxA 15 17 7),qo 21 (.load 20 7 true),qo 4 (.alloc 4 [.str (⟨#[]⟩ : BA), .int .i64 0, .str (⟨#[]⟩ : BA), .int .i64 0, .int .i64 0, .str (⟨#[]⟩ : BA), .isl .part []]),qo 3 (.mv 19),qp (.store 4 21 7)]) (.seq (.seq (.reg [qo 22 (.fa 4 0),qo 23 (.load 22 1 false),qo 24 (.call 24 132 [23]),
 qo 25 (.un .not 24)]) (.cond 25 (.seq (.reg [qo 2 (.mv (iC 15))]) .ret) .skip)) (.seq (.reg [qo 26 (.mv 0),qo 27 (.fa 4 0),qo 28 (.load 27 1 false),qo 29 (.call 29 107 [26, 28]),qo 30 (.mv 3),qo 31 (.bin .lss .num 29 30)]) (.cond 31 (.seq (.reg [qo 2 (.mv (iC 5))]) .ret) .skip))))) (.reg [qo 32 (.bin .add .num 17 (iC 1)),qo 17 (.mv 32)])))) [.keep [0, 15, 16, 17] []]))))) (.cut [0] [] (.seq
 (.reg [qo 33 (.mv 0),qo 34 (.len false 33),qo 35 (.mv (iC 0))]) (.block 2 (.loop (.keep [0, 33, 34, 35] [] (.aft (.seq (.reg [qo 36 (.bin .lss .num 35 34)]) (.seq (.cond 36 .skip (.exit 2)) (.seq (.block 3 (.seq (.reg [qo 37 (.idxA 33 35 7),qo 38 (.load 37 7 true),
 qo 6 (.alloc 6 [.str (⟨#[]⟩ : BA), .int .i64 0, .str (⟨#[]⟩ : BA), .int .i64 0, .int .i64 0, .str (⟨#[]⟩ : BA), .isl .part []]),qp (.store 6 38 7)]) (.seq (.reg [qo 39 (.mv 0),qo 40 (.fa 6 1),qo 41 (.load 40 6 true),qo 42 (.call 42 106 [39, 41]),qo 7 (.mv 42)]) (.seq (.reg [qo 43 (.mv 7),qo 44 (.bin .neq .num 43 (iC 0))]) (.cond 44 (.seq (.reg [qo 45 (.mv 7),
 qo 2 (.mv 45)]) .ret) .skip))))) (.reg [qo 46 (.bin .add .num 35 (iC 1)),qo 35 (.mv 46)])))) [.keep [0, 33, 34, 35] []]))))) (.cut [] [] (.seq (.reg [qo 47 (.mv 0),qo 48 (.len false 47),qo 49 (.mv (iC 0))]) (.block 4 (.loop (.keep [0, 47, 48, 49] [] (.aft (.seq (.reg [qo 50 (.bin .lss .num 49 48)]) (.seq (.cond 50 .skip (.exit 4)) (.seq (.block 5 (.seq (.reg [qo 51 (.idxA 47 49 7),
 qo 52 (.load 51 7 true),qo 9 (.alloc 9 [.str (⟨#[]⟩ : BA), .int .i64 0, .str (⟨#[]⟩ : BA), .int .i64 0, .int .i64 0, .str (⟨#[]⟩ : BA), .isl .part []]),qp (.store 9 52 7)]) (.seq (.reg [qo 54 (.mv 0),qo 55 (.fa 9 1),qo 56 (.load 55 6 true),qo 57 (.call 57 84 [54, 56]),qo 53 (.mv 57),qo 58 (.ext 53 0),qo 59 (.ext 53 1),
 qo 10 (.alloc 10 [.int .i64 0, .str (⟨#[]⟩ : BA), .int .i64 0, .int .i64 0, .str (⟨#[]⟩ : BA), .isl .part []]),qp (.store 10 58 6),qo 11 (.mv 59)]) (.seq (.reg [qo 60 (.mv 11),qo 61 (.bin .neq .num 60 (iC 0))]) (.cond 61 (.seq (.reg [qo 62 (.mv 11),qo 2 (.mv 62)]) .ret) .skip))))) (.reg [qo 63 (.bin .add .num 49 (iC 1)),qo 49 (.mv 63)])))) [.keep [0, 47, 48, 49] []]))))) (.seq
 (.reg [qo 2 (.mv (iC 0))]) .ret))))))⟩
theorem w105_Check {O : Oracle TT} (fuel : Nat) (h132_Name : C132_Name O f132_Name) (h107_find : C107_find O f107_find) (h106_right : C106_right O (f106_right fuel)) (h84_resolve : C84_resolve O f84_resolve) : C105_Check (fun _ => vcF (S := SS) O j105_Check) (f105_Check fuel) := by
 intro l1 Q R hQ h
 unfold f105_Check at h
 refine ⟨nle rfl, rfl, ?_⟩
 conv => whnf
 intro hl2
 conv => whnf
 refine kc h (fun h => ?_) fun h => ?_
 obtain ⟨R36, h, hlR36, hrR36⟩ := sat_sbind h
 conv => whnf
 refine ⟨fun σ => R36 (.inr ()) ∧ σ = ⟨[(0, .c (.isl .dfn l1))], []⟩, ?_, ?_⟩
 conv => whnf
 intro hl37
 conv => whnf
 refine ⟨fun σ n => ∃ (rem54 : PT) (j53 : Nat) (z : Int), n = rem54.length ∧ l1.drop j53 = rem54 ∧ z = ((j53 : Nat) : Int) ∧ sat (f105_Check_L2 l1 rem54 j53) R36 ∧ σ.keep [0, 15, 16, 17] [] = ⟨[(0, .c (.isl .dfn l1)), (15, .c (.isl .dfn l1)), (16, .c (.int .i64 ((l1.length : Nat) : Int))), (17, .c (.int .i64 z))], []⟩, ⟨_, l1, 0, _, rfl, rfl, rfl, h, rfl⟩, ?_⟩
 rintro σ n ⟨rem54, j53, _, rfl, hrem54, rfl, h, hσ⟩
 refine kk hσ ?_
 conv => whnf
 intro t57 (ht57 : t57 = decide (((j53 : Nat) : Int) < ((l1.length : Nat) : Int)))
 cases t57
 obtain rfl := ll_nil hrem54 ht57
 rw [f105_Check_L2] at h
 conv => whnf
 exact ⟨sat_some h, rfl⟩
 obtain ⟨x56, tl55, rfl, hx56, htl55⟩ := ll_cons hrem54 ht57
 obtain ⟨a58, ⟨k59, m60, lo61, hi62, p63, ps64⟩⟩ := x56
 rw [f105_Check_L2] at h
 conv => whnf
 refine ⟨lx_bd hx56, fun uu65 huu65 => ?_⟩
 obtain rfl := lx_eq hx56 huu65
 conv => whnf
 refine ⟨[], ?_⟩
 conv => whnf
 refine h132_Name _ _ _ ?_ (sat_bind h)
 rintro q66 h
 cases q66
 replace h := sat_cf h
 replace h := sat_lft hlR36 h
 conv => whnf
 exact ⟨[], ND 0, hQ _ (sat_some h)⟩
 replace h := sat_ct h
 conv => whnf
 refine ⟨[], ?_⟩
 conv => whnf
 refine h107_find _ _ _ _ ?_ (sat_bind h)
 rintro v67 h
 conv => whnf
 refine kc h (fun h => ?_) fun h => ?_
 conv => whnf
 exact ⟨tl55.length, nls, tl55, j53 + 1, _, rfl, htl55, lx_wr hx56 hl37, h, rfl⟩
 replace h := sat_lft hlR36 h
 conv => whnf
 exact ⟨[], ND 0, hQ _ (sat_some h)⟩
 rintro _ ⟨h, rfl⟩
 replace h := hrR36 _ h
 obtain ⟨R99, h, hlR99, hrR99⟩ := sat_sbind h
 conv => whnf
 refine ⟨fun σ => R99 (.inr ()) ∧ σ = ⟨[(0, .c (.isl .dfn l1))], []⟩, ?_, ?_⟩
 conv => whnf
 intro hl100
 conv => whnf
 refine ⟨fun σ n => ∃ (rem116 : PT) (j115 : Nat) (z : Int), n = rem116.length ∧ l1.drop j115 = rem116 ∧ z = ((j115 : Nat) : Int) ∧ sat (f105_Check_L4 fuel l1 rem116 j115) R99 ∧ σ.keep [0, 33, 34, 35] [] = ⟨[(0, .c (.isl .dfn l1)), (33, .c (.isl .dfn l1)), (34, .c (.int .i64 ((l1.length : Nat) : Int))), (35, .c (.int .i64 z))], []⟩, ⟨_, l1, 0, _, rfl, rfl, rfl, h, rfl⟩, ?_⟩
 rintro σ n ⟨rem116, j115, _, rfl, hrem116, rfl, h, hσ⟩
 refine kk hσ ?_
 conv => whnf
 intro t119 (ht119 : t119 = decide (((j115 : Nat) : Int) < ((l1.length : Nat) : Int)))
 cases t119
 obtain rfl := ll_nil hrem116 ht119
 rw [f105_Check_L4] at h
 conv => whnf
 exact ⟨sat_some h, rfl⟩
 obtain ⟨x118, tl117, rfl, hx118, htl117⟩ := ll_cons hrem116 ht119
 obtain ⟨a120, ⟨k121, m122, lo123, hi124, p125, ps126⟩⟩ := x118
 rw [f105_Check_L4] at h
 conv => whnf
 refine ⟨lx_bd hx118, fun uu127 huu127 => ?_⟩
 obtain rfl := lx_eq hx118 huu127
 conv => whnf
 refine ⟨[], ?_⟩
 conv => whnf
 refine h106_right _ _ _ _ _ _ _ _ _ ?_ (sat_bind h)
 rintro v128 h
 conv => whnf
 refine kc h (fun h => ?_) fun h => ?_
 conv => whnf
 exact ⟨tl117.length, nls, tl117, j115 + 1, _, rfl, htl117, lx_wr hx118 hl100, h, rfl⟩
 replace h := sat_lft hlR99 h
 conv => whnf
 exact ⟨[], ND 0, hQ _ (sat_some h)⟩
 rintro _ ⟨h, rfl⟩
 replace h := hrR99 _ h
 obtain ⟨R172, h, hlR172, hrR172⟩ := sat_sbind h
 conv => whnf
 refine ⟨fun σ => R172 (.inr ()) ∧ σ = ⟨[], []⟩, ?_, ?_⟩
 conv => whnf
 intro hl173
 conv => whnf
 refine ⟨fun σ n => ∃ (rem195 : PT) (j194 : Nat) (z : Int), n = rem195.length ∧ l1.drop j194 = rem195 ∧ z = ((j194 : Nat) : Int) ∧ sat (f105_Check_L6 l1 rem195 j194) R172 ∧ σ.keep [0, 47, 48, 49] [] = ⟨[(0, .c (.isl .dfn l1)), (47, .c (.isl .dfn l1)), (48, .c (.int .i64 ((l1.length : Nat) : Int))), (49, .c (.int .i64 z))], []⟩, ⟨_, l1, 0, _, rfl, rfl, rfl, h, rfl⟩, ?_⟩
 rintro σ n ⟨rem195, j194, _, rfl, hrem195, rfl, h, hσ⟩
 refine kk hσ ?_
 conv => whnf
 intro t198 (ht198 : t198 = decide (((j194 : Nat) : Int) < ((l1.length : Nat) : Int)))
 cases t198
 obtain rfl := ll_nil hrem195 ht198
 rw [f105_Check_L6] at h
 conv => whnf
 exact ⟨sat_some h, rfl⟩
 obtain ⟨x197, tl196, rfl, hx197, htl196⟩ := ll_cons hrem195 ht198
 obtain ⟨a199, ⟨k200, m201, lo202, hi203, p204, ps205⟩⟩ := x197
 rw [f105_Check_L6] at h
 conv => whnf
 refine ⟨lx_bd hx197, fun uu206 huu206 => ?_⟩
 obtain rfl := lx_eq hx197 huu206
 conv => whnf
 refine ⟨[], ?_⟩
 conv => whnf
 refine h84_resolve _ _ _ _ _ _ _ _ _ ?_ (sat_bind h)
 rintro k207 m208 lo209 hi210 p211 ps212 v213 h
 conv => whnf
 refine kc h (fun h => ?_) fun h => ?_
 conv => whnf
 exact ⟨tl196.length, nls, tl196, j194 + 1, _, rfl, htl196, lx_wr hx197 hl173, h, rfl⟩
 replace h := sat_lft hlR172 h
 conv => whnf
 exact ⟨[], ND 0, hQ _ (sat_some h)⟩
 rintro _ ⟨h, rfl⟩
 replace h := hrR172 _ h
 conv => whnf
 exact ⟨[], ND 0, hQ _ (sat_some h)⟩
 conv => whnf
 exact ⟨[], ND 0, hQ _ (sat_some h)⟩
theorem c105_Check {P : Program} {fid : Nat → FuncId} (mx : MX P) (k105_Check : KF P fid 105 j105_Check) (h132_Name : C132_Name (SP P fid) f132_Name) (h107_find : C107_find (SP P fid) f107_find) (h106_right : ∀ n, C106_right (SP P fid) (f106_right n)) (h84_resolve : C84_resolve (SP P fid) f84_resolve) : ∀ n, C105_Check (SP P fid) (f105_Check n) :=
 fun n => fun a0 Q R hQ h => spec_of_vc mx k105_Check (w105_Check n h132_Name h107_find (h106_right n) h84_resolve a0 Q R hQ h)
def f83_Right (fuel : Nat) : PT → Tp → Option (Int)
  | l1, .mk k2 m3 lo4 hi5 p6 ps7 => (f105_Check fuel l1).bind fun v8 => cond (v8 != 0) (some v8) ((f106_right fuel l1 (Tp.mk k2 m3 lo4 hi5 p6 ps7)).bind fun v10 => some v10)
def C83_Right (O : Oracle TT) (m : PT → Tp → Option (Int)) : Prop :=
  ∀ (l1 : PT) (k2 : Int) (m3 : BA) (lo4 : Int) (hi5 : Int) (p6 : BA) (ps7 : PT) (Q : Int → Prop) (R : RR) (_ : ∀ (v11 : Int), Q v11 → R (.c (.int .i64 v11)) []) (_ : sat (m l1 (Tp.mk k2 m3 lo4 hi5 p6 ps7)) Q), O 83 [.c (.isl .dfn l1), .agg [.int .i64 k2, .str m3, .int .i64 lo4, .int .i64 hi5, .str p6, .isl .part ps7]] [] R
def j83_Right : Fn TT := ⟨14, [.t 4], (.seq (.reg [qo 3 (.box 3 1),qo 4 (.mv (iC 0))]) (.seq (.seq (.reg [qo 6 (.mv 0),qo 7 (.call 7 105 [6]),qo 5 (.mv 7)]) (.seq (.reg [qo 8 (.mv 5),qo 9 (.bin .neq .num 8 (iC 0))]) (.cond 9 (.seq (.reg [qo 10 (.mv 5),qo 4 (.mv 10)]) .ret) .skip))) (.seq (.reg [qo 11 (.mv 0),qo 12 (.load 3 6 true),qo 13 (.call 13 106 [11, 12]),qo 4 (.mv 13)]) .ret)))⟩
theorem w83_Right {O : Oracle TT} (fuel : Nat) (h105_Check : C105_Check O (f105_Check fuel)) (h106_right : C106_right O (f106_right fuel)) : C83_Right (fun _ => vcF (S := SS) O j83_Right) (f83_Right fuel) := by
 intro l1 k2 m3 lo4 hi5 p6 ps7 Q R hQ h
 unfold f83_Right at h
 refine ⟨nle rfl, rfl, ?_⟩
 conv => whnf
 refine ⟨[], ?_⟩
 conv => whnf
 refine h105_Check _ _ _ ?_ (sat_bind h)
 rintro v8 h
 conv => whnf
 refine kc h (fun h => ?_) fun h => ?_
 conv => whnf
 refine ⟨[], ?_⟩
 conv => whnf
 refine h106_right _ _ _ _ _ _ _ _ _ ?_ (sat_bind h)
 rintro v10 h
 conv => whnf
 exact ⟨[], ND 0, hQ _ (sat_some h)⟩
 conv => whnf
 exact ⟨[], ND 0, hQ _ (sat_some h)⟩
theorem c83_Right {P : Program} {fid : Nat → FuncId} (mx : MX P) (k83_Right : KF P fid 83 j83_Right) (h105_Check : ∀ n, C105_Check (SP P fid) (f105_Check n)) (h106_right : ∀ n, C106_right (SP P fid) (f106_right n)) : ∀ n, C83_Right (SP P fid) (f83_Right n) :=
 fun n => fun a0 a1 a2 a3 a4 a5 a6 Q R hQ h => spec_of_vc mx k83_Right (w83_Right n (h105_Check n) (h106_right n) a0 a1 a2 a3 a4 a5 a6 Q R hQ h)
def f66_Resolve (fuel : Nat) : PT → Tp → Option (Tp × Int)
  | l1, .mk k2 m3 lo4 hi5 p6 ps7 => (f83_Right fuel l1 (Tp.mk k2 m3 lo4 hi5 p6 ps7)).bind fun v8 => cond (v8 != 0) (some ((Tp.mk 0 (⟨#[]⟩ : BA) 0 0 (⟨#[]⟩ : BA) []), v8)) ((f84_resolve l1 (Tp.mk k2 m3 lo4 hi5 p6 ps7)).bind fun ((.mk k10 m11 lo12 hi13 p14 ps15), v16) => (f85_Copy fuel (Tp.mk k10 m11 lo12 hi13 p14 ps15)).bind fun (.mk k17 m18 lo19 hi20 p21 ps22) => some ((Tp.mk k17 m18 lo19 hi20 p21 ps22), v16))
def C66_Resolve (O : Oracle TT) (m : PT → Tp → Option (Tp × Int)) : Prop :=
  ∀ (l1 : PT) (k2 : Int) (m3 : BA) (lo4 : Int) (hi5 : Int) (p6 : BA) (ps7 : PT) (Q : (Tp × Int) → Prop) (R : RR) (_ : ∀ (k23 : Int) (m24 : BA) (lo25 : Int) (hi26 : Int) (p27 : BA) (ps28 : PT) (v29 : Int), Q ((Tp.mk k23 m24 lo25 hi26 p27 ps28), v29) → R (.tup [.agg [.int .i64 k23, .str m24, .int .i64 lo25, .int .i64 hi26, .str p27, .isl .part ps28], .c (.int .i64 v29)]) []) (_ : sat (m l1 (Tp.mk k2 m3 lo4 hi5 p6 ps7)) Q), O 66 [.c (.isl .dfn l1), .agg [.int .i64 k2, .str m3, .int .i64 lo4, .int .i64 hi5, .str p6, .isl .part ps7]] [] R
def j66_Resolve : Fn TT := ⟨24, [.cell 4 6 true, .t 5], (.seq (.reg [qo 3 (.box 3 1),qo 4 (.alloc 4 [.int .i64 0, .str (⟨#[]⟩ : BA), .int .i64 0, .int .i64 0, .str (⟨#[]⟩ : BA), .isl .part []]),qo 5 (.mv (iC 0))]) (.seq (.seq (.reg [qo 8 (.mv 0),qo 9 (.load 3 6 true),qo 10 (.call 10 83 [8, 9]),qo 6 (.mv 10)]) (.seq (.reg [qo 11 (.mv 6),qo 12 (.bin .neq .num 11 (iC 0))])
 (.cond 12 (.seq (.reg [qo 13 (.build [.int .i64 0, .str (⟨#[]⟩ : BA), .int .i64 0, .int .i64 0, .str (⟨#[]⟩ : BA), .isl .part []] []),qo 14 (.mv 6),qp (.store 4 13 6),qo 5 (.mv 14)]) .ret) .skip))) (.seq (.reg [qo 16 (.mv 0),qo 17 (.load 3 6 true),qo 18 (.call 18 84 [16, 17]),qo 15 (.mv 18),qo 19 (.ext 15 0),qo 20 (.ext 15 1),qp (.store 3 19 6),qo 7 (.mv 20)]) (.seq
 (.reg [qo 21 (.load 3 6 true),qo 22 (.call 22 85 [21]),qo 23 (.mv 7),qp (.store 4 22 6),qo 5 (.mv 23)]) .ret))))⟩
theorem w66_Resolve {O : Oracle TT} (fuel : Nat) (h85_Copy : C85_Copy O (f85_Copy fuel)) (h83_Right : C83_Right O (f83_Right fuel)) (h84_resolve : C84_resolve O f84_resolve) : C66_Resolve (fun _ => vcF (S := SS) O j66_Resolve) (f66_Resolve fuel) := by
 intro l1 k2 m3 lo4 hi5 p6 ps7 Q R hQ h
 unfold f66_Resolve at h
 refine ⟨nle rfl, rfl, ?_⟩
 conv => whnf
 refine ⟨[], ?_⟩
 conv => whnf
 refine h83_Right _ _ _ _ _ _ _ _ _ ?_ (sat_bind h)
 rintro v8 h
 conv => whnf
 refine kc h (fun h => ?_) fun h => ?_
 conv => whnf
 refine ⟨[], ?_⟩
 conv => whnf
 refine h84_resolve _ _ _ _ _ _ _ _ _ ?_ (sat_bind h)
 rintro k10 m11 lo12 hi13 p14 ps15 v16 h
 conv => whnf
 refine ⟨[], ?_⟩
 conv => whnf
 refine h85_Copy _ _ _ _ _ _ _ _ ?_ (sat_bind h)
 rintro k17 m18 lo19 hi20 p21 ps22 h
 conv => whnf
 exact ⟨[], ND 0, hQ _ _ _ _ _ _ _ (sat_some h)⟩
 conv => whnf
 exact ⟨[], ND 0, hQ _ _ _ _ _ _ _ (sat_some h)⟩
theorem c66_Resolve {P : Program} {fid : Nat → FuncId} (mx : MX P) (k66_Resolve : KF P fid 66 j66_Resolve) (h85_Copy : ∀ n, C85_Copy (SP P fid) (f85_Copy n)) (h83_Right : ∀ n, C83_Right (SP P fid) (f83_Right n)) (h84_resolve : C84_resolve (SP P fid) f84_resolve) : ∀ n, C66_Resolve (SP P fid) (f66_Resolve n) :=
 fun n => fun a0 a1 a2 a3 a4 a5 a6 Q R hQ h => spec_of_vc mx k66_Resolve (w66_Resolve n (h85_Copy n) (h83_Right n) h84_resolve a0 a1 a2 a3 a4 a5 a6 Q R hQ h)
/-- Is it a byte that Quote puts a backslash before? -/
def qMeta (b : UInt8) : Bool := [124, 42, 43, 63, 40, 41, 91, 93, 46, 92].contains b
def quoteL : List UInt8 → List UInt8
  | [] => []
  | b :: r => if qMeta b then 92 :: b :: quoteL r else b :: quoteL r
def f69_Quote (s : BA) : Option BA := grdP (2 * s.size ≤ 140737488355328) (some ⟨(quoteL s.data.toList).toArray⟩)
def C69_Quote (O : Oracle TT) (m : BA → Option (BA)) : Prop :=
  ∀ (s1 : BA) (Q : BA → Prop) (R : RR) (_ : ∀ (s2 : BA), Q s2 → R (.c (.str s2)) []) (_ : sat (m s1) Q), O 69 [.c (.str s1)] [] R
def f43_single_L6 (self43_single : PT → Tp → Int → Option (Bool)) (l1 : PT) (v8 : Int) : PT → Nat → Option (Sum (Sum (Bool) (Unit)) (Unit))
  | [], j245 => some (.inr ())
  | ((a250, .mk k251 m252 lo253 hi254 p255 ps256)) :: tl247, j245 => (self43_single l1 (Tp.mk k251 m252 lo253 hi254 p255 ps256) (wrap .i64 (v8 - 1))).bind fun q258 => cond q258 (f43_single_L6 self43_single l1 v8 tl247 (j245 + 1)) (lft (lft (some false)))
def f43_single_L8 (self43_single : PT → Tp → Int → Option (Bool)) (l1 : PT) (v8 : Int) : PT → Nat → Option (Sum (Sum (Bool) (Unit)) (Unit))
  | [], j304 => some (.inr ())
  | ((a309, .mk k310 m311 lo312 hi313 p314 ps315)) :: tl306, j304 => (self43_single l1 (Tp.mk k310 m311 lo312 hi313 p314 ps315) (wrap .i64 (v8 - 1))).bind fun q317 => cond q317 (f43_single_L8 self43_single l1 v8 tl306 (j304 + 1)) (lft (lft (some false)))
def b43_single (fuel : Nat) (self43_single : PT → Tp → Int → Option (Bool)) : PT → Tp → Int → Option (Bool)
  | l1, .mk k2 m3 lo4 hi5 p6 ps7, v8 => (f66_Resolve fuel l1 (Tp.mk k2 m3 lo4 hi5 p6 ps7)).bind fun ((.mk k9 m10 lo11 hi12 p13 ps14), v15) => cond (v15 != 0) (some false) (cond (v8 == 0) (some false) (sbind (ο := Unit) (cond (k9 == 0) (lft (some true)) (sbind (ο := Bool) (cond (k9 == 1) (some (.inr true)) (cond (k9 == 2) (some (.inr true)) (cond (k9 == 4) (some (.inr true)) (some (.inr false))))) (fun q183 => cond q183 (cond (lo11 == hi12) (lft (some true)) (lft (some false))) (cond (k9 == 5) ((f67_Least fuel p13).bind fun (s330, v331) => cond (v331 != 0) (lft (some false)) ((f69_Quote s330).bind fun s333 => (f68_Includes fuel p13 s333).bind fun (q334, s335, v336) => cond (v336 == 0) (lft (some q334)) (lft (some false)))) (sbind (ο := Bool) (cond (k9 == 8) (some (.inr true)) (cond (k9 == 9) (some (.inr true)) (some (.inr false)))) (fun q191 => cond q191 (cond (hi12 == 0) (lft (some true)) (cond (k9 == 8) (cond (lo11 == hi12) (getL ps14 0 fun uu328 => match uu328 with | (a321, .mk k322 m323 lo324 hi325 p326 ps327) => (self43_single l1 (Tp.mk k322 m323 lo324 hi325 p326 ps327) (wrap .i64 (v8 - 1))).bind fun q329 => lft (some q329)) (lft (some false))) (lft (some false)))) (sbind (ο := Bool) (cond (k9 == 6) (some (.inr true)) (cond (k9 == 7) (some (.inr true)) (some (.inr false)))) (fun q197 => cond q197 (cond (k9 == 7) (cond (((ps14.length : Nat) : Int) != 1) (lft (some false)) (sbind (ο := Unit) (f43_single_L8 self43_single l1 v8 ps14 0) (fun () => lft (some true)))) (sbind (ο := Unit) (f43_single_L6 self43_single l1 v8 ps14 0) (fun () => lft (some true)))) (some (.inr ())))))))))) (fun () => some false)))
def f43_single : Nat → PT → Tp → Int → Option (Bool)
  | 0 => fun _ _ _ => none
  | n + 1 => b43_single n (f43_single n)
def C43_single (O : Oracle TT) (m : PT → Tp → Int → Option (Bool)) : Prop :=
  ∀ (l1 : PT) (k2 : Int) (m3 : BA) (lo4 : Int) (hi5 : Int) (p6 : BA) (ps7 : PT) (v8 : Int) (Q : Bool → Prop) (R : RR) (_ : ∀ (q339 : Bool), Q q339 → R (.c (.bool q339)) []) (_ : sat (m l1 (Tp.mk k2 m3 lo4 hi5 p6 ps7) v8) Q), O 43 [.c (.isl .dfn l1), .agg [.int .i64 k2, .str m3, .int .i64 lo4, .int .i64 hi5, .str p6, .isl .part ps7], .c (.int .i64 v8)] [] R
def j43_single : Fn TT := ⟨120, [.t 6], (.seq (.reg [qo 4 (.box 4 1),qo 6 (.mv bF)]) (.seq (.reg [qo 16 (.mv 0),qo 17 (.load 4 6 true),qo 18 (.call 18 66 [16, 17]),qo 15 (.mv 18),qo 19 (.ext 15 0),qo 20 (.ext 15 1),qo 7 (.alloc 7 [.int .i64 0, .str (⟨#[]⟩ : BA), .int .i64 0, .int .i64 0, .str (⟨#[]⟩ : BA), .isl .part []]),qp (.store 7 19 6),qo 8 (.mv 20)]) (.seq (.seq
 (.reg [qo 21 (.mv 8),qo 22 (.bin .neq .num 21 (iC 0)),qo 23 (.mv 22),qf 23 24 (.mv 2),qf 23 25 (.bin .eql .num 24 (iC 0)),qo 26 (.pick 23 bT 25)]) (.cond 26 (.seq (.reg [qo 6 (.mv bF)]) .ret) .skip)) (.cut [] [] (.seq (.reg [qo 27 (.fa 7 0),qo 28 (.load 27 1 false)]) (.block 0 (.seq (.reg [qo 30 (.bin .eql .num 28 (iC 0)),qo 29 (.mv 30)]) (.cond 29 (.seq (.reg [qo 6 (.mv bT)]) .ret)
 (.cut [0, 2, 7, 28, 31] [(.s 7)] (.seq (.reg [qo 32 (.bin .eql .num 28 (iC 1)),qo 31 (.mv 32)]) (.cond 31 .skip (.seq (.reg [qo 33 (.bin .eql .num 28 (iC 2)),qo 31 (.mv 33)]) (.cond 31 .skip (.reg [qo 34 (.bin .eql .num 28 (iC 4)),qo 31 (.mv 34)]))))) (.cond 31 (.seq (.reg [qo 35 (.fa 7 2),qo 36 (.load 35 1 false),qo 37 (.fa 7 3),qo 38 (.load 37 1 false),qo 39 (.bin .eql .num 36 38),
 qo 6 (.mv 39)]) .ret) (.seq (.reg [qo 41 (.bin .eql .num 28 (iC 5)),qo 40 (.mv 41)]) (.cond 40 (.seq (.reg [qo 43 (.fa 7 4),qo 44 (.load 43 1 false),qo 45 (.call 45 67 [44]),qo 42 (.mv 45),qo 46 (.ext 42 0),qo 47 (.ext 42 1),qo 9 (.mv 46),qo 10 (.mv 47)]) (.seq (.seq (.reg [qo 48 (.mv 10),qo 49 (.bin .neq .num 48 (iC 0))]) (.cond 49 (.seq (.reg [qo 6 (.mv bF)]) .ret) .skip)) (.seq
 (.drw [] (oR 12) [] [0, 1, 2, 5, 6, 7, 8, 9, 10, 11] [qo 51 (.fa 7 4),qo 52 (.load 51 1 false),qo 53 (.mv 9),qo 54 (.call 54 69 [53]),qo 55 (.call 55 68 [52, 54]),qo 50 (.mv 55),qo 56 (.ext 50 0),qo 57 (.ext 50 1),qo 58 (.ext 50 2),qo 11 (.mv 56),qo 12 (.mv 57),qo 10 (.mv 58)]) (.seq (.reg [qo 59 (.mv 10),qo 60 (.bin .eql .num 59 (iC 0)),qo 61 (.mv 60),qg 61 62 (.mv 11),
 qo 63 (.pick 61 62 bF),qo 6 (.mv 63)]) .ret)))) (.cut [0, 2, 7, 28, 64] [(.s 7)] (.seq (.reg [qo 65 (.bin .eql .num 28 (iC 8)),qo 64 (.mv 65)]) (.cond 64 .skip (.reg [qo 66 (.bin .eql .num 28 (iC 9)),qo 64 (.mv 66)]))) (.cond 64 (.seq (.reg [qo 67 (.fa 7 3),qo 68 (.load 67 1 false),qo 69 (.bin .eql .num 68 (iC 0)),qo 70 (.mv 69),qf 70 71 (.fa 7 0),qf 70 72 (.load 71 1 false),
 qf 70 73 (.bin .eql .num 72 (iC 8)),qf 70 74 (.mv 73),qg 74 75 (.fa 7 2),qg 74 76 (.load 75 1 false),qg 74 77 (.fa 7 3),qg 74 78 (.load 77 1 false),qg 74 79 (.bin .eql .num 76 78),qf 70 80 (.pick 74 79 bF),qf 70 81 (.mv 80),qg 81 82 (.mv 0),qg 81 83 (.fa 7 5),qg 81 84 (.load 83 1 false),qg 81 85 (.idxA 84 (iC 0) 7),qg 81 86 (.fa 85 1),qg 81 87 (.load 86 6 true),qg 81 88 (.mv 2),
 qg 81 89 (.bin .sub .num 88 (iC 1)),qg 81 90 (.call 90 43 [82, 87, 89]),qf 70 91 (.pick 81 90 bF),qo 92 (.pick 70 bT 91),qo 6 (.mv 92)]) .ret) (.cut [0, 2, 7, 93] [(.s 7)] (.seq (.reg [qo 94 (.bin .eql .num 28 (iC 6)),qo 93 (.mv 94)]) (.cond 93 .skip (.reg [qo 95 (.bin .eql .num 28 (iC 7)),qo 93 (.mv 95)]))) (.cond 93 (.seq (.seq (.reg [qo 96 (.fa 7 0),qo 97 (.load 96 1 false),
 qo 98 (.bin .eql .num 97 (iC 7)),qo 99 (.mv 98),qg 99 100 (.fa 7 5),qg 99 101 (.load 100 1 false),qg 99 102 (.len false 101),qg 99 103 (.bin .neq .num 102 (iC 1)),qo 104 (.pick 99 103 bF)]) (.cond 104 (.seq (.reg [qo 6 (.mv bF)]) .ret) .skip)) (.cut [] [] (.seq (.reg [qo 105 (.fa 7 5),qo 106 (.load 105 1 false),qo 107 (.len false 106),qo 108 (.mv (iC 0))]) (.block 1
 (.loop (.keep [0, 2, 106, 107, 108] [] (.aft (.seq (.reg [qo 109 (.bin .lss .num 108 107)]) (.seq (.cond 109 .skip (.exit 1)) (.seq (.block 2 (.seq (.reg [qo 110 (.idxA 106 108 7),qo 111 (.load 110 7 true),qo 14 (.alloc 14 [.str (⟨#[]⟩ : BA), .int .i64 0, .str (⟨#[]⟩ : BA), .int .i64 0, .int .i64 0, .str (⟨#[]⟩ : BA), .isl .part []]),qp (.store 14 111 7)]) (.seq
 (.reg [qo 112 (.mv 0),qo 113 (.fa 14 1),qo 114 (.load 113 6 true),qo 115 (.mv 2),qo 116 (.bin .sub .num 115 (iC 1)),qo 117 (.call 117 43 [112, 114, 116]),qo 118 (.un .not 117)]) (.cond 118 (.seq (.reg [qo 6 (.mv bF)]) .ret) .skip)))) (.reg [qo 119 (.bin .add .num 108 (iC 1)),qo 108 (.mv 119)])))) [.keep [0, 2, 106, 107, 108] []]))))) (.seq (.reg [qo 6 (.mv bT)]) .ret))) .skip))))))))))))
 (.seq (.reg [qo 6 (.mv bF)]) .ret)))))⟩
theorem w43_single {O : Oracle TT} (fuel : Nat) (self43_single : PT → Tp → Int → Option (Bool)) (h67_Least : C67_Least O (f67_Least fuel)) (h68_Includes : C68_Includes O (f68_Includes fuel)) (h43_single : C43_single O self43_single) (h66_Resolve : C66_Resolve O (f66_Resolve fuel)) (h69_Quote : C69_Quote O f69_Quote) : C43_single (fun _ => vcF (S := SS) O j43_single) (b43_single fuel self43_single) := by
 intro l1 k2 m3 lo4 hi5 p6 ps7 v8 Q R hQ h
 unfold b43_single at h
 refine ⟨nle rfl, rfl, ?_⟩
 conv => whnf
 refine ⟨[], ?_⟩
 conv => whnf
 refine h66_Resolve _ _ _ _ _ _ _ _ _ ?_ (sat_bind h)
 rintro k9 m10 lo11 hi12 p13 ps14 v15 h
 conv => whnf
 refine kc h (fun h => ?_) fun h => ?_
 conv => whnf
 refine kc h (fun h => ?_) fun h => ?_
 obtain ⟨R178, h, hlR178, hrR178⟩ := sat_sbind h
 conv => whnf
 refine ⟨fun σ => R178 (.inr ()) ∧ σ = ⟨[], []⟩, ?_, ?_⟩
 conv => whnf
 refine kc h (fun h => ?_) fun h => ?_
 obtain ⟨R184, h, hlR184, hrR184⟩ := sat_sbind h
 conv => whnf
 refine ⟨fun σ => ∃ (q183 : Bool), R184 (.inr q183) ∧ σ = ⟨[(0, .c (.isl .dfn l1)), (2, .c (.int .i64 v8)), (7, .c (.ptr (.s 7) 0 0)), (28, .c (.int .i64 k9)), (31, .c (.bool q183))], [((.s 7), some (.var [.int .i64 k9, .str m10, .int .i64 lo11, .int .i64 hi12, .str p13, .isl .part ps14]))]⟩, ?_, ?_⟩
 conv => whnf
 refine kc h (fun h => ?_) fun h => ?_
 conv => whnf
 refine kc h (fun h => ?_) fun h => ?_
 conv => whnf
 refine kc h (fun h => ?_) fun h => ?_
 conv => whnf
 exact ⟨false, sat_some h, rfl⟩
 conv => whnf
 exact ⟨true, sat_some h, rfl⟩
 conv => whnf
 exact ⟨true, sat_some h, rfl⟩
 conv => whnf
 exact ⟨true, sat_some h, rfl⟩
 rintro _ ⟨q183, h, rfl⟩
 replace h := hrR184 _ h
 cases q183
 replace h := sat_cf h
 conv => whnf
 refine kc h (fun h => ?_) fun h => ?_
 obtain ⟨R192, h, hlR192, hrR192⟩ := sat_sbind h
 conv => whnf
 refine ⟨fun σ => ∃ (q191 : Bool), R192 (.inr q191) ∧ σ = ⟨[(0, .c (.isl .dfn l1)), (2, .c (.int .i64 v8)), (7, .c (.ptr (.s 7) 0 0)), (28, .c (.int .i64 k9)), (64, .c (.bool q191))], [((.s 7), some (.var [.int .i64 k9, .str m10, .int .i64 lo11, .int .i64 hi12, .str p13, .isl .part ps14]))]⟩, ?_, ?_⟩
 conv => whnf
 refine kc h (fun h => ?_) fun h => ?_
 conv => whnf
 refine kc h (fun h => ?_) fun h => ?_
 conv => whnf
 exact ⟨false, sat_some h, rfl⟩
 conv => whnf
 exact ⟨true, sat_some h, rfl⟩
 conv => whnf
 exact ⟨true, sat_some h, rfl⟩
 rintro _ ⟨q191, h, rfl⟩
 replace h := hrR192 _ h
 cases q191
 replace h := sat_cf h
 obtain ⟨R198, h, hlR198, hrR198⟩ := sat_sbind h
 conv => whnf
 refine ⟨fun σ => ∃ (q197 : Bool), R198 (.inr q197) ∧ σ = ⟨[(0, .c (.isl .dfn l1)), (2, .c (.int .i64 v8)), (7, .c (.ptr (.s 7) 0 0)), (93, .c (.bool q197))], [((.s 7), some (.var [.int .i64 k9, .str m10, .int .i64 lo11, .int .i64 hi12, .str p13, .isl .part ps14]))]⟩, ?_, ?_⟩
 conv => whnf
 refine kc h (fun h => ?_) fun h => ?_
 conv => whnf
 refine kc h (fun h => ?_) fun h => ?_
 conv => whnf
 exact ⟨false, sat_some h, rfl⟩
 conv => whnf
 exact ⟨true, sat_some h, rfl⟩
 conv => whnf
 exact ⟨true, sat_some h, rfl⟩
 rintro _ ⟨q197, h, rfl⟩
 replace h := hrR198 _ h
 cases q197
 replace h := sat_cf h
 conv => whnf
 exact ⟨sat_some h, rfl⟩
 replace h := sat_ct h
 conv => whnf
 refine kc h (fun h => ?_) fun h => ?_
 obtain ⟨R230, h, hlR230, hrR230⟩ := sat_sbind h
 conv => whnf
 refine ⟨fun σ => R230 (.inr ()) ∧ σ = ⟨[], []⟩, ?_, ?_⟩
 conv => whnf
 intro hl231
 conv => whnf
 refine ⟨fun σ n => ∃ (rem246 : PT) (j245 : Nat) (z : Int), n = rem246.length ∧ ps14.drop j245 = rem246 ∧ z = ((j245 : Nat) : Int) ∧ sat (f43_single_L6 self43_single l1 v8 rem246 j245) R230 ∧ σ.keep [0, 2, 106, 107, 108] [] = ⟨[(0, .c (.isl .dfn l1)), (2, .c (.int .i64 v8)), (106, .c (.isl .part ps14)), (107, .c (.int .i64 ((ps14.length : Nat) : Int))), (108, .c (.int .i64 z))], []⟩, ⟨_, ps14, 0, _, rfl, rfl, rfl, h, rfl⟩, ?_⟩
 rintro σ n ⟨rem246, j245, _, rfl, hrem246, rfl, h, hσ⟩
 refine kk hσ ?_
 conv => whnf
 intro t249 (ht249 : t249 = decide (((j245 : Nat) : Int) < ((ps14.length : Nat) : Int)))
 cases t249
 obtain rfl := ll_nil hrem246 ht249
 rw [f43_single_L6] at h
 conv => whnf
 exact ⟨sat_some h, rfl⟩
 obtain ⟨x248, tl247, rfl, hx248, htl247⟩ := ll_cons hrem246 ht249
 obtain ⟨a250, ⟨k251, m252, lo253, hi254, p255, ps256⟩⟩ := x248
 rw [f43_single_L6] at h
 conv => whnf
 refine ⟨lx_bd hx248, fun uu257 huu257 => ?_⟩
 obtain rfl := lx_eq hx248 huu257
 conv => whnf
 refine ⟨[], ?_⟩
 conv => whnf
 refine h43_single _ _ _ _ _ _ _ _ _ _ ?_ (sat_bind h)
 rintro q258 h
 cases q258
 replace h := sat_cf h
 replace h := sat_lft hlR230 h
 replace h := sat_lft hlR178 h
 conv => whnf
 exact ⟨[], ND 0, hQ _ (sat_some h)⟩
 replace h := sat_ct h
 conv => whnf
 exact ⟨tl247.length, nls, tl247, j245 + 1, _, rfl, htl247, lx_wr hx248 hl231, h, rfl⟩
 rintro _ ⟨h, rfl⟩
 replace h := hrR230 _ h
 replace h := sat_lft hlR178 h
 conv => whnf
 exact ⟨[], ND 0, hQ _ (sat_some h)⟩
 conv => whnf
 intro hl259
 conv => whnf
 refine kc h (fun h => ?_) fun h => ?_
 obtain ⟨R289, h, hlR289, hrR289⟩ := sat_sbind h
 conv => whnf
 refine ⟨fun σ => R289 (.inr ()) ∧ σ = ⟨[], []⟩, ?_, ?_⟩
 conv => whnf
 intro hl290
 conv => whnf
 refine ⟨fun σ n => ∃ (rem305 : PT) (j304 : Nat) (z : Int), n = rem305.length ∧ ps14.drop j304 = rem305 ∧ z = ((j304 : Nat) : Int) ∧ sat (f43_single_L8 self43_single l1 v8 rem305 j304) R289 ∧ σ.keep [0, 2, 106, 107, 108] [] = ⟨[(0, .c (.isl .dfn l1)), (2, .c (.int .i64 v8)), (106, .c (.isl .part ps14)), (107, .c (.int .i64 ((ps14.length : Nat) : Int))), (108, .c (.int .i64 z))], []⟩, ⟨_, ps14, 0, _, rfl, rfl, rfl, h, rfl⟩, ?_⟩
 rintro σ n ⟨rem305, j304, _, rfl, hrem305, rfl, h, hσ⟩
 refine kk hσ ?_
 conv => whnf
 intro t308 (ht308 : t308 = decide (((j304 : Nat) : Int) < ((ps14.length : Nat) : Int)))
 cases t308
 obtain rfl := ll_nil hrem305 ht308
 rw [f43_single_L8] at h
 conv => whnf
 exact ⟨sat_some h, rfl⟩
 obtain ⟨x307, tl306, rfl, hx307, htl306⟩ := ll_cons hrem305 ht308
 obtain ⟨a309, ⟨k310, m311, lo312, hi313, p314, ps315⟩⟩ := x307
 rw [f43_single_L8] at h
 conv => whnf
 refine ⟨lx_bd hx307, fun uu316 huu316 => ?_⟩
 obtain rfl := lx_eq hx307 huu316
 conv => whnf
 refine ⟨[], ?_⟩
 conv => whnf
 refine h43_single _ _ _ _ _ _ _ _ _ _ ?_ (sat_bind h)
 rintro q317 h
 cases q317
 replace h := sat_cf h
 replace h := sat_lft hlR289 h
 replace h := sat_lft hlR178 h
 conv => whnf
 exact ⟨[], ND 0, hQ _ (sat_some h)⟩
 replace h := sat_ct h
 conv => whnf
 exact ⟨tl306.length, nls, tl306, j304 + 1, _, rfl, htl306, lx_wr hx307 hl290, h, rfl⟩
 rintro _ ⟨h, rfl⟩
 replace h := hrR289 _ h
 replace h := sat_lft hlR178 h
 conv => whnf
 exact ⟨[], ND 0, hQ _ (sat_some h)⟩
 replace h := sat_lft hlR178 h
 conv => whnf
 exact ⟨[], ND 0, hQ _ (sat_some h)⟩
 replace h := sat_ct h
 conv => whnf
 refine kc h (fun h => ?_) fun h => ?_
 conv => whnf
 refine kc h (fun h => ?_) fun h => ?_
 replace h := sat_lft hlR178 h
 conv => whnf
 exact ⟨[], ND 0, hQ _ (sat_some h)⟩
 conv => whnf
 refine kc h (fun h => ?_) fun h => ?_
 replace h := sat_lft hlR178 h
 conv => whnf
 exact ⟨[], ND 0, hQ _ (sat_some h)⟩
 conv => whnf
 refine kg (sat_getL h) fun uu328 huu328 h => ?_
 obtain ⟨a321, ⟨k322, m323, lo324, hi325, p326, ps327⟩⟩ := uu328
 conv => whnf
 refine ⟨[], ?_⟩
 conv => whnf
 refine h43_single _ _ _ _ _ _ _ _ _ _ ?_ (sat_bind h)
 rintro q329 h
 replace h := sat_lft hlR178 h
 conv => whnf
 exact ⟨[], ND 0, hQ _ (sat_some h)⟩
 replace h := sat_lft hlR178 h
 conv => whnf
 exact ⟨[], ND 0, hQ _ (sat_some h)⟩
 conv => whnf
 refine ⟨[], ?_⟩
 conv => whnf
 refine h67_Least _ _ _ ?_ (sat_bind h)
 rintro s330 v331 h
 conv => whnf
 refine kc h (fun h => ?_) fun h => ?_
 conv => whnf
 refine ⟨[], ?_⟩
 conv => whnf
 refine h69_Quote _ _ _ ?_ (sat_bind h)
 rintro s333 h
 conv => whnf
 refine ⟨[], ?_⟩
 conv => whnf
 refine h68_Includes _ _ _ _ ?_ (sat_bind h)
 rintro q334 s335 v336 h
 conv => whnf
 refine kc h (fun h => ?_) fun h => ?_
 replace h := sat_lft hlR178 h
 conv => whnf
 exact ⟨[], ND 0, hQ _ (sat_some h)⟩
 replace h := sat_lft hlR178 h
 conv => whnf
 exact ⟨[], ND 0, hQ _ (sat_some h)⟩
 replace h := sat_lft hlR178 h
 conv => whnf
 exact ⟨[], ND 0, hQ _ (sat_some h)⟩
 replace h := sat_ct h
 conv => whnf
 refine kc h (fun h => ?_) fun h => ?_
 replace h := sat_lft hlR178 h
 conv => whnf
 exact ⟨[], ND 0, hQ _ (sat_some h)⟩
 replace h := sat_lft hlR178 h
 conv => whnf
 exact ⟨[], ND 0, hQ _ (sat_some h)⟩
 replace h := sat_lft hlR178 h
 conv => whnf
 exact ⟨[], ND 0, hQ _ (sat_some h)⟩
 rintro _ ⟨h, rfl⟩
 replace h := hrR178 _ h
 conv => whnf
 exact ⟨[], ND 0, hQ _ (sat_some h)⟩
 conv => whnf
 exact ⟨[], ND 0, hQ _ (sat_some h)⟩
 conv => whnf
 exact ⟨[], ND 0, hQ _ (sat_some h)⟩
theorem cg43_single {P : Program} {fid : Nat → FuncId} (mx : MX P) (k43_single : KF P fid 43 j43_single) (h67_Least : ∀ n, C67_Least (SP P fid) (f67_Least n)) (h68_Includes : ∀ n, C68_Includes (SP P fid) (f68_Includes n)) (h66_Resolve : ∀ n, C66_Resolve (SP P fid) (f66_Resolve n)) (h69_Quote : C69_Quote (SP P fid) f69_Quote) : ∀ n, C43_single (SP P fid) (f43_single n) := by
 intro n
 induction n with
 | zero => exact fun a0 a1 a2 a3 a4 a5 a6 a7 Q R hQ h => (sat_none h).elim
 | succ n ih =>
  have ih0 := ih
  exact fun a0 a1 a2 a3 a4 a5 a6 a7 Q R hQ h => spec_of_vc mx k43_single (w43_single n (f43_single n) (h67_Least n) (h68_Includes n) ih0 (h66_Resolve n) h69_Quote a0 a1 a2 a3 a4 a5 a6 a7 Q R hQ h)
theorem c43_single {P : Program} {fid : Nat → FuncId} (mx : MX P) (k43_single : KF P fid 43 j43_single) (h67_Least : ∀ n, C67_Least (SP P fid) (f67_Least n)) (h68_Includes : ∀ n, C68_Includes (SP P fid) (f68_Includes n)) (h66_Resolve : ∀ n, C66_Resolve (SP P fid) (f66_Resolve n)) (h69_Quote : C69_Quote (SP P fid) f69_Quote) : ∀ n, C43_single (SP P fid) (f43_single n) := fun n => (cg43_single mx k43_single h67_Least h68_Includes h66_Resolve h69_Quote n)
def f23_Value (fuel : Nat) : PT → Tp → LI → Option (V)
  | l1, .mk k2 m3 lo4 hi5 p6 ps7, l8 => (f42_val fuel l1 (Tp.mk k2 m3 lo4 hi5 p6 ps7) (0 : Int) l8).bind fun ((.mk k9 n10 s11 f12), l13) => some (V.mk k9 n10 s11 f12)
def C23_Value (O : Oracle TT) (m : PT → Tp → LI → Option (V)) : Prop :=
  ∀ (l1 : PT) (k2 : Int) (m3 : BA) (lo4 : Int) (hi5 : Int) (p6 : BA) (ps7 : PT) (l8 : LI) (Q : V → Prop) (R : RR) (_ : ∀ (k14 : Int) (n15 : Int) (s16 : BA) (f17 : FV), Q (V.mk k14 n15 s16 f17) → R (.agg [.int .i64 k14, .int .i64 n15, .str s16, .isl .fld f17]) []) (_ : sat (m l1 (Tp.mk k2 m3 lo4 hi5 p6 ps7) l8) Q), O 23 [.c (.isl .dfn l1), .agg [.int .i64 k2, .str m3, .int .i64 lo4, .int .i64 hi5, .str p6, .isl .part ps7], .c (.isl .int l8)] [] R
def j23_Value : Fn TT := ⟨13, [.cell 6 4 true], (.seq (.reg [qo 4 (.box 4 1),qo 6 (.alloc 6 [.int .i64 0, .int .i64 0, .str (⟨#[]⟩ : BA), .isl .fld []])]) (.seq (.reg [qo 7 (.mv 0),qo 8 (.load 4 6 true),qo 9 (.mv 2),qo 10 (.build [.isl .int []] [((0, 1), 9)]),qo 11 (.box 11 10),qo 12 (.call 12 42 [7, 8, 11, (iC 0)]),qp (.store 6 12 4)]) .ret))⟩
theorem w23_Value {O : Oracle TT} (fuel : Nat) (h42_val : C42_val O (f42_val fuel)) : C23_Value (fun _ => vcF (S := SS) O j23_Value) (f23_Value fuel) := by
 intro l1 k2 m3 lo4 hi5 p6 ps7 l8 Q R hQ h
 unfold f23_Value at h
 refine ⟨nle rfl, rfl, ?_⟩
 conv => whnf
 refine ⟨[(.s 11)], ?_⟩
 conv => whnf
 refine h42_val _ _ _ _ _ _ _ _ _ _ _ ?_ (sat_bind h)
 rintro k9 n10 s11 f12 l13 h
 conv => whnf
 exact ⟨[], ND 0, hQ _ _ _ _ (sat_some h)⟩
theorem c23_Value {P : Program} {fid : Nat → FuncId} (mx : MX P) (k23_Value : KF P fid 23 j23_Value) (h42_val : ∀ n, C42_val (SP P fid) (f42_val n)) : ∀ n, C23_Value (SP P fid) (f23_Value n) :=
 fun n => fun a0 a1 a2 a3 a4 a5 a6 a7 Q R hQ h => spec_of_vc mx k23_Value (w23_Value n (h42_val n) a0 a1 a2 a3 a4 a5 a6 a7 Q R hQ h)
def f24_Single (fuel : Nat) : PT → Tp → Option (Bool)
  | l1, .mk k2 m3 lo4 hi5 p6 ps7 => (f43_single fuel l1 (Tp.mk k2 m3 lo4 hi5 p6 ps7) (40 : Int)).bind fun q8 => some q8
def C24_Single (O : Oracle TT) (m : PT → Tp → Option (Bool)) : Prop :=
  ∀ (l1 : PT) (k2 : Int) (m3 : BA) (lo4 : Int) (hi5 : Int) (p6 : BA) (ps7 : PT) (Q : Bool → Prop) (R : RR) (_ : ∀ (q9 : Bool), Q q9 → R (.c (.bool q9)) []) (_ : sat (m l1 (Tp.mk k2 m3 lo4 hi5 p6 ps7)) Q), O 24 [.c (.isl .dfn l1), .agg [.int .i64 k2, .str m3, .int .i64 lo4, .int .i64 hi5, .str p6, .isl .part ps7]] [] R
def j24_Single : Fn TT := ⟨8, [.t 4], (.seq (.reg [qo 3 (.box 3 1),qo 4 (.mv bF)]) (.seq (.reg [qo 5 (.mv 0),qo 6 (.load 3 6 true),qo 7 (.call 7 43 [5, 6, (iC 40)]),qo 4 (.mv 7)]) .ret))⟩
theorem w24_Single {O : Oracle TT} (fuel : Nat) (h43_single : C43_single O (f43_single fuel)) : C24_Single (fun _ => vcF (S := SS) O j24_Single) (f24_Single fuel) := by
 intro l1 k2 m3 lo4 hi5 p6 ps7 Q R hQ h
 unfold f24_Single at h
 refine ⟨nle rfl, rfl, ?_⟩
 conv => whnf
 refine ⟨[], ?_⟩
 conv => whnf
 refine h43_single _ _ _ _ _ _ _ _ _ _ ?_ (sat_bind h)
 rintro q8 h
 conv => whnf
 exact ⟨[], ND 0, hQ _ (sat_some h)⟩
theorem c24_Single {P : Program} {fid : Nat → FuncId} (mx : MX P) (k24_Single : KF P fid 24 j24_Single) (h43_single : ∀ n, C43_single (SP P fid) (f43_single n)) : ∀ n, C24_Single (SP P fid) (f24_Single n) :=
 fun n => fun a0 a1 a2 a3 a4 a5 a6 Q R hQ h => spec_of_vc mx k24_Single (w24_Single n (h43_single n) a0 a1 a2 a3 a4 a5 a6 Q R hQ h)
def f25_digit : Option (Tp) := some (Tp.mk 2 (⟨#[]⟩ : BA) 0 9 (⟨#[]⟩ : BA) [])
def C25_digit (O : Oracle TT) (m : Option (Tp)) : Prop :=
  ∀ (Q : Tp → Prop) (R : RR) (_ : ∀ (k1 : Int) (m2 : BA) (lo3 : Int) (hi4 : Int) (p5 : BA) (ps6 : PT), Q (Tp.mk k1 m2 lo3 hi4 p5 ps6) → R (.agg [.int .i64 k1, .str m2, .int .i64 lo3, .int .i64 hi4, .str p5, .isl .part ps6]) []) (_ : sat (m) Q), O 25 [] [] R
def j25_digit : Fn TT := ⟨2, [.cell 0 6 true], (.seq (.reg [qo 0 (.alloc 0 [.int .i64 0, .str (⟨#[]⟩ : BA), .int .i64 0, .int .i64 0, .str (⟨#[]⟩ : BA), .isl .part []])]) (.seq (.reg [qo 1 (.build [.int .i64 0, .str (⟨#[]⟩ : BA), .int .i64 0, .int .i64 0, .str (⟨#[]⟩ : BA), .isl .part []] [((0, 1), (iC 2)), ((3, 1), (iC 9))]),qp (.store 0 1 6)]) .ret))⟩
theorem w25_digit {O : Oracle TT} : C25_digit (fun _ => vcF (S := SS) O j25_digit) f25_digit := by
 intro Q R hQ h
 unfold f25_digit at h
 refine ⟨nle rfl, rfl, ?_⟩
 conv => whnf
 exact ⟨[], ND 0, hQ _ _ _ _ _ _ (sat_some h)⟩
theorem c25_digit {P : Program} {fid : Nat → FuncId} (mx : MX P) (k25_digit : KF P fid 25 j25_digit) : C25_digit (SP P fid) f25_digit :=
 fun Q R hQ h => spec_of_vc mx k25_digit (w25_digit Q R hQ h)
def f6_LawSingle (fuel : Nat) : LI → LI → LI → LI → Option (Bool)
  | l1, l2, l3, l4 => (f21_Schema l1).bind fun l5 => (f22_Type fuel l5 l2).bind fun (.mk k6 m7 lo8 hi9 p10 ps11) => sbind (ο := Int × Int × BA × FV × Int × Int × BA × FV) ((f23_Value fuel l5 (Tp.mk k6 m7 lo8 hi9 p10 ps11) l3).bind fun (.mk k85 n86 s87 f88) => (f23_Value fuel l5 (Tp.mk k6 m7 lo8 hi9 p10 ps11) l4).bind fun (.mk k89 n90 s91 f92) => some (.inr (k85, n86, s87, f88, k89, n90, s91, f92))) (fun (v76, v77, s78, l79, v80, v81, s82, l83) => (f24_Single fuel [] (Tp.mk 0 (⟨#[]⟩ : BA) 0 0 (⟨#[]⟩ : BA) [])).bind fun q149 => cond q149 ((f25_digit).bind fun (.mk k150 m151 lo152 hi153 p154 ps155) => (f24_Single fuel [] (Tp.mk k150 m151 lo152 hi153 p154 ps155)).bind fun q156 => cond q156 (some false) ((f24_Single fuel l5 (Tp.mk k6 m7 lo8 hi9 p10 ps11)).bind fun q157 => cond q157 ((f11_Same fuel (V.mk v76 v77 s78 l79) (V.mk v80 v81 s82 l83)).bind fun q158 => some q158) (some true))) (some false))
def C6_LawSingle (O : Oracle TT) (m : LI → LI → LI → LI → Option (Bool)) : Prop :=
  ∀ (l1 : LI) (l2 : LI) (l3 : LI) (l4 : LI) (Q : Bool → Prop) (R : RR) (_ : ∀ (q159 : Bool), Q q159 → R (.c (.bool q159)) []) (_ : sat (m l1 l2 l3 l4) Q), O 6 [.c (.isl .int l1), .c (.isl .int l2), .c (.isl .int l3), .c (.isl .int l4)] [] R
def j6_LawSingle : Fn TT := ⟨42, [.t 8], (.seq (.reg [qo 8 (.mv bF)]) (.seq (.reg [qo 13 (.mv 0),qo 14 (.call 14 21 [13]),qo 9 (.mv 14)]) (.seq (.reg [qo 15 (.mv 9),qo 16 (.mv 1),qo 17 (.call 17 22 [15, 16]),qo 10 (.alloc 10 [.int .i64 0, .str (⟨#[]⟩ : BA), .int .i64 0, .int .i64 0, .str (⟨#[]⟩ : BA), .isl .part []]),qp (.store 10 17 6)])
 (.cut [9, 10, 11, 12] [(.s 10), (.s 11), (.s 12)]
 (.drw [(.s 11)] (.go 0 (.go 1 (.go 2 (.go 4 (.go 5 (.go 6 (.alt3 3 (.alt3 7 (.alt 8 (.go 9 (.go 10 (.go 11 .nil))) 9 (.go 8 (.go 10 (.go 11 .nil)))) 8 (.alt 7 (.go 9 (.go 10 (.go 11 .nil))) 9 (.go 7 (.go 10 (.go 11 .nil)))) 9 (.alt 7 (.go 8 (.go 10 (.go 11 .nil))) 8 (.go 7 (.go 10 (.go 11 .nil))))) 8 (.alt 3 (.alt 7 (.go 9 (.go 10 (.go 11 .nil))) 9 (.go 7 (.go 10 (.go 11 .nil)))) 9 (.go 3 (.go 7 (.go 10 (.go 11 .nil))))) 9 (.alt 3 (.alt 7 (.go 8 (.go 10 (.go 11 .nil))) 8 (.go 7 (.go 10 (.go 11 .nil)))) 8 (.go 3 (.go 7 (.go 10 (.go 11 .nil)))))))))))) [11] [0, 1, 2, 4, 5, 6] [qo 18 (.mv 9),
 qo 19 (.load 10 6 true),qo 20 (.mv 2),qo 21 (.call 21 23 [18, 19, 20]),qo 22 (.mv 9),qo 23 (.load 10 6 true),qo 24 (.mv 3),qo 25 (.call 25 23 [22, 23, 24]),qo 11 (.alloc 11 [.int .i64 0, .int .i64 0, .str (⟨#[]⟩ : BA), .isl .fld []]),qo 12 (.alloc 12 [.int .i64 0, .int .i64 0, .str (⟨#[]⟩ : BA), .isl .fld []]),qp (.store 11 21 4),qp (.store 12 25 4)]) (.seq (.seq
 (.reg [qo 26 (.build [.int .i64 0, .str (⟨#[]⟩ : BA), .int .i64 0, .int .i64 0, .str (⟨#[]⟩ : BA), .isl .part []] []),qo 27 (.call 27 24 [(.c (.isl .dfn [])), 26]),qo 28 (.un .not 27),qo 29 (.mv 28),qf 29 30 (.call 30 25 []),qf 29 31 (.call 31 24 [(.c (.isl .dfn [])), 30]),qo 32 (.pick 29 bT 31)]) (.cond 32 (.seq (.reg [qo 8 (.mv bF)]) .ret) .skip)) (.seq (.reg [qo 33 (.mv 9),
 qo 34 (.load 10 6 true),qo 35 (.call 35 24 [33, 34]),qo 36 (.un .not 35),qo 37 (.mv 36),qf 37 38 (.load 11 4 true),qf 37 39 (.load 12 4 true),qf 37 40 (.call 40 11 [38, 39]),qo 41 (.pick 37 bT 40),qo 8 (.mv 41)]) .ret))))))⟩
theorem w6_LawSingle {O : Oracle TT} (fuel : Nat) (h21_Schema : C21_Schema O f21_Schema) (h22_Type : C22_Type O (f22_Type fuel)) (h11_Same : C11_Same O (f11_Same fuel)) (h23_Value : C23_Value O (f23_Value fuel)) (h24_Single : C24_Single O (f24_Single fuel)) (h25_digit : C25_digit O f25_digit) : C6_LawSingle (fun _ => vcF (S := SS) O j6_LawSingle) (f6_LawSingle fuel) := by
 intro l1 l2 l3 l4 Q R hQ h
 unfold f6_LawSingle at h
 refine ⟨nle rfl, rfl, ?_⟩
 conv => whnf
 refine ⟨[], ?_⟩
 conv => whnf
 refine h21_Schema _ _ _ ?_ (sat_bind h)
 rintro l5 h
 conv => whnf
 refine ⟨[], ?_⟩
 conv => whnf
 refine h22_Type _ _ _ _ ?_ (sat_bind h)
 rintro k6 m7 lo8 hi9 p10 ps11 h
 obtain ⟨R84, h, hlR84, hrR84⟩ := sat_sbind h
 conv => whnf
 refine ⟨fun σ => ∃ (v76 : Int) (v77 : Int) (s78 : BA) (l79 : FV) (v80 : Int) (v81 : Int) (s82 : BA) (l83 : FV), R84 (.inr (v76, v77, s78, l79, v80, v81, s82, l83)) ∧ σ = ⟨[(9, .c (.isl .dfn l5)), (10, .c (.ptr (.s 10) 0 0)), (11, .c (.ptr (.s 11) 0 0)), (12, .c (.ptr (.s 12) 0 0))], [((.s 10), some (.var [.int .i64 k6, .str m7, .int .i64 lo8, .int .i64 hi9, .str p10, .isl .part ps11])), ((.s 11), some (.var [.int .i64 v76, .int .i64 v77, .str s78, .isl .fld l79])), ((.s 12), some (.var [.int .i64 v80, .int .i64 v81, .str s82, .isl .fld l83]))]⟩, ?_, ?_⟩
 conv => whnf
 refine ⟨?_, ?_, ?_⟩
 conv => whnf
 refine ⟨[], ?_⟩
 conv => whnf
 refine h23_Value _ _ _ _ _ _ _ _ _ _ ?_ (sat_bind h)
 rintro k85 n86 s87 f88 h
 conv => whnf
 refine ⟨?_, ?_, ?_⟩
 conv => whnf
 refine ⟨[], ?_⟩
 conv => whnf
 refine h23_Value _ _ _ _ _ _ _ _ _ _ ?_ (sat_bind h)
 rintro k89 n90 s91 f92 h
 conv => whnf
 refine ⟨?_, ?_⟩
 conv => whnf
 exact ⟨k85, n86, s87, f88, k89, n90, s91, f92, sat_some h, rfl⟩
 conv => whnf
 exact ⟨k85, n86, s87, f88, k89, n90, s91, f92, sat_some h, rfl⟩
 conv => whnf
 refine ⟨?_, ?_⟩
 conv => whnf
 refine ⟨[], ?_⟩
 conv => whnf
 refine h23_Value _ _ _ _ _ _ _ _ _ _ ?_ (sat_bind h)
 rintro k93 n94 s95 f96 h
 conv => whnf
 exact ⟨k85, n86, s87, f88, k93, n94, s95, f96, sat_some h, rfl⟩
 conv => whnf
 refine ⟨[], ?_⟩
 conv => whnf
 refine h23_Value _ _ _ _ _ _ _ _ _ _ ?_ (sat_bind h)
 rintro k97 n98 s99 f100 h
 conv => whnf
 exact ⟨k85, n86, s87, f88, k97, n98, s99, f100, sat_some h, rfl⟩
 conv => whnf
 refine ⟨?_, ?_⟩
 conv => whnf
 refine ⟨[], ?_⟩
 conv => whnf
 refine h23_Value _ _ _ _ _ _ _ _ _ _ ?_ (sat_bind h)
 rintro k101 n102 s103 f104 h
 conv => whnf
 exact ⟨k85, n86, s87, f88, k101, n102, s103, f104, sat_some h, rfl⟩
 conv => whnf
 refine ⟨[], ?_⟩
 conv => whnf
 refine h23_Value _ _ _ _ _ _ _ _ _ _ ?_ (sat_bind h)
 rintro k105 n106 s107 f108 h
 conv => whnf
 exact ⟨k85, n86, s87, f88, k105, n106, s107, f108, sat_some h, rfl⟩
 conv => whnf
 refine ⟨?_, ?_⟩
 conv => whnf
 refine ⟨[], ?_⟩
 conv => whnf
 refine h23_Value _ _ _ _ _ _ _ _ _ _ ?_ (sat_bind h)
 rintro k109 n110 s111 f112 h
 conv => whnf
 refine ⟨?_, ?_⟩
 conv => whnf
 refine ⟨[], ?_⟩
 conv => whnf
 refine h23_Value _ _ _ _ _ _ _ _ _ _ ?_ (sat_bind h)
 rintro k113 n114 s115 f116 h
 conv => whnf
 exact ⟨k109, n110, s111, f112, k113, n114, s115, f116, sat_some h, rfl⟩
 conv => whnf
 refine ⟨[], ?_⟩
 conv => whnf
 refine h23_Value _ _ _ _ _ _ _ _ _ _ ?_ (sat_bind h)
 rintro k117 n118 s119 f120 h
 conv => whnf
 exact ⟨k109, n110, s111, f112, k117, n118, s119, f120, sat_some h, rfl⟩
 conv => whnf
 refine ⟨[], ?_⟩
 conv => whnf
 refine h23_Value _ _ _ _ _ _ _ _ _ _ ?_ (sat_bind h)
 rintro k121 n122 s123 f124 h
 conv => whnf
 refine ⟨[], ?_⟩
 conv => whnf
 refine h23_Value _ _ _ _ _ _ _ _ _ _ ?_ (sat_bind h)
 rintro k125 n126 s127 f128 h
 conv => whnf
 exact ⟨k121, n122, s123, f124, k125, n126, s127, f128, sat_some h, rfl⟩
 conv => whnf
 refine ⟨?_, ?_⟩
 conv => whnf
 refine ⟨[], ?_⟩
 conv => whnf
 refine h23_Value _ _ _ _ _ _ _ _ _ _ ?_ (sat_bind h)
 rintro k129 n130 s131 f132 h
 conv => whnf
 refine ⟨?_, ?_⟩
 conv => whnf
 refine ⟨[], ?_⟩
 conv => whnf
 refine h23_Value _ _ _ _ _ _ _ _ _ _ ?_ (sat_bind h)
 rintro k133 n134 s135 f136 h
 conv => whnf
 exact ⟨k129, n130, s131, f132, k133, n134, s135, f136, sat_some h, rfl⟩
 conv => whnf
 refine ⟨[], ?_⟩
 conv => whnf
 refine h23_Value _ _ _ _ _ _ _ _ _ _ ?_ (sat_bind h)
 rintro k137 n138 s139 f140 h
 conv => whnf
 exact ⟨k129, n130, s131, f132, k137, n138, s139, f140, sat_some h, rfl⟩
 conv => whnf
 refine ⟨[], ?_⟩
 conv => whnf
 refine h23_Value _ _ _ _ _ _ _ _ _ _ ?_ (sat_bind h)
 rintro k141 n142 s143 f144 h
 conv => whnf
 refine ⟨[], ?_⟩
 conv => whnf
 refine h23_Value _ _ _ _ _ _ _ _ _ _ ?_ (sat_bind h)
 rintro k145 n146 s147 f148 h
 conv => whnf
 exact ⟨k141, n142, s143, f144, k145, n146, s147, f148, sat_some h, rfl⟩
 rintro _ ⟨v76, v77, s78, l79, v80, v81, s82, l83, h, rfl⟩
 replace h := hrR84 _ h
 conv => whnf
 refine ⟨[], ?_⟩
 conv => whnf
 refine h24_Single _ _ _ _ _ _ _ _ _ ?_ (sat_bind h)
 rintro q149 h
 cases q149
 replace h := sat_cf h
 conv => whnf
 exact ⟨[], ND 0, hQ _ (sat_some h)⟩
 replace h := sat_ct h
 conv => whnf
 refine ⟨[], ?_⟩
 conv => whnf
 refine h25_digit _ _ ?_ (sat_bind h)
 rintro k150 m151 lo152 hi153 p154 ps155 h
 conv => whnf
 refine ⟨[], ?_⟩
 conv => whnf
 refine h24_Single _ _ _ _ _ _ _ _ _ ?_ (sat_bind h)
 rintro q156 h
 cases q156
 replace h := sat_cf h
 conv => whnf
 refine ⟨[], ?_⟩
 conv => whnf
 refine h24_Single _ _ _ _ _ _ _ _ _ ?_ (sat_bind h)
 rintro q157 h
 cases q157
 replace h := sat_cf h
 conv => whnf
 exact ⟨[], ND 0, hQ _ (sat_some h)⟩
 replace h := sat_ct h
 conv => whnf
 refine ⟨[], ?_⟩
 conv => whnf
 refine h11_Same _ _ _ _ _ _ _ _ _ _ ?_ (sat_bind h)
 rintro q158 h
 conv => whnf
 exact ⟨[], ND 0, hQ _ (sat_some h)⟩
 replace h := sat_ct h
 conv => whnf
 exact ⟨[], ND 0, hQ _ (sat_some h)⟩
theorem c6_LawSingle {P : Program} {fid : Nat → FuncId} (mx : MX P) (k6_LawSingle : KF P fid 6 j6_LawSingle) (h21_Schema : C21_Schema (SP P fid) f21_Schema) (h22_Type : ∀ n, C22_Type (SP P fid) (f22_Type n)) (h11_Same : ∀ n, C11_Same (SP P fid) (f11_Same n)) (h23_Value : ∀ n, C23_Value (SP P fid) (f23_Value n)) (h24_Single : ∀ n, C24_Single (SP P fid) (f24_Single n)) (h25_digit : C25_digit (SP P fid) f25_digit) : ∀ n, C6_LawSingle (SP P fid) (f6_LawSingle n) :=
 fun n => fun a0 a1 a2 a3 Q R hQ h => spec_of_vc mx k6_LawSingle (w6_LawSingle n h21_Schema (h22_Type n) (h11_Same n) (h23_Value n) (h24_Single n) h25_digit a0 a1 a2 a3 Q R hQ h)
end Go.Clap
