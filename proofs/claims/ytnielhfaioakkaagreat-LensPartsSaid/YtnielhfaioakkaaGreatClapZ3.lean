/- The checks of the small code against the loaded functions. -/
import Derived.Test.YtnielhfaioakkaaGreatClapZ2
set_option linter.unusedVariables false
set_option linter.unusedSimpArgs false
set_option maxHeartbeats 4000000
set_option maxRecDepth 100000
namespace Go.Clap
open Go.IntKind (wrap)
def f443 : Int → Int → PT → Option PT
 | i, j, l => grdP (0 ≤ i ∧ i < j ∧ j ≤ (l.length : Int)) (some (l.take i.toNat ++ l.drop j.toNat))
def C443 (O : Oracle TT) (m : Int → Int → PT → Option (PT)) : Prop :=
 ∀ v8 v9 (r5 : PT) (n6 : Nat) (en6 : n6 = r5.length) (Q : PT → Prop) (R : RR) (_ : ∀ (l7 : PT) (n0r : Nat) (_ : n0r = l7.length), Q l7 → R (.c (.osl (.x 1) 0 n0r)) [(.x 0, none), (.x 1, (eR .part l7))]) (_ : sat (m v8 v9 r5) Q), O 443 [.c (.osl (.x 0) 0 n6), iD v8, iD v9] [(.x 0, (eR .part r5))] R
def f447 : Tp → Int → PT → LI → Option (Ln × Tp × Bool)
 | .mk k7 m8 lo9 hiA pB ps5, v6, lH, l0R => cond (decide ((wrap .i64 (v6 + 1)) ≥ ((ps5.length : Nat) : Int))) (some ((Ln.mk 0 (⟨#[]⟩ : BA) (⟨#[]⟩ : BA) [] 0 0 0 0 (V.mk 0 0 (⟨#[]⟩ : BA) []) [] []), (Tp.mk k7 m8 lo9 hiA pB ps5), false)) (sbind (ο := Int × BA × Int × Int × BA × PT × Int × BA × Int × Int × BA × PT) (getL ps5 v6 fun uuI => match uuI with | (a0S, .mk kJ mK loM hiN pO psP) => getL ps5 (wrap .i64 (v6 + 1)) fun uuQ => match uuQ with | (a0T, .mk kU mV loW hiY pZ ps00) => (f63 lH (Tp.mk kJ mK loM hiN pO psP)).bind fun (.mk k01 m02 lo03 hi04 p05 ps06) => (f63 lH (Tp.mk kU mV loW hiY pZ ps00)).bind fun (.mk k07 m08 lo09 hi0A p0B ps0C) => some (.inr (k01, m02, lo03, hi04, p05, ps06, k07, m08, lo09, hi0A, p0B, ps0C))) (fun (v0D, s0U, v0V, v0W, sC, l0X, v0E, s0Y, v0Z, v10, sF, l11) => cond (v0D != 5) (some ((Ln.mk 0 (⟨#[]⟩ : BA) (⟨#[]⟩ : BA) [] 0 0 0 0 (V.mk 0 0 (⟨#[]⟩ : BA) []) [] []), (Tp.mk k7 m8 lo9 hiA pB ps5), false)) (cond (v0E != 5) (some ((Ln.mk 0 (⟨#[]⟩ : BA) (⟨#[]⟩ : BA) [] 0 0 0 0 (V.mk 0 0 (⟨#[]⟩ : BA) []) [] []), (Tp.mk k7 m8 lo9 hiA pB ps5), false)) (cond (!(sC.toList == (⟨#[91, 97, 45, 99, 93, 42]⟩ : BA).toList)) (some ((Ln.mk 0 (⟨#[]⟩ : BA) (⟨#[]⟩ : BA) [] 0 0 0 0 (V.mk 0 0 (⟨#[]⟩ : BA) []) [] []), (Tp.mk k7 m8 lo9 hiA pB ps5), false)) (cond (decide ((sF.size : Int) > 30)) (some ((Ln.mk 0 (⟨#[]⟩ : BA) (⟨#[]⟩ : BA) [] 0 0 0 0 (V.mk 0 0 (⟨#[]⟩ : BA) []) [] []), (Tp.mk k7 m8 lo9 hiA pB ps5), false)) ((f438 (Tp.mk k7 m8 lo9 hiA pB ps5)).bind fun (.mk k0F m0G lo0H hi0I p0J psG) => grdP ((((⟨#[40]⟩ : BA).size + sC.size : Nat) : Int) ≤ 9223372036854775807) (grdP (((((⟨#[40]⟩ : BA) ++ sC).size + (⟨#[41, 45, 40]⟩ : BA).size : Nat) : Int) ≤ 9223372036854775807) (grdP ((((((⟨#[40]⟩ : BA) ++ sC) ++ (⟨#[41, 45, 40]⟩ : BA)).size + sF.size : Nat) : Int) ≤ 9223372036854775807) (grdP (((((((⟨#[40]⟩ : BA) ++ sC) ++ (⟨#[41, 45, 40]⟩ : BA)) ++ sF).size + (⟨#[41]⟩ : BA).size : Nat) : Int) ≤ 9223372036854775807) (grdP ((0 : Int) ≤ v6 ∧ v6 < ((psG.length : Nat) : Int)) (getN psG (0 + v6.toNat) fun uu0K => match uu0K with | (a0L, .mk k12 m13 lo14 hi15 p17 ps18) => (f443 (wrap .i64 (v6 + 1)) (wrap .i64 (v6 + 2)) (psG.set (0 + v6.toNat) (a0L, (Tp.mk 5 (⟨#[]⟩ : BA) 0 0 (((((⟨#[40]⟩ : BA) ++ sC) ++ (⟨#[41, 45, 40]⟩ : BA)) ++ sF) ++ (⟨#[41]⟩ : BA)) [])))).bind fun l0M => getL ps5 v6 fun uu0N => match uu0N with | (a0O, .mk k19 m1A lo1B hi1C p1D ps1E) => getL ps5 (wrap .i64 (v6 + 1)) fun uu0P => match uu0P with | (a0Q, .mk k1F m1G lo1H hi1I p1J ps1K) => some ((Ln.mk 10 a0O a0Q [] 0 0 0 45 (V.mk 0 0 (⟨#[]⟩ : BA) []) [] []), (Tp.mk k0F m0G lo0H hi0I p0J l0M), true))))))))))))
def C447 (O : Oracle TT) (m : Tp → Int → PT → LI → Option (Ln × Tp × Bool)) : Prop :=
 ∀ k7 m8 lo9 hiA pB psC vF l5 l6 (Q : (Ln × Tp × Bool) → Prop) (R : RR) (_ : ∀ opG nmH toI nsJ nK loM hiN sepO kP nQ sU fV prsW ksY kZ m00 lo01 hi02 p03 ps04 q05, Q ((Ln.mk opG nmH toI nsJ nK loM hiN sepO (V.mk kP nQ sU fV) prsW ksY), (Tp.mk kZ m00 lo01 hi02 p03 ps04), q05) → R (.tup [.agg [ci opG, .str nmH, .str toI, .isl .str nsJ, ci nK, ci loM, ci hiN, .int .u8 sepO, ci kP, ci nQ, .str sU, .isl .fld fV, .isl .two prsW, .isl .lens ksY], .agg [ci kZ, .str m00, ci lo01, ci hi02, .str p03, .isl .part ps04], bD q05]) [eV (.x 0) [.isl .dfn l5, .ptr (.x 1) 0 0], eV (.x 1) [.isl .int l6]]) (_ : sat (m (Tp.mk k7 m8 lo9 hiA pB psC) vF l5 l6) Q), O 447 [pX 0, .agg [ci k7, .str m8, ci lo9, ci hiA, .str pB, .isl .part psC], iD vF] [eV (.x 0) [.isl .dfn l5, .ptr (.x 1) 0 0], eV (.x 1) [.isl .int l6]] R
def j447 : Fn TT := ⟨103, [.cell 6 14 true, .cell 7 6 true, .t 8], (sr [qo 4 (.box 4 1),qo 6 (.alloc 6 zLn),qo 7 (.alloc 7 zTp),qm 8 bF] (.seq (sr [qm 12 2,qo 13 (.bin .add .num 12 (iC 1)),qo 14 (.fa 4 5),qo 15 (ld 14),qo 16 (.len false 15),qo 17 (.bin .geq .num 13 16)] (.cond 17 (.seq (.drw [(.s 6)] (oR 5) [3] [0, 1, 4] [qo 18 (.build zLn []),
 qo 19 (.load 4 6 true),qp (.store 6 18 14),qp (.store 7 19 6),qm 8 bF]) .ret) .skip)) (.cut [2, 4, 6, 7, 9, 10] [(.s 4), (.s 6), (.s 7), (.s 9), (.s 10), (.x 0), (.x 1)]
 (.drw [(.s 9)] (.go 0 (.go 1 (.go 2 (.go 3 (.go 4 (.go 5 (.go 6 (.go 7 (.go 8 (.go 9 (.go 11 (.go 12 (.go 13 (.go 14 (.go 15 (.go 16 (.go 17 (.go 18 (.go 19 (.go 20 (.go 21 (.alt3 10 (.alt3 22 (.alt 23 (.go 24 (.go 25 (.go 26 .nil))) 24 (.go 23 (.go 25 (.go 26 .nil)))) 23 (.alt 22 (.go 24 (.go 25 (.go 26 .nil))) 24 (.go 22 (.go 25 (.go 26 .nil)))) 24 (.alt 22 (.go 23 (.go 25 (.go 26 .nil))) 23 (.go 22 (.go 25 (.go 26 .nil))))) 23 (.alt 10 (.alt 22 (.go 24 (.go 25 (.go 26 .nil))) 24 (.go 22 (.go 25 (.go 26 .nil)))) 24 (.go 10 (.go 22 (.go 25 (.go 26 .nil))))) 24 (.alt 10 (.alt 22 (.go 23 (.go 25 (.go 26 .nil))) 23 (.go 22 (.go 25 (.go 26 .nil)))) 23 (.go 10 (.go 22 (.go 25 (.go 26 .nil))))))))))))))))))))))))))) [26] [0, 1, 2, 3, 4, 5, 6, 7, 8, 9, 11, 12, 13, 14, 15, 16, 17, 18, 19, 20, 21] [qm 20 0,
 qo 21 (.nilck 20),qo 22 (.fa 21 0),qo 23 (ld 22),qo 24 (.fa 4 5),qo 25 (ld 24),qm 26 2,qo 27 (.idxA 25 26 7),qo 28 (.fa 27 1),qo 29 (.load 28 6 true),qo 30 (.call 30 63 [23, 29]),qm 31 0,qo 32 (.nilck 31),qo 33 (.fa 32 0),qo 34 (ld 33),qo 35 (.fa 4 5),qo 36 (ld 35),qm 37 2,qo 38 (.bin .add .num 37 (iC 1)),
 qo 39 (.idxA 36 38 7),qo 40 (.fa 39 1),qo 41 (.load 40 6 true),qo 42 (.call 42 63 [34, 41]),qo 9 (.alloc 9 zTp),qo 10 (.alloc 10 zTp),qp (.store 9 30 6),qp (.store 10 42 6)]) (.seq (sr [qo 43 (.fa 9 0),qo 44 (ld 43),qo 45 (.bin .neq .num 44 (iC 5)),qm 46 45,qf 46 47 (.fa 10 0),qf 46 48 (ld 47),qf 46 49 (.bin .neq .num 48 (iC 5)),
 qo 50 (.pick 46 bT 49),qm 51 50,qf 51 52 (.fa 9 4),qf 51 53 (ld 52),qf 51 54 (.bin .neq .str 53 (.c (.str (⟨#[91, 97, 45, 99, 93, 42]⟩ : BA)))),qo 55 (.pick 51 bT 54),qm 56 55,qf 56 57 (.fa 10 4),qf 56 58 (ld 57),qf 56 59 (.len true 58),qf 56 60 (.bin .gtr .num 59 (iC 30)),qo 61 (.pick 56 bT 60)] (.cond 61 (.seq
 (.drw [(.s 6)] (oR 5) [3] [0, 1, 4] [qo 62 (.build zLn []),qo 63 (.load 4 6 true),qp (.store 6 62 14),qp (.store 7 63 6),qm 8 bF]) .ret) .skip)) (sr [qo 64 (.load 4 6 true),qo 65 (.call 65 438 [64]),qo 11 (.alloc 11 zTp),qp (.store 11 65 6)] (sr [qo 66 (.fa 11 5),qo 67 (ld 66),qm 68 2,qo 69 (.fa 9 4),qo 70 (ld 69),
 qo 71 (.bin .add .str (.c (.str (⟨#[40]⟩ : BA))) 70),qo 72 (.bin .add .str 71 (.c (.str (⟨#[41, 45, 40]⟩ : BA)))),qo 73 (.fa 10 4),qo 74 (ld 73),qo 75 (.bin .add .str 72 74),qo 76 (.bin .add .str 75 (.c (.str (⟨#[41]⟩ : BA)))),qo 77 (.build zTp [((0, 1), (iC 5)), ((4, 1), 76)]),qo 78 (.idxA 67 68 7),qo 79 (.fa 78 1),qp (.store 79 77 6)] (.seq
 (.reg [qo 80 (.fa 11 5),qo 81 (ld 80),qm 82 2,qo 83 (.bin .add .num 82 (iC 1)),qm 84 2,qo 85 (.bin .add .num 84 (iC 2)),qo 86 (.call 86 443 [81, 83, 85]),qo 87 (.fa 11 5),qp (.store 87 86 1)]) (.seq (.drw [(.s 6)] (oR 18) [16] [0, 1, 2, 3, 4, 5, 6, 7, 8, 9, 10, 11, 12, 13, 14, 17] [qo 88 (.fa 4 5),qo 89 (ld 88),qm 90 2,qo 91 (.idxA 89 90 7),
 qo 92 (.fa 91 0),qo 93 (ld 92),qo 94 (.fa 4 5),qo 95 (ld 94),qm 96 2,qo 97 (.bin .add .num 96 (iC 1)),qo 98 (.idxA 95 97 7),qo 99 (.fa 98 0),qo 100 (ld 99),qo 101 (.build zLn [((0, 1), (iC 10)), ((1, 1), 93), ((2, 1), 100), ((7, 1), (.c (.int .u8 45)))]),qo 102 (.load 11 6 true),qp (.store 6 101 14),qp (.store 7 102 6),qm 8 bT])
 (.pre [.frzc (.s 7) 5 .part] .ret)))))))))⟩
theorem w447 {O : Oracle TT} (h63 : C63 O f63) (h438 : C438 O f438) (h443 : C443 O f443) : C447 (fun _ => vcF (S := SS) O j447) f447 := by
 intro k0K m0L lo0M hi0N p0O ps0P v0Q l0R l0S Q R hQ h
 unfold f447 at h
 refine ⟨nle rfl, rfl, ?_⟩
 intro hl2V
 refine kc h ?_ ?_ <;> intro h
 obtain ⟨RC, h, aC, bC⟩ := sc h
 refine kX (fun σ => ∃ vI sJ vK vM sG lN vO sP vQ vU sH lV, RC (.inr (vI, sJ, vK, vM, sG, lN, vO, sP, vQ, vU, sH, lV)) ∧ σ = ⟨[(2, iD v0Q), pT 4, pT 6, pT 7, pT 9, pT 10], [eV (.s 4) [ci k0K, .str m0L, ci lo0M, ci hi0N, .str p0O, .isl .part ps0P], eV (.s 6) zLn, eV (.s 7) zTp, eV (.s 9) [ci vI, .str sJ, ci vK, ci vM, .str sG, .isl .part lN], eV (.s 10) [ci vO, .str sP, ci vQ, ci vU, .str sH, .isl .part lV], eV (.x 0) [.isl .dfn l0R, .ptr (.x 1) 0 0], eV (.x 1) [.isl .int l0S]]⟩) ?_ ?_
 refine kg (sat_getL h) fun uuW huuW h => ?_
 obtain ⟨a2W, ⟨k2X, m2Y, lo2Z, hi30, p31, ps32⟩⟩ := uuW
 refine kg (sat_getL h) fun uuY huuY h => ?_
 obtain ⟨a33, ⟨k34, m35, lo36, hi37, p38, ps39⟩⟩ := uuY
 conv => whnf
 refine ⟨?_, ?_, ?_⟩
 refine kL [] (h63 _ _ _ _ _ _ _ _ _ ?_ (sb h))
 rintro k5 m6 lo8 hi9 pA psB h
 conv => whnf
 refine ⟨?_, ?_, ?_⟩
 refine kL [] (h63 _ _ _ _ _ _ _ _ _ ?_ (sb h))
 rintro kZ m00 lo01 hi02 p03 ps04 h
 conv => whnf
 refine ⟨?_, ?_⟩
 conv => whnf
 exact ⟨k5, m6, lo8, hi9, pA, psB, kZ, m00, lo01, hi02, p03, ps04, ss h, rfl⟩
 conv => whnf
 exact ⟨k5, m6, lo8, hi9, pA, psB, kZ, m00, lo01, hi02, p03, ps04, ss h, rfl⟩
 conv => whnf
 refine ⟨?_, ?_⟩
 refine kL [] (h63 _ _ _ _ _ _ _ _ _ ?_ (sb h))
 rintro k0T m0U lo0V hi0W p0X ps0Y h
 conv => whnf
 exact ⟨k5, m6, lo8, hi9, pA, psB, k0T, m0U, lo0V, hi0W, p0X, ps0Y, ss h, rfl⟩
 refine kL [] (h63 _ _ _ _ _ _ _ _ _ ?_ (sb h))
 rintro k0Z m10 lo11 hi12 p13 ps14 h
 conv => whnf
 exact ⟨k5, m6, lo8, hi9, pA, psB, k0Z, m10, lo11, hi12, p13, ps14, ss h, rfl⟩
 conv => whnf
 refine ⟨?_, ?_⟩
 refine kL [] (h63 _ _ _ _ _ _ _ _ _ ?_ (sb h))
 rintro k15 m17 lo18 hi19 p1A ps1B h
 conv => whnf
 exact ⟨k5, m6, lo8, hi9, pA, psB, k15, m17, lo18, hi19, p1A, ps1B, ss h, rfl⟩
 refine kL [] (h63 _ _ _ _ _ _ _ _ _ ?_ (sb h))
 rintro k1C m1D lo1E hi1F p1G ps1H h
 conv => whnf
 exact ⟨k5, m6, lo8, hi9, pA, psB, k1C, m1D, lo1E, hi1F, p1G, ps1H, ss h, rfl⟩
 conv => whnf
 refine ⟨?_, ?_⟩
 refine kL [] (h63 _ _ _ _ _ _ _ _ _ ?_ (sb h))
 rintro k05 m06 lo07 hi08 p09 ps0A h
 conv => whnf
 refine ⟨?_, ?_⟩
 refine kL [] (h63 _ _ _ _ _ _ _ _ _ ?_ (sb h))
 rintro k1I m1J lo1K hi1L p1M ps1N h
 conv => whnf
 exact ⟨k05, m06, lo07, hi08, p09, ps0A, k1I, m1J, lo1K, hi1L, p1M, ps1N, ss h, rfl⟩
 refine kL [] (h63 _ _ _ _ _ _ _ _ _ ?_ (sb h))
 rintro k1O m1P lo1Q hi1R p1S ps1T h
 conv => whnf
 exact ⟨k05, m06, lo07, hi08, p09, ps0A, k1O, m1P, lo1Q, hi1R, p1S, ps1T, ss h, rfl⟩
 refine kL [] (h63 _ _ _ _ _ _ _ _ _ ?_ (sb h))
 rintro k1U m1V lo1W hi1X p1Y ps1Z h
 refine kL [] (h63 _ _ _ _ _ _ _ _ _ ?_ (sb h))
 rintro k20 m21 lo22 hi23 p24 ps25 h
 conv => whnf
 exact ⟨k1U, m1V, lo1W, hi1X, p1Y, ps1Z, k20, m21, lo22, hi23, p24, ps25, ss h, rfl⟩
 conv => whnf
 refine ⟨?_, ?_⟩
 refine kL [] (h63 _ _ _ _ _ _ _ _ _ ?_ (sb h))
 rintro k0B m0C lo0D hi0E p0F ps0G h
 conv => whnf
 refine ⟨?_, ?_⟩
 refine kL [] (h63 _ _ _ _ _ _ _ _ _ ?_ (sb h))
 rintro k26 m27 lo28 hi29 p2A ps2B h
 conv => whnf
 exact ⟨k0B, m0C, lo0D, hi0E, p0F, ps0G, k26, m27, lo28, hi29, p2A, ps2B, ss h, rfl⟩
 refine kL [] (h63 _ _ _ _ _ _ _ _ _ ?_ (sb h))
 rintro k2C m2D lo2E hi2F p2G ps2H h
 conv => whnf
 exact ⟨k0B, m0C, lo0D, hi0E, p0F, ps0G, k2C, m2D, lo2E, hi2F, p2G, ps2H, ss h, rfl⟩
 refine kL [] (h63 _ _ _ _ _ _ _ _ _ ?_ (sb h))
 rintro k2I m2J lo2K hi2L p2M ps2N h
 refine kL [] (h63 _ _ _ _ _ _ _ _ _ ?_ (sb h))
 rintro k2O m2P lo2Q hi2R p2S ps2T h
 conv => whnf
 exact ⟨k2I, m2J, lo2K, hi2L, p2M, ps2N, k2O, m2P, lo2Q, hi2R, p2S, ps2T, ss h, rfl⟩
 rintro _ ⟨vI, sJ, vK, vM, sG, lN, vO, sP, vQ, vU, sH, lV, h, rfl⟩
 replace h := bC _ h
 refine kc h ?_ ?_ <;> intro h
 refine kc h ?_ ?_ <;> intro h
 refine kc h ?_ ?_ <;> intro h
 refine kc h ?_ ?_ <;> intro h
 refine kL [] (h438 _ _ _ _ _ _ _ _ ?_ (sb h))
 rintro k3A m3B lo3C hi3D p3E ps3F _ rfl h
 refine kp h fun hb3G h => ?_
 refine kp h fun hb3H h => ?_
 refine kp h fun hb3I h => ?_
 refine kp h fun hb3J h => ?_
 refine kp h fun hb3K h => ?_
 refine kg (sat_getN h) fun uu0H huu0H h => ?_
 obtain ⟨a2U, ⟨k3L, m3M, lo3N, hi3O, p3P, ps3Q⟩⟩ := uu0H
 refine ⟨(a2U, (Tp.mk 5 eB 0 0 (((((⟨#[40]⟩ : BA) ++ sG) ++ (⟨#[41, 45, 40]⟩ : BA)) ++ sH) ++ (⟨#[41]⟩ : BA)) [])), rfl, ?_⟩
 refine kL [(.sub (.s 65) 0)] (h443 _ _ _ _ LN _ _ ?_ (sb h))
 rintro l3R _ rfl h
 refine kg (sat_getL h) fun uu0I huu0I h => ?_
 obtain ⟨a3S, ⟨k3T, m3U, lo3V, hi3W, p3X, ps3Y⟩⟩ := uu0I
 refine kg (sat_getL h) fun uu0J huu0J h => ?_
 obtain ⟨a3Z, ⟨k40, m41, lo42, hi43, p44, ps45⟩⟩ := uu0J
 conv => whnf
 refine ⟨LN, ?_⟩
 exact kR [] (ND 2) (hQ _ _ _ _ _ _ _ _ _ _ _ _ _ _ _ _ _ _ _ _ _ (ss h))
 exact kR [] (ND 2) (hQ _ _ _ _ _ _ _ _ _ _ _ _ _ _ _ _ _ _ _ _ _ (ss h))
 exact kR [] (ND 2) (hQ _ _ _ _ _ _ _ _ _ _ _ _ _ _ _ _ _ _ _ _ _ (ss h))
 exact kR [] (ND 2) (hQ _ _ _ _ _ _ _ _ _ _ _ _ _ _ _ _ _ _ _ _ _ (ss h))
 exact kR [] (ND 2) (hQ _ _ _ _ _ _ _ _ _ _ _ _ _ _ _ _ _ _ _ _ _ (ss h))
 exact kR [] (ND 2) (hQ _ _ _ _ _ _ _ _ _ _ _ _ _ _ _ _ _ _ _ _ _ (ss h))
def f446 : Int → PT → PT → Option PT
 | i, vs, l => grdP (0 ≤ i ∧ i ≤ (l.length : Int) ∧ (l.length + vs.length) * 2000 ≤ 140737488355328) (some (l.take i.toNat ++ vs ++ l.drop i.toNat))
def C446 (O : Oracle TT) (m : Int → PT → PT → Option (PT)) : Prop :=
 ∀ v8 l9 (r5 : PT) (n6 : Nat) (en6 : n6 = r5.length) (Q : PT → Prop) (R : RR) (_ : ∀ (l7 : PT) (n0r : Nat) (_ : n0r = l7.length), Q l7 → R (.c (.osl (.x 1) 0 n0r)) [(.x 0, none), (.x 1, (eR .part l7))]) (_ : sat (m v8 l9 r5) Q), O 446 [.c (.osl (.x 0) 0 n6), iD v8, .c (.isl .part l9)] [(.x 0, (eR .part r5))] R
def f445_L2 (k5 : Int) (m6 : BA) (lo7 : Int) (hi8 : Int) (p9 : BA) (psA : PT) (vB : Int) : PT → Nat → Option (Sum (Ln × Tp × Bool) (Unit))
 | [], jC => some (.inr ())
 | ((aG, .mk kH mI loJ hiK pM psN)) :: tlE, jC => (f455 (Tp.mk k5 m6 lo7 hi8 p9 psA) aG).bind fun vF => cond (decide (vF ≥ 0)) (cond (vF != vB) (lft (some ((Ln.mk 0 (⟨#[]⟩ : BA) (⟨#[]⟩ : BA) [] 0 0 0 0 (V.mk 0 0 (⟨#[]⟩ : BA) []) [] []), (Tp.mk k5 m6 lo7 hi8 p9 psA), false))) (f445_L2 k5 m6 lo7 hi8 p9 psA vB tlE (jC + 1))) (f445_L2 k5 m6 lo7 hi8 p9 psA vB tlE (jC + 1))
def f445 : Tp → Int → PT → LI → Option (Ln × Tp × Bool)
 | .mk k7 m8 lo9 hiA pB ps5, v6, lF, l09 => sbind (ο := Int × BA × Int × Int × BA × PT) (getL ps5 v6 fun uuG => match uuG with | (a0A, .mk kH mI loJ hiK pM psN) => (f63 lF (Tp.mk kH mI loJ hiK pM psN)).bind fun (.mk kO mP loQ hiU pV psW) => some (.inr (kO, mP, loQ, hiU, pV, psW))) (fun (vY, s0B, v0C, v0D, s0E, lC) => cond (vY != 6) (some ((Ln.mk 0 (⟨#[]⟩ : BA) (⟨#[]⟩ : BA) [] 0 0 0 0 (V.mk 0 0 (⟨#[]⟩ : BA) []) [] []), (Tp.mk k7 m8 lo9 hiA pB ps5), false)) (cond (decide ((wrap .i64 (((ps5.length : Nat) : Int) + ((lC.length : Nat) : Int))) > 24)) (some ((Ln.mk 0 (⟨#[]⟩ : BA) (⟨#[]⟩ : BA) [] 0 0 0 0 (V.mk 0 0 (⟨#[]⟩ : BA) []) [] []), (Tp.mk k7 m8 lo9 hiA pB ps5), false)) (sbind (ο := Unit) (f445_L2 k7 m8 lo9 hiA pB ps5 v6 lC 0) (fun () => (f438 (Tp.mk k7 m8 lo9 hiA pB ps5)).bind fun (.mk kZ m00 lo01 hi02 p03 ps04) => (f443 v6 (wrap .i64 (v6 + 1)) ps04).bind fun l05 => (f446 v6 lC l05).bind fun l06 => getL ps5 v6 fun uu07 => match uu07 with | (a08, .mk k0F m0G lo0H hi0I p0J ps0K) => some ((Ln.mk 7 a08 (⟨#[]⟩ : BA) [] 0 0 0 0 (V.mk 0 0 (⟨#[]⟩ : BA) []) [] []), (Tp.mk kZ m00 lo01 hi02 p03 l06), true)))))
def C445 (O : Oracle TT) (m : Tp → Int → PT → LI → Option (Ln × Tp × Bool)) : Prop :=
 ∀ k7 m8 lo9 hiA pB psC vF l5 l6 (Q : (Ln × Tp × Bool) → Prop) (R : RR) (_ : ∀ opG nmH toI nsJ nK loM hiN sepO kP nQ sU fV prsW ksY kZ m00 lo01 hi02 p03 ps04 q05, Q ((Ln.mk opG nmH toI nsJ nK loM hiN sepO (V.mk kP nQ sU fV) prsW ksY), (Tp.mk kZ m00 lo01 hi02 p03 ps04), q05) → R (.tup [.agg [ci opG, .str nmH, .str toI, .isl .str nsJ, ci nK, ci loM, ci hiN, .int .u8 sepO, ci kP, ci nQ, .str sU, .isl .fld fV, .isl .two prsW, .isl .lens ksY], .agg [ci kZ, .str m00, ci lo01, ci hi02, .str p03, .isl .part ps04], bD q05]) [eV (.x 0) [.isl .dfn l5, .ptr (.x 1) 0 0], eV (.x 1) [.isl .int l6]]) (_ : sat (m (Tp.mk k7 m8 lo9 hiA pB psC) vF l5 l6) Q), O 445 [pX 0, .agg [ci k7, .str m8, ci lo9, ci hiA, .str pB, .isl .part psC], iD vF] [eV (.x 0) [.isl .dfn l5, .ptr (.x 1) 0 0], eV (.x 1) [.isl .int l6]] R
def j445 : Fn TT := ⟨82, [.cell 6 14 true, .cell 7 6 true, .t 8], (sr [qo 4 (.box 4 1),qo 6 (.alloc 6 zLn),qo 7 (.alloc 7 zTp),qm 8 bF] (.cut [2, 4, 6, 7, 9] [(.s 4), (.s 6), (.s 7), (.s 9), (.x 0), (.x 1)]
 (.drw [] (.go 0 (.go 1 (.go 2 (.go 3 (.go 4 (.go 5 (.go 6 (.go 7 (.go 8 (.go 9 (.alt 10 (.go 11 (.go 12 .nil)) 11 (.go 10 (.go 12 .nil))))))))))))) [12] [0, 1, 2, 3, 4, 5, 6, 7, 8, 9] [qm 14 0,qo 15 (.nilck 14),qo 16 (.fa 15 0),qo 17 (ld 16),qo 18 (.fa 4 5),qo 19 (ld 18),qm 20 2,qo 21 (.idxA 19 20 7),qo 22 (.fa 21 1),qo 23 (.load 22 6 true),
 qo 24 (.call 24 63 [17, 23]),qo 9 (.alloc 9 zTp),qp (.store 9 24 6)]) (.seq (sr [qo 25 (.fa 9 0),qo 26 (ld 25),qo 27 (.bin .neq .num 26 (iC 6)),qm 28 27,qf 28 29 (.fa 4 5),qf 28 30 (ld 29),qf 28 31 (.len false 30),qf 28 32 (.fa 9 5),qf 28 33 (ld 32),qf 28 34 (.len false 33),qf 28 35 (.bin .add .num 31 34),
 qf 28 36 (.bin .gtr .num 35 (iC 24)),qo 37 (.pick 28 bT 36)] (.cond 37 (.seq (.drw [(.s 6)] (oR 5) [3] [0, 1, 4] [qo 38 (.build zLn []),qo 39 (.load 4 6 true),qp (.store 6 38 14),qp (.store 7 39 6),qm 8 bF]) .ret) .skip)) (.cut [2, 4, 6, 7, 9] [(.s 4), (.s 6), (.s 7), (.s 9), (.x 0), (.x 1)] (sr [qo 40 (.fa 9 5),qo 41 (ld 40),qo 42 (.len false 41),
 qo 43 (.mv (iC 0))] (.block 0 (.loop (.keep [2, 4, 6, 7, 9, 41, 42, 43] [(.s 4), (.s 6), (.s 7), (.s 9), (.x 0), (.x 1)] (.aft (sr [qo 44 (.bin .lss .num 43 42)] (.seq (.cond 44 .skip (.exit 0)) (.seq (.block 1 (sr [qo 45 (.idxA 41 43 7),qo 46 (.load 45 7 true),qo 11 (.alloc 11 zPt),qp (.store 11 46 7)] (sr [qo 47 (.load 4 6 true),qo 48 (.fa 11 0),
 qo 49 (ld 48),qo 50 (.call 50 455 [47, 49]),qm 12 50] (sr [qm 51 12,qo 52 (.bin .geq .num 51 (iC 0)),qm 53 52,qg 53 54 (.mv 12),qg 53 55 (.mv 2),qg 53 56 (.bin .neq .num 54 55),qo 57 (.pick 53 56 bF)] (.cond 57 (.seq (.drw [(.s 6)] (oR 5) [3] [0, 1, 4] [qo 58 (.build zLn []),qo 59 (.load 4 6 true),qp (.store 6 58 14),qp (.store 7 59 6),
 qm 8 bF]) .ret) .skip))))) (.reg [qo 60 (.bin .add .num 43 (iC 1)),qm 43 60])))) [.keep [2, 4, 6, 7, 9, 41, 42, 43] [(.s 4), (.s 6), (.s 7), (.s 9), (.x 0), (.x 1)]]))))) (sr [qo 61 (.load 4 6 true),qo 62 (.call 62 438 [61]),qo 13 (.alloc 13 zTp),qp (.store 13 62 6)] (.seq
 (.drw [(.sub (.s 62) 0), (.sub (.s 68) 0)] (ol [0, 1, 2, 3, 4, 6, 7, 8, 5, 9, 10, 11]) [11] [0, 1, 2, 3, 4, 6, 7, 8, 10] [qo 63 (.fa 13 5),qo 64 (ld 63),qm 65 2,qm 66 2,qo 67 (.bin .add .num 66 (iC 1)),qo 68 (.call 68 443 [64, 65, 67]),qm 69 2,qo 70 (.fa 9 5),qo 71 (ld 70),qo 72 (.call 72 446 [68, 69, 71]),qo 73 (.fa 13 5),qp (.store 73 72 1)])
 (.seq (.drw [(.s 6)] (oR 11) [9] [0, 1, 2, 3, 4, 5, 6, 7, 10] [qo 74 (.fa 4 5),qo 75 (ld 74),qm 76 2,qo 77 (.idxA 75 76 7),qo 78 (.fa 77 0),qo 79 (ld 78),qo 80 (.build zLn [((0, 1), (iC 7)), ((1, 1), 79)]),qo 81 (.load 13 6 true),qp (.store 6 80 14),qp (.store 7 81 6),qm 8 bT]) (.pre [.frzc (.s 7) 5 .part] .ret))))))))⟩
theorem w445 {O : Oracle TT} (h63 : C63 O f63) (h438 : C438 O f438) (h455 : C455 O f455) (h443 : C443 O f443) (h446 : C446 O f446) : C445 (fun _ => vcF (S := SS) O j445) f445 := by
 intro kM mN loO hiP pQ psU vV lY lZ Q R hQ h
 unfold f445 at h
 refine ⟨nle rfl, rfl, ?_⟩
 obtain ⟨RW, h, aW, bW⟩ := sc h
 refine kX (fun σ => ∃ vC sG vH vI sJ l5, RW (.inr (vC, sG, vH, vI, sJ, l5)) ∧ σ = ⟨[(2, iD vV), pT 4, pT 6, pT 7, pT 9], [eV (.s 4) [ci kM, .str mN, ci loO, ci hiP, .str pQ, .isl .part psU], eV (.s 6) zLn, eV (.s 7) zTp, eV (.s 9) [ci vC, .str sG, ci vH, ci vI, .str sJ, .isl .part l5], eV (.x 0) [.isl .dfn lY, .ptr (.x 1) 0 0], eV (.x 1) [.isl .int lZ]]⟩) ?_ ?_
 refine kg (sat_getL h) fun uu00 huu00 h => ?_
 obtain ⟨a0G, ⟨k0H, m0I, lo0J, hi0K, p0L, ps0M⟩⟩ := uu00
 conv => whnf
 refine ⟨?_, ?_⟩
 refine kL [] (h63 _ _ _ _ _ _ _ _ _ ?_ (sb h))
 rintro k04 m05 lo06 hi07 p08 ps09 h
 conv => whnf
 exact ⟨k04, m05, lo06, hi07, p08, ps09, ss h, rfl⟩
 refine kL [] (h63 _ _ _ _ _ _ _ _ _ ?_ (sb h))
 rintro k0A m0B lo0C hi0D p0E ps0F h
 conv => whnf
 exact ⟨k0A, m0B, lo0C, hi0D, p0E, ps0F, ss h, rfl⟩
 rintro _ ⟨vC, sG, vH, vI, sJ, l5, h, rfl⟩
 replace h := bW _ h
 refine kc h ?_ ?_ <;> intro h
 intro hl0N
 intro hl0O
 refine kc h ?_ ?_ <;> intro h
 obtain ⟨RA, h, aA, bA⟩ := sc h
 refine kX (fun σ => RA (.inr ()) ∧ σ = ⟨[(2, iD vV), pT 4, pT 6, pT 7, pT 9], [eV (.s 4) [ci kM, .str mN, ci loO, ci hiP, .str pQ, .isl .part psU], eV (.s 6) zLn, eV (.s 7) zTp, eV (.s 9) [ci vC, .str sG, ci vH, ci vI, .str sJ, .isl .part l5], eV (.x 0) [.isl .dfn lY, .ptr (.x 1) 0 0], eV (.x 1) [.isl .int lZ]]⟩) ?_ ?_
 intro hl01
 refine kX (fun σ n => ∃ (rem6 : PT) (j8 : Nat) (z : Int), n = rem6.length ∧ l5.drop j8 = rem6 ∧ z = ((j8 : Nat) : Int) ∧ sat (f445_L2 kM mN loO hiP pQ psU vV rem6 j8) RA ∧ σ.keep [2, 4, 6, 7, 9, 41, 42, 43] [(.s 4), (.s 6), (.s 7), (.s 9), (.x 0), (.x 1)] = ⟨[(2, iD vV), pT 4, pT 6, pT 7, pT 9, (41, .c (.isl .part l5)), (42, iD ((l5.length : Nat) : Int)), (43, iD z)], [eV (.s 4) [ci kM, .str mN, ci loO, ci hiP, .str pQ, .isl .part psU], eV (.s 6) zLn, eV (.s 7) zTp, eV (.s 9) [ci vC, .str sG, ci vH, ci vI, .str sJ, .isl .part l5], eV (.x 0) [.isl .dfn lY, .ptr (.x 1) 0 0], eV (.x 1) [.isl .int lZ]]⟩) ⟨_, l5, 0, _, rfl, rfl, rfl, h, rfl⟩ ?_
 rintro σ n ⟨rem6, j8, _, rfl, hrem6, rfl, h, hσ⟩
 refine kk hσ ?_
 intro tK (htK : tK = decide (((j8 : Nat) : Int) < ((l5.length : Nat) : Int)))
 cases tK
 obtain rfl := ll_nil hrem6 htK
 rw [f445_L2] at h
 conv => whnf
 exact ⟨ss h, rfl⟩
 obtain ⟨xB, tl9, rfl, hxB, htl9⟩ := ll_cons hrem6 htK
 obtain ⟨a0P, ⟨k0Q, m0R, lo0S, hi0T, p0U, ps0V⟩⟩ := xB
 rw [f445_L2] at h
 conv => whnf
 refine ⟨lx_bd hxB, fun uu02 huu02 => ?_⟩
 obtain rfl := lx_eq hxB huu02
 refine kL [] (h455 _ _ _ _ _ _ _ _ _ ?_ (sb h))
 rintro v0W h
 refine kc h ?_ ?_ <;> intro h
 conv => whnf
 exact ⟨tl9.length, nls, tl9, j8 + 1, _, rfl, htl9, lx_wr hxB hl01, h, rfl⟩
 refine kc h ?_ ?_ <;> intro h
 conv => whnf
 exact ⟨tl9.length, nls, tl9, j8 + 1, _, rfl, htl9, lx_wr hxB hl01, h, rfl⟩
 replace h := sat_lft aA h
 exact kR [] (ND 2) (hQ _ _ _ _ _ _ _ _ _ _ _ _ _ _ _ _ _ _ _ _ _ (ss h))
 rintro _ ⟨h, rfl⟩
 replace h := bA _ h
 refine kL [] (h438 _ _ _ _ _ _ _ _ ?_ (sb h))
 rintro k0X m0Y lo0Z hi10 p11 ps12 _ rfl h
 refine kL [(.sub (.s 62) 0)] (h443 _ _ _ _ LN _ _ ?_ (sb h))
 rintro l13 _ rfl h
 refine kL [(.sub (.s 68) 0)] (h446 _ _ _ _ LN _ _ ?_ (sb h))
 rintro l14 _ rfl h
 refine kg (sat_getL h) fun uu03 huu03 h => ?_
 obtain ⟨a15, ⟨k17, m18, lo19, hi1A, p1B, ps1C⟩⟩ := uu03
 conv => whnf
 refine ⟨LN, ?_⟩
 exact kR [] (ND 2) (hQ _ _ _ _ _ _ _ _ _ _ _ _ _ _ _ _ _ _ _ _ _ (ss h))
 exact kR [] (ND 2) (hQ _ _ _ _ _ _ _ _ _ _ _ _ _ _ _ _ _ _ _ _ _ (ss h))
 exact kR [] (ND 2) (hQ _ _ _ _ _ _ _ _ _ _ _ _ _ _ _ _ _ _ _ _ _ (ss h))
def f458_L1 : Nat → LB → Int → Int → Option (LB)
 | 0, _, _, _ => none
 | g9 + 1, l5, v6, v7 => cond (decide (v6 < v7)) (grdP ((0 : Int) ≤ v7 ∧ v7 < ((l5.length : Nat) : Int)) (getN l5 (0 + v7.toNat) fun w8 => grdP ((0 : Int) ≤ v6 ∧ v6 < ((l5.length : Nat) : Int)) (getN l5 (0 + v6.toNat) fun wA => grdP ((0 : Int) ≤ v6 ∧ v6 < ((l5.length : Nat) : Int)) (getN l5 (0 + v6.toNat) fun wB => grdP ((0 : Int) ≤ v7 ∧ v7 < ((l5.length : Nat) : Int)) (getN (l5.set (0 + v6.toNat) w8) (0 + v7.toNat) fun wC => f458_L1 g9 ((l5.set (0 + v6.toNat) w8).set (0 + v7.toNat) wA) (wrap .i64 (v6 + 1)) (wrap .i64 (v7 - 1))))))) (some l5)
def f458 (fuel : Nat) : LB → Option (LB)
 | r0 => f458_L1 fuel r0 (0 : Int) (wrap .i64 (((r0.length : Nat) : Int) - 1))
def C458 (O : Oracle TT) (m : LB → Option (LB)) : Prop :=
 ∀ (r5 : LB) (n6 : Nat) (en6 : n6 = r5.length) (Q : LB → Prop) (R : RR) (_ : ∀ (l7 : LB) (_ : l7.length = r5.length), Q l7 → R (.tup []) [(.x 0, (eR .str l7))]) (_ : sat (m r5) Q), O 458 [.c (.osl (.x 0) 0 n6)] [(.x 0, (eR .str r5))] R
def j458 : Fn TT := ⟨28, [], (sr [qm 4 0,qo 5 (.len false 4),qo 6 (.bin .sub .num 5 (iC 1)),qo 2 (.mv (iC 0)),qm 3 6] (.block 0 (.loop (.keep [0, 2, 3] [(.x 0)] (.aft (.seq (sr [qm 7 2,qm 8 3,qo 9 (.bin .lss .num 7 8)] (.cond 9 .skip (.exit 0))) (.seq (.block 1
 (.drw [] (oR 16) [13, 15] [0, 1, 2, 3, 4, 5, 6, 7, 8, 9, 10, 11, 12, 14] [qm 14 0,qm 15 2,qm 16 0,qm 17 3,qm 18 0,qm 19 3,qo 20 (.idxA 18 19 1),qo 21 (ld 20),qm 22 0,qm 23 2,qo 24 (.idxA 22 23 1),qo 25 (ld 24),qo 26 (.idxA 14 15 1),qp (.store 26 21 1),qo 27 (.idxA 16 17 1),qp (.store 27 25 1)]))
 (.reg [qm 10 2,qo 11 (.bin .add .num 10 (iC 1)),qm 12 3,qo 13 (.bin .sub .num 12 (iC 1)),qm 2 11,qm 3 13]))) [.keep [0, 2, 3] [(.x 0)]])))))⟩
theorem w458 {O : Oracle TT} (fuel : Nat) : C458 (fun _ => vcF (S := SS) O j458) (f458 fuel) := by
 intro rA nB enB Q R hQ h
 subst enB
 unfold f458 at h
 refine ⟨nle rfl, rfl, ?_⟩
 intro hlH
 refine kX (fun σ n => ∃ (f9 : Nat) (l5 : LB) (v6 : Int) (v8 : Int) (nC : Nat), f9 = n ∧ nC = l5.length ∧ l5.length = rA.length ∧ sat (f458_L1 f9 l5 v6 v8) Q ∧ σ.keep [0, 2, 3] [(.x 0)] = ⟨[(0, .c (.osl (.x 0) 0 nC)), (2, iD v6), (3, iD v8)], [(.x 0, (eR .str l5))]⟩) ⟨_, _, rA, (0 : Int), (wrap .i64 (((rA.length : Nat) : Int) - 1)), _, rfl, LN, LN, h, rfl⟩ ?_
 rintro σ n ⟨f9, l5, v6, v8, _, rfl, rfl, hkll5, h, hσ⟩
 refine kk hσ ?_
 rcases f9 with _ | gE
 rw [f458_L1] at h; exact nn h
 rw [f458_L1] at h
 refine kc h ?_ ?_ <;> intro h
 exact kR [] (ND 1) (hQ _ LN (ss h))
 refine kp h fun hbI h => ?_
 refine kg (sat_getN h) fun wF huuJ h => ?_
 refine kp h fun hbK h => ?_
 refine kg (sat_getN h) fun wG huuL h => ?_
 refine kp h fun hbM h => ?_
 refine kg (sat_getN h) fun wN huuO h => ?_
 refine ⟨wF, rfl, ?_⟩
 refine kp h fun hbP h => ?_
 refine kg (sat_getN h) fun wQ huuR h => ?_
 refine ⟨wG, rfl, ?_⟩
 conv => whnf
 exact ⟨gE, nls, gE, ((l5.set (0 + v6.toNat) wF).set (0 + v8.toNat) wG), (wrap .i64 (v6 + 1)), (wrap .i64 (v8 - 1)), _, rfl, LN, LN, h, rfl⟩
def f444_L2 (v7 : Int) : PT → Nat → LB → LI → Option (Sum (Ln × Tp × LI) (LI × LB))
 | [], j6, l5, l8 => some (.inr (l8, l5))
 | ((a9, .mk kE mF loG hiH pI psJ)) :: tlA, j6, l5, l8 => cond (((j6 : Nat) : Int) == v7) (grdP (l5.length + ([a9] : LB).length ≤ 68719476736) (f444_L2 v7 tlA (j6 + 1) (l5 ++ ([a9] : LB)) l8)) ((f15 (3 : Int) l8).bind fun (vC, lB) => cond (vC == 0) (grdP (l5.length + ([a9] : LB).length ≤ 68719476736) (f444_L2 v7 tlA (j6 + 1) (l5 ++ ([a9] : LB)) lB)) (f444_L2 v7 tlA (j6 + 1) l5 lB))
def f444_L4 (k9 : Int) (mA : BA) (loB : Int) (hiC : Int) (pE : BA) (ps7 : PT) (l8 : LB) : Nat → Int → PT → Option (Sum (Ln × Tp × LI) (PT))
 | 0, v5, l6 => some (.inr l6)
 | gN + 1, v5, l6 => grdP ((0 : Int) ≤ v5 ∧ v5 < ((l8.length : Nat) : Int)) (getN l8 (0 + v5.toNat) fun wO => (f455 (Tp.mk k9 mA loB hiC pE ps7) wO).bind fun vP => getL ps7 vP fun uuQ => match uuQ with | (aF, .mk kG mH loI hiJ pK psM) => grdP (l6.length + ([(aF, (Tp.mk kG mH loI hiJ pK psM))] : PT).length ≤ 68719476736) (f444_L4 k9 mA loB hiC pE ps7 l8 gN (v5 + 1) (l6 ++ ([(aF, (Tp.mk kG mH loI hiJ pK psM))] : PT))))
def f444_L6 (s6 : BA) (l8 : LB) (l7 : PT) : PT → Nat → PT → Bool → Option (Sum (Ln × Tp × LI) (PT))
 | [], j9, l5, qA => some (.inr l5)
 | ((aB, .mk kF mG loH hiI pJ psK)) :: tlC, j9, l5, qA => (f170 l8 aB).bind fun qM => cond qM (cond qA (f444_L6 s6 l8 l7 tlC (j9 + 1) l5 true) (grdP (l5.length + ([(s6, (Tp.mk 6 (⟨#[]⟩ : BA) 0 0 (⟨#[]⟩ : BA) l7))] : PT).length ≤ 68719476736) (f444_L6 s6 l8 l7 tlC (j9 + 1) (l5 ++ ([(s6, (Tp.mk 6 (⟨#[]⟩ : BA) 0 0 (⟨#[]⟩ : BA) l7))] : PT)) true))) (grdP (l5.length + ([(aB, (Tp.mk kF mG loH hiI pJ psK))] : PT).length ≤ 68719476736) (f444_L6 s6 l8 l7 tlC (j9 + 1) (l5 ++ ([(aB, (Tp.mk kF mG loH hiI pJ psK))] : PT)) qA))
def f444 (fuel : Nat) : Tp → PT → LI → Option (Ln × Tp × LI)
 | .mk k7 m8 lo9 hiA pB ps5, lH, lI => (f440 (Tp.mk k7 m8 lo9 hiA pB ps5) lH lI).bind fun (sC, lJ) => (f15 ((ps5.length : Nat) : Int) lJ).bind fun (vK, lM) => sbind (ο := LI × LB) (f444_L2 vK ps5 0 [] lM) (fun (lN, lF) => sbind (ο := LI × LB) ((f15 (2 : Int) lN).bind fun (vO, lG) => cond (vO == 0) ((f458 fuel lF).bind fun lP => some (.inr (lG, lP))) (some (.inr (lG, lF)))) (fun (lQ, l6) => sbind (ο := PT) (grdP (((l6.length : Nat) : Int) ≤ 9223372036854775807) (f444_L4 k7 m8 lo9 hiA pB ps5 l6 (((l6.length : Nat) : Int) - 0).toNat 0 [])) (fun lU => sbind (ο := PT) (f444_L6 sC l6 lU ps5 0 [] false) (fun lV => some ((Ln.mk 6 (⟨#[]⟩ : BA) sC l6 0 0 0 0 (V.mk 0 0 (⟨#[]⟩ : BA) []) [] []), (Tp.mk 6 (⟨#[]⟩ : BA) 0 0 (⟨#[]⟩ : BA) lV), lQ)))))
def C444 (O : Oracle TT) (m : Tp → PT → LI → Option (Ln × Tp × LI)) : Prop :=
 ∀ k6 m7 lo8 hi9 pA psB l5 lC (Q : (Ln × Tp × LI) → Prop) (R : RR) (_ : ∀ opF nmG toH nsI nJ loK hiM sepN kO nP sQ fU prsV ksW kY mZ lo00 hi01 p02 ps03 l04, Q ((Ln.mk opF nmG toH nsI nJ loK hiM sepN (V.mk kO nP sQ fU) prsV ksW), (Tp.mk kY mZ lo00 hi01 p02 ps03), l04) → R (.tup [.agg [ci opF, .str nmG, .str toH, .isl .str nsI, ci nJ, ci loK, ci hiM, .int .u8 sepN, ci kO, ci nP, .str sQ, .isl .fld fU, .isl .two prsV, .isl .lens ksW], .agg [ci kY, .str mZ, ci lo00, ci hi01, .str p02, .isl .part ps03]]) [eV (.x 0) [.isl .dfn l5, .ptr (.x 1) 0 0], eV (.x 1) [.isl .int l04]]) (_ : sat (m (Tp.mk k6 m7 lo8 hi9 pA psB) l5 lC) Q), O 444 [pX 0, .agg [ci k6, .str m7, ci lo8, ci hi9, .str pA, .isl .part psB]] [eV (.x 0) [.isl .dfn l5, .ptr (.x 1) 0 0], eV (.x 1) [.isl .int lC]] R
def j444 : Fn TT := ⟨122, [.cell 4 14 true, .cell 5 6 true], (sr [qo 3 (.box 3 1),qo 4 (.alloc 4 zLn),qo 5 (.alloc 5 zTp)] (sr [qm 17 0,qo 18 (.load 3 6 true),qo 19 (.call 19 440 [17, 18]),
 qo 20 (.build [.int .i64 0, .str eB, .str eB, .nils, .int .i64 0, .int .i64 0, .int .i64 0, .int .u8 0, .int .i64 0, .int .i64 0, .str eB, .nils, .nils, .nils] [((0, 1), (iC 6)), ((2, 1), 19)]),qo 6 (.alloc 6 zLn),qp (.store 6 20 14)] (.seq (.drw [(.x 1)] (oR 9) [] [0, 1, 2, 3, 4, 5, 6, 8] [qm 21 0,qo 22 (.nilck 21),qo 23 (.fa 22 1),qo 24 (ld 23),qo 25 (.fa 3 5),
 qo 26 (ld 25),qo 27 (.len false 26),qo 28 (.call 28 15 [24, 27]),qm 7 28]) (.cut [0, 3, 4, 5, 6] [(.x 0), (.s 3), (.s 4), (.s 5), (.s 6), (.x 1), (.sub (.sub (.s 6) 600) 3)] (sr [qo 29 (.fa 3 5),qo 30 (ld 29),qo 31 (.len false 30),qo 32 (.mv (iC 0))] (.block 0 (.pre [.ownc (.s 6) 3 .str (.sub (.sub (.s 6) 600) 3)]
 (.loop (.keep [0, 3, 4, 5, 6, 7, 30, 31, 32] [(.x 0), (.s 3), (.s 4), (.s 5), (.s 6), (.x 1), (.sub (.sub (.s 6) 600) 3)] (.aft (sr [qo 33 (.bin .lss .num 32 31)] (.seq (.cond 33 .skip (.exit 0)) (.seq (.block 1 (sr [qm 34 32,qo 35 (.idxA 30 32 7),qo 36 (.load 35 7 true),qo 9 (.alloc 9 zPt),qm 8 34,qp (.store 9 36 7)] (sr [qm 37 8,qm 38 7,
 qo 39 (.bin .eql .num 37 38),qm 40 39,qf 40 41 (.mv 0),qf 40 42 (.nilck 41),qf 40 43 (.fa 42 1),qf 40 44 (ld 43),qf 40 45 (.call 45 15 [44, (iC 3)]),qf 40 46 (.bin .eql .num 45 (iC 0)),qo 47 (.pick 40 bT 46)] (.cond 47 (.reg [qo 48 (.fa 6 3),qo 49 (ld 48),qo 50 (.fa 9 0),qo 51 (ld 50),qo 52 (.bsl .str [51]),
 qo 53 (.app 53 .str 68719476736 49 52),qo 54 (.fa 6 3),qp (.store 54 53 1)]) .skip)))) (.reg [qo 55 (.bin .add .num 32 (iC 1)),qm 32 55])))) [.keep [0, 3, 4, 5, 6, 7, 30, 31, 32] [(.x 0), (.s 3), (.s 4), (.s 5), (.s 6), (.x 1), (.sub (.sub (.s 6) 600) 3), (.s 53)], .ownc (.s 6) 3 .str (.sub (.sub (.s 6) 600) 3)]))))))
 (.cut [3, 4, 5, 6] [(.s 3), (.s 4), (.s 5), (.s 6), (.x 0), (.x 1), (.sub (.sub (.s 6) 600) 3)] (sr [qm 56 0,qo 57 (.nilck 56),qo 58 (.fa 57 1),qo 59 (ld 58),qo 60 (.call 60 15 [59, (iC 2)]),qo 61 (.bin .eql .num 60 (iC 0))] (.cond 61 (.reg [qo 62 (.fa 6 3),qo 63 (ld 62),qo 64 (.call 64 458 [63])]) .skip)) (.seq
 (.reg [qo 65 (.build [.int .i64 0, .str eB, .int .i64 0, .int .i64 0, .str eB, .nils] [((0, 1), (iC 6))]),qo 10 (.alloc 10 zTp),qp (.store 10 65 6)]) (.cut [3, 4, 5, 6, 10] [(.s 3), (.s 4), (.s 5), (.s 6), (.s 10), (.x 0), (.x 1), (.sub (.sub (.s 6) 600) 3), (.sub (.sub (.s 10) 601) 5)] (sr [qo 66 (.fa 6 3),qo 67 (ld 66),qo 68 (.len false 67),qo 69 (.mv (iC 0))] (.block 2
 (.pre [.ownc (.s 10) 5 .part (.sub (.sub (.s 10) 601) 5)] (.loop (.keep [3, 4, 5, 6, 10, 67, 68, 69] [(.s 3), (.s 4), (.s 5), (.s 6), (.s 10), (.sub (.sub (.s 6) 600) 3), (.x 0), (.x 1), (.sub (.sub (.s 10) 601) 5)] (.aft (sr [qo 70 (.bin .lss .num 69 68)] (.seq (.cond 70 .skip (.exit 2)) (.seq (.block 3 (sr [qo 71 (.idxA 67 69 1),qo 72 (ld 71),qm 12 72]
 (.drw [(.sub (.sub (.s 10) 601) 5)] (oR 13) [12] [0, 1, 2, 3, 4, 5, 7, 8, 11] [qo 73 (.fa 10 5),qo 74 (ld 73),qo 75 (.fa 3 5),qo 76 (ld 75),qo 77 (.load 3 6 true),qm 78 12,qo 79 (.call 79 455 [77, 78]),qo 80 (.idxA 76 79 7),qo 81 (.load 80 7 true),qo 82 (.bsl .part [81]),qo 83 (.app 83 .part 68719476736 74 82),qo 84 (.fa 10 5),qp (.store 84 83 1)])))
 (.reg [qo 85 (.bin .add .num 69 (iC 1)),qm 69 85])))) [.keep [3, 4, 5, 6, 10, 67, 68, 69] [(.s 3), (.s 4), (.s 5), (.s 6), (.s 10), (.sub (.sub (.s 6) 600) 3), (.x 0), (.x 1), (.s 83)], .ownc (.s 10) 5 .part (.sub (.sub (.s 10) 601) 5)])))))) (sr [qo 86 (.build [.int .i64 0, .str eB, .int .i64 0, .int .i64 0, .str eB, .nils] [((0, 1), (iC 6))]),qo 13 (.alloc 13 zTp),
 qp (.store 13 86 6),qm 14 bF] (.cut [4, 5, 6, 13] [(.s 4), (.s 5), (.s 6), (.s 13), (.x 0), (.x 1), (.sub (.sub (.s 13) 602) 5)] (sr [qo 87 (.fa 3 5),qo 88 (ld 87),qo 89 (.len false 88),qo 90 (.mv (iC 0))] (.block 4 (.pre [.frzc (.s 6) 3 .str, .ownc (.s 13) 5 .part (.sub (.sub (.s 13) 602) 5), .frzc (.s 10) 5 .part]
 (.loop (.keep [4, 5, 6, 10, 13, 14, 88, 89, 90] [(.s 4), (.s 5), (.s 6), (.s 10), (.s 13), (.x 0), (.x 1), (.sub (.sub (.s 13) 602) 5)] (.aft (sr [qo 91 (.bin .lss .num 90 89)] (.seq (.cond 91 .skip (.exit 4)) (.seq (.block 5 (sr [qo 92 (.idxA 88 90 7),qo 93 (.load 92 7 true),qo 16 (.alloc 16 zPt),qp (.store 16 93 7)] (.block 6 (.seq (.pre [.frzc (.s 6) 3 .str]
 (.reg [qo 95 (.fa 6 3),qo 96 (ld 95),qo 97 (.fa 16 0),qo 98 (ld 97),qo 99 (.call 99 170 [96, 98]),qo 100 (.un .not 99),qm 94 100])) (.cond 94 (.reg [qo 101 (.fa 13 5),qo 102 (ld 101),qo 103 (.load 16 7 true),qo 104 (.bsl .part [103]),qo 105 (.app 105 .part 68719476736 102 104),qo 106 (.fa 13 5),qp (.store 106 105 1)]) (sr [qm 108 14,
 qo 109 (.un .not 108),qm 107 109] (.cond 107 (.pre [.frzc (.s 10) 5 .part] (.reg [qo 110 (.fa 13 5),qo 111 (ld 110),qo 112 (.fa 6 2),qo 113 (ld 112),qo 114 (.load 10 6 true),qo 115 (.build zPt [((0, 1), 113), ((1, 6), 114)]),qo 116 (.bsl .part [115]),qo 117 (.app 117 .part 68719476736 111 116),qo 118 (.fa 13 5),qp (.store 118 117 1),qm 14 bT]))
 .skip))))))) (.reg [qo 119 (.bin .add .num 90 (iC 1)),qm 90 119])))) [.keep [4, 5, 6, 10, 13, 14, 88, 89, 90] [(.s 4), (.s 5), (.s 6), (.s 10), (.s 13), (.x 0), (.x 1), (.s 105), (.s 117), (.sub (.sub (.s 13) 602) 5)], .ownc (.s 13) 5 .part (.sub (.sub (.s 13) 602) 5)])))))) (.seq (.drw [(.s 4)] (ol [0, 1, 2, 3]) [3] [0, 1] [qo 120 (.load 6 14 true),qo 121 (.load 13 6 true),
 qp (.store 4 120 14),qp (.store 5 121 6)]) (.pre [.frzc (.s 4) 11 .fld, .frzc (.s 4) 12 .two, .frzc (.s 4) 13 .lens, .frzc (.s 5) 5 .part] .ret)))))))))))⟩
theorem w444 {O : Oracle TT} (fuel : Nat) (h15 : C15 O f15) (h170 : C170 O f170) (h440 : C440 O f440) (h455 : C455 O f455) (h458 : C458 O (f458 fuel)) : C444 (fun _ => vcF (S := SS) O j444) (f444 fuel) := by
 intro kW mY loZ hi00 p01 ps5 lK l1E Q R hQ h
 unfold f444 at h
 refine ⟨nle rfl, rfl, ?_⟩
 refine kL [(.x 0), (.x 1)] (h440 _ _ _ _ _ _ _ _ _ _ ?_ (sb h))
 rintro sA l1F h
 intro hl1G
 refine kL [(.x 1)] (h15 _ _ _ _ ?_ (sb h))
 rintro v0H l0W h
 obtain ⟨R03, h, a03, b03⟩ := sc h
 refine kX (fun σ => ∃ (l0E : LI) (l04 : LB) (n0I : Nat), n0I = l04.length ∧ R03 (.inr (l0E, l04)) ∧ σ = ⟨[(0, pX 0), pT 3, pT 4, pT 5, pT 6], [eV (.x 0) [.isl .dfn lK, .ptr (.x 1) 0 0], eV (.s 3) [ci kW, .str mY, ci loZ, ci hi00, .str p01, .isl .part ps5], eV (.s 4) zLn, eV (.s 5) zTp, eV (.s 6) [ci 6, .str eB, .str sA, .osl (.sub (.sub (.s 6) 600) 3) 0 n0I, ci 0, ci 0, ci 0, .int .u8 0, ci 0, ci 0, .str eB, .nils, .nils, .nils], eV (.x 1) [.isl .int l0E], (.sub (.sub (.s 6) 600) 3, (eR .str l04))]⟩) ?_ ?_
 intro hl0F
 refine kX (fun σ n => ∃ (remM : PT) (jC : Nat) (z : Int) (lG : LB) (l05 : LI) (n0J : Nat), n = remM.length ∧ ps5.drop jC = remM ∧ z = ((jC : Nat) : Int) ∧ n0J = lG.length ∧ sat (f444_L2 v0H remM jC lG l05) R03 ∧ σ.keep [0, 3, 4, 5, 6, 7, 30, 31, 32] [(.x 0), (.s 3), (.s 4), (.s 5), (.s 6), (.x 1), (.sub (.sub (.s 6) 600) 3)] = ⟨[(0, pX 0), pT 3, pT 4, pT 5, pT 6, (7, iD v0H), (30, .c (.isl .part ps5)), (31, iD ((ps5.length : Nat) : Int)), (32, iD z)], [eV (.x 0) [.isl .dfn lK, .ptr (.x 1) 0 0], eV (.s 3) [ci kW, .str mY, ci loZ, ci hi00, .str p01, .isl .part ps5], eV (.s 4) zLn, eV (.s 5) zTp, eV (.s 6) [ci 6, .str eB, .str sA, .osl (.sub (.sub (.s 6) 600) 3) 0 n0J, ci 0, ci 0, ci 0, .int .u8 0, ci 0, ci 0, .str eB, .nils, .nils, .nils], eV (.x 1) [.isl .int l05], (.sub (.sub (.s 6) 600) 3, (eR .str lG))]⟩) ⟨_, ps5, 0, _, [], l0W, _, rfl, rfl, rfl, LN, h, rfl⟩ ?_
 rintro σ n ⟨remM, jC, _, lG, l05, _, rfl, hremM, rfl, rfl, h, hσ⟩
 refine kk hσ ?_
 intro t06 (ht06 : t06 = decide (((jC : Nat) : Int) < ((ps5.length : Nat) : Int)))
 cases t06
 obtain rfl := ll_nil hremM ht06
 rw [f444_L2] at h
 conv => whnf
 exact ⟨l05, lG, _, LN, ss h, rfl⟩
 obtain ⟨xN, tl8, rfl, hxN, htl8⟩ := ll_cons hremM ht06
 obtain ⟨a0K, ⟨k1H, m1I, lo1J, hi1K, p1L, ps1M⟩⟩ := xN
 rw [f444_L2] at h
 conv => whnf
 refine ⟨lx_bd hxN, fun uu0L huu0L => ?_⟩
 obtain rfl := lx_eq hxN huu0L
 refine kc h ?_ ?_ <;> intro h
 refine kL [(.x 1)] (h15 _ _ _ _ ?_ (sb h))
 rintro v1N l0M h
 refine kc h ?_ ?_ <;> intro h
 conv => whnf
 exact ⟨tl8.length, nls, tl8, jC + 1, _, lG, l0M, _, rfl, htl8, lx_wr hxN hl0F, LN, h, rfl⟩
 conv => whnf
 refine ⟨LN, rfl, ?_⟩
 conv => whnf
 refine ⟨rfl, ?_⟩
 refine kp h fun hb1O h => ?_
 conv => whnf
 exact ⟨tl8.length, nls, tl8, jC + 1, _, (lG ++ ([a0K] : LB)), l0M, _, rfl, htl8, lx_wr hxN hl0F, LN, h, rfl⟩
 conv => whnf
 refine ⟨LN, rfl, ?_⟩
 conv => whnf
 refine ⟨rfl, ?_⟩
 refine kp h fun hb1P h => ?_
 conv => whnf
 exact ⟨tl8.length, nls, tl8, jC + 1, _, (lG ++ ([a0K] : LB)), l05, _, rfl, htl8, lx_wr hxN hl0F, LN, h, rfl⟩
 rintro _ ⟨l0E, l04, _, rfl, h, rfl⟩
 replace h := b03 _ h
 obtain ⟨R0C, h, a0C, b0C⟩ := sc h
 refine kX (fun σ => ∃ (lO : LI) (l6 : LB) (n0N : Nat), n0N = l6.length ∧ R0C (.inr (lO, l6)) ∧ σ = ⟨[pT 3, pT 4, pT 5, pT 6], [eV (.s 3) [ci kW, .str mY, ci loZ, ci hi00, .str p01, .isl .part ps5], eV (.s 4) zLn, eV (.s 5) zTp, eV (.s 6) [ci 6, .str eB, .str sA, .osl (.sub (.sub (.s 6) 600) 3) 0 n0N, ci 0, ci 0, ci 0, .int .u8 0, ci 0, ci 0, .str eB, .nils, .nils, .nils], eV (.x 0) [.isl .dfn lK, .ptr (.x 1) 0 0], eV (.x 1) [.isl .int lO], (.sub (.sub (.s 6) 600) 3, (eR .str l6))]⟩) ?_ ?_
 refine kL [(.x 1)] (h15 _ _ _ _ ?_ (sb h))
 rintro v1Q l0O h
 refine kc h ?_ ?_ <;> intro h
 conv => whnf
 exact ⟨l0O, l04, _, LN, ss h, rfl⟩
 refine kL [(.sub (.sub (.s 6) 600) 3)] (h458 _ _ LN _ _ ?_ (sb h))
 rintro l0P hkrl0P h
 conv => whnf
 exact ⟨l0O, l0P, _, LN, ss h, rfl⟩
 rintro _ ⟨lO, l6, _, rfl, h, rfl⟩
 replace h := b0C _ h
 obtain ⟨R07, h, a07, b07⟩ := sc h
 refine kX (fun σ => ∃ (lP : PT) (n0Q : Nat), n0Q = lP.length ∧ R07 (.inr lP) ∧ σ = ⟨[pT 3, pT 4, pT 5, pT 6, pT 10], [eV (.s 3) [ci kW, .str mY, ci loZ, ci hi00, .str p01, .isl .part ps5], eV (.s 4) zLn, eV (.s 5) zTp, eV (.s 6) [ci 6, .str eB, .str sA, .osl (.sub (.sub (.s 6) 600) 3) 0 l6.length, ci 0, ci 0, ci 0, .int .u8 0, ci 0, ci 0, .str eB, .nils, .nils, .nils], eV (.s 10) [ci 6, .str eB, ci 0, ci 0, .str eB, .osl (.sub (.sub (.s 10) 601) 5) 0 n0Q], eV (.x 0) [.isl .dfn lK, .ptr (.x 1) 0 0], eV (.x 1) [.isl .int lO], (.sub (.sub (.s 6) 600) 3, (eR .str l6)), (.sub (.sub (.s 10) 601) 5, (eR .part lP))]⟩) ?_ ?_
 intro hl1R
 obtain ⟨hN0X, h⟩ := sat_grdP h
 refine kX (fun σ n => ∃ (fB : Nat) (vQ : Int) (z : Int) (l02 : PT) (n0R : Nat), fB = n ∧ fB = (((l6.length : Nat) : Int) - vQ).toNat ∧ 0 ≤ vQ ∧ vQ = z ∧ n0R = l02.length ∧ sat (f444_L4 kW mY loZ hi00 p01 ps5 l6 fB vQ l02) R07 ∧ σ.keep [3, 4, 5, 6, 10, 67, 68, 69] [(.s 3), (.s 4), (.s 5), (.s 6), (.s 10), (.sub (.sub (.s 6) 600) 3), (.x 0), (.x 1), (.sub (.sub (.s 10) 601) 5)] = ⟨[pT 3, pT 4, pT 5, pT 6, pT 10, (67, .c (.osl (.sub (.sub (.s 6) 600) 3) 0 l6.length)), (68, iD ((l6.length : Nat) : Int)), (69, iD z)], [eV (.s 3) [ci kW, .str mY, ci loZ, ci hi00, .str p01, .isl .part ps5], eV (.s 4) zLn, eV (.s 5) zTp, eV (.s 6) [ci 6, .str eB, .str sA, .osl (.sub (.sub (.s 6) 600) 3) 0 l6.length, ci 0, ci 0, ci 0, .int .u8 0, ci 0, ci 0, .str eB, .nils, .nils, .nils], eV (.s 10) [ci 6, .str eB, ci 0, ci 0, .str eB, .osl (.sub (.sub (.s 10) 601) 5) 0 n0R], (.sub (.sub (.s 6) 600) 3, (eR .str l6)), eV (.x 0) [.isl .dfn lK, .ptr (.x 1) 0 0], eV (.x 1) [.isl .int lO], (.sub (.sub (.s 10) 601) 5, (eR .part l02))]⟩) ⟨_, _, 0, _, [], _, rfl, rfl, (by decide), rfl, LN, h, rfl⟩ ?_
 rintro σ n ⟨fB, vQ, _, l02, _, rfl, hfB, hpfB, rfl, rfl, h, hσ⟩
 refine kk hσ ?_
 intro t08 (ht08 : t08 = decide (vQ < ((l6.length : Nat) : Int)))
 cases t08
 obtain rfl := il_nil hfB ht08
 rw [f444_L4] at h
 conv => whnf
 exact ⟨l02, _, LN, ss h, rfl⟩
 obtain ⟨gH, rfl, hwgH, hpgH, hfgH⟩ := il_cons hfB hpfB ht08 hN0X
 rw [f444_L4] at h
 refine kp h fun hb1S h => ?_
 refine kg (sat_getN h) fun w1T huu1U h => ?_
 refine kL [] (h455 _ _ _ _ _ _ _ _ _ ?_ (sb h))
 rintro v1V h
 refine kg (sat_getL h) fun uu0S huu0S h => ?_
 obtain ⟨a0Y, ⟨k0Z, m10, lo11, hi12, p13, ps14⟩⟩ := uu0S
 conv => whnf
 refine ⟨LN, rfl, ?_⟩
 conv => whnf
 refine ⟨rfl, ?_⟩
 refine kp h fun hb1W h => ?_
 conv => whnf
 exact ⟨gH, nls, gH, vQ + 1, _, (l02 ++ ([(a0Y, (Tp.mk k0Z m10 lo11 hi12 p13 ps14))] : PT)), _, rfl, hfgH, hpgH, hwgH.symm, LN, h, rfl⟩
 rintro _ ⟨lP, _, rfl, h, rfl⟩
 replace h := b07 _ h
 obtain ⟨R09, h, a09, b09⟩ := sc h
 refine kX (fun σ => ∃ (l0D : PT) (n0T : Nat), n0T = l0D.length ∧ R09 (.inr l0D) ∧ σ = ⟨[pT 4, pT 5, pT 6, pT 13], [eV (.s 4) zLn, eV (.s 5) zTp, eV (.s 6) [ci 6, .str eB, .str sA, .isl .str l6, ci 0, ci 0, ci 0, .int .u8 0, ci 0, ci 0, .str eB, .nils, .nils, .nils], eV (.s 13) [ci 6, .str eB, ci 0, ci 0, .str eB, .osl (.sub (.sub (.s 13) 602) 5) 0 n0T], eV (.x 0) [.isl .dfn lK, .ptr (.x 1) 0 0], eV (.x 1) [.isl .int lO], (.sub (.sub (.s 13) 602) 5, (eR .part l0D))]⟩) ?_ ?_
 intro hl0G
 conv => whnf
 refine ⟨LN, ?_⟩
 conv => whnf
 refine ⟨LN, ?_⟩
 refine kX (fun σ n => ∃ (remU : PT) (jI : Nat) (z : Int) (lJ : PT) (q0A : Bool) (n0U : Nat), n = remU.length ∧ ps5.drop jI = remU ∧ z = ((jI : Nat) : Int) ∧ n0U = lJ.length ∧ sat (f444_L6 sA l6 lP remU jI lJ q0A) R09 ∧ σ.keep [4, 5, 6, 10, 13, 14, 88, 89, 90] [(.s 4), (.s 5), (.s 6), (.s 10), (.s 13), (.x 0), (.x 1), (.sub (.sub (.s 13) 602) 5)] = ⟨[pT 4, pT 5, pT 6, pT 10, pT 13, (14, bD q0A), (88, .c (.isl .part ps5)), (89, iD ((ps5.length : Nat) : Int)), (90, iD z)], [eV (.s 4) zLn, eV (.s 5) zTp, eV (.s 6) [ci 6, .str eB, .str sA, .isl .str l6, ci 0, ci 0, ci 0, .int .u8 0, ci 0, ci 0, .str eB, .nils, .nils, .nils], eV (.s 10) [ci 6, .str eB, ci 0, ci 0, .str eB, .isl .part lP], eV (.s 13) [ci 6, .str eB, ci 0, ci 0, .str eB, .osl (.sub (.sub (.s 13) 602) 5) 0 n0U], eV (.x 0) [.isl .dfn lK, .ptr (.x 1) 0 0], eV (.x 1) [.isl .int lO], (.sub (.sub (.s 13) 602) 5, (eR .part lJ))]⟩) ⟨_, ps5, 0, _, [], false, _, rfl, rfl, rfl, LN, h, rfl⟩ ?_
 rintro σ n ⟨remU, jI, _, lJ, q0A, _, rfl, hremU, rfl, rfl, h, hσ⟩
 refine kk hσ ?_
 intro t0B (ht0B : t0B = decide (((jI : Nat) : Int) < ((ps5.length : Nat) : Int)))
 cases t0B
 obtain rfl := ll_nil hremU ht0B
 rw [f444_L6] at h
 conv => whnf
 exact ⟨lJ, _, LN, ss h, rfl⟩
 obtain ⟨xV, tl9, rfl, hxV, htl9⟩ := ll_cons hremU ht0B
 obtain ⟨a15, ⟨k17, m18, lo19, hi1A, p1B, ps1C⟩⟩ := xV
 rw [f444_L6] at h
 conv => whnf
 refine ⟨lx_bd hxV, fun uu0V huu0V => ?_⟩
 obtain rfl := lx_eq hxV huu0V
 refine kL [] (h170 _ _ _ _ ?_ (sb h))
 rintro q1D h
 cases q1D
 replace h := cf h
 conv => whnf
 refine ⟨LN, rfl, ?_⟩
 conv => whnf
 refine ⟨rfl, ?_⟩
 refine kp h fun hb1X h => ?_
 conv => whnf
 exact ⟨tl9.length, nls, tl9, jI + 1, _, (lJ ++ ([(a15, (Tp.mk k17 m18 lo19 hi1A p1B ps1C))] : PT)), q0A, _, rfl, htl9, lx_wr hxV hl0G, LN, h, rfl⟩
 replace h := ct h
 cases q0A
 replace h := cf h
 conv => whnf
 refine ⟨LN, rfl, ?_⟩
 conv => whnf
 refine ⟨rfl, ?_⟩
 refine kp h fun hb1Y h => ?_
 conv => whnf
 exact ⟨tl9.length, nls, tl9, jI + 1, _, (lJ ++ ([(sA, (Tp.mk 6 eB 0 0 eB lP))] : PT)), true, _, rfl, htl9, lx_wr hxV hl0G, LN, h, rfl⟩
 replace h := ct h
 conv => whnf
 exact ⟨tl9.length, nls, tl9, jI + 1, _, lJ, true, _, rfl, htl9, lx_wr hxV hl0G, LN, h, rfl⟩
 rintro _ ⟨l0D, _, rfl, h, rfl⟩
 replace h := b09 _ h
 conv => whnf
 refine ⟨LN, ?_⟩
 exact kR [] (ND 2) (hQ _ _ _ _ _ _ _ _ _ _ _ _ _ _ _ _ _ _ _ _ _ (ss h))
def f377_L2 (self406 : Tp → Int → PT → LI → Option (Ln × Tp × LI)) (vF : Int) (lG : PT) : Nat → Int → (List Ln) → Int → BA → Int → Int → BA → PT → LI → Option (Sum (Ln × Tp × LI) (Int × BA × Int × Int × BA × PT × LI × (List Ln)))
 | 0, vH, l5, v6, s7, v8, v9, sA, lB, lC => some (.inr (v6, s7, v8, v9, sA, lB, lC, l5))
 | g01 + 1, vH, l5, v6, s7, v8, v9, sA, lB, lC => (self406 (Tp.mk v6 s7 v8 v9 sA lB) vF lG lC).bind fun ((.mk opI nmJ toK nsM nN loO hiP sepQ (.mk kU nV sW fY) prsZ ks00), (.mk k02 m03 lo04 hi05 p06 ps07), l08) => grdP (l5.length + ([(Ln.mk opI nmJ toK nsM nN loO hiP sepQ (V.mk kU nV sW fY) prsZ ks00)] : List Ln).length ≤ 68719476736) (f377_L2 self406 vF lG g01 (vH + 1) (l5 ++ ([(Ln.mk opI nmJ toK nsM nN loO hiP sepQ (V.mk kU nV sW fY) prsZ ks00)] : List Ln)) k02 m03 lo04 hi05 p06 ps07 l08)
def b377 (self406 : Tp → Int → PT → LI → Option (Ln × Tp × LI)) : Tp → Int → PT → LI → Option (Ln × Tp × LI)
 | .mk k6 m7 lo8 hi9 pA psB, v5, lC, lH => (f15 (4 : Int) lH).bind fun (vF, lG) => cond (decide (vF < 2)) ((self406 (Tp.mk k6 m7 lo8 hi9 pA psB) v5 lC lG).bind fun ((.mk opI nmJ toK nsM nN loO hiP sepQ (.mk kU nV sW fY) prsZ ks00), (.mk k01 m02 lo03 hi04 p05 ps06), l07) => some ((Ln.mk opI nmJ toK nsM nN loO hiP sepQ (V.mk kU nV sW fY) prsZ ks00), (Tp.mk k01 m02 lo03 hi04 p05 ps06), l07)) (cond (v5 == 0) ((self406 (Tp.mk k6 m7 lo8 hi9 pA psB) v5 lC lG).bind fun ((.mk op08 nm09 to0A ns0B n0C lo0D hi0E sep0F (.mk k0G n0H s0I f0J) prs0K ks0L), (.mk k0M m0N lo0O hi0P p0Q ps0R), l0S) => some ((Ln.mk op08 nm09 to0A ns0B n0C lo0D hi0E sep0F (V.mk k0G n0H s0I f0J) prs0K ks0L), (Tp.mk k0M m0N lo0O hi0P p0Q ps0R), l0S)) (sbind (ο := Int × BA × Int × Int × BA × PT × LI × (List Ln)) (grdP (vF ≤ 9223372036854775807) (f377_L2 self406 v5 lC (vF - 0).toNat 0 [] k6 m7 lo8 hi9 pA psB lG)) (fun (v0T, s0U, v0V, v0W, s0X, l0Y, l0Z, l10) => some ((Ln.mk 1 (⟨#[]⟩ : BA) (⟨#[]⟩ : BA) [] 0 0 0 0 (V.mk 0 0 (⟨#[]⟩ : BA) []) [] l10), (Tp.mk v0T s0U v0V v0W s0X l0Y), l0Z))))
def b406 (self427 : Tp → Tp → Int → PT → LI → Option (Ln × Tp × LI)) (self426 : Tp → Tp → Int → PT → LI → Option (Ln × Tp × LI)) (self425 : Tp → Tp → Int → PT → LI → Option (Ln × Tp × LI)) : Tp → Int → PT → LI → Option (Ln × Tp × LI)
 | .mk k6 m7 lo8 hi9 pA psB, vM, lF, lN => sbind (ο := Int × BA × Int × Int × BA × PT) ((f63 lF (Tp.mk k6 m7 lo8 hi9 pA psB)).bind fun (.mk kO mP loQ hiU pV psW) => some (.inr (kO, mP, loQ, hiU, pV, psW))) (fun (v5, sG, vH, vI, sJ, lK) => (f15 (12 : Int) lN).bind fun (vY, lC) => cond (vY == 0) (sbind (ο := Unit) (some (.inr ())) (fun () => some ((Ln.mk 16 (⟨#[122]⟩ : BA) (⟨#[]⟩ : BA) [] 0 0 0 0 (V.mk 0 0 (⟨#[]⟩ : BA) []) [] []), (Tp.mk 7 (⟨#[]⟩ : BA) 0 0 (⟨#[]⟩ : BA) ([((⟨#[122]⟩ : BA), (Tp.mk k6 m7 lo8 hi9 pA psB))] : PT)), lC))) (cond (vM == 0) ((f380 (Tp.mk k6 m7 lo8 hi9 pA psB)).bind fun ((.mk opZ nm00 to01 ns02 n03 lo04 hi05 sep06 (.mk k07 n08 s09 f0A) prs0B ks0C), (.mk k0D m0E lo0F hi0G p0H ps0I)) => some ((Ln.mk opZ nm00 to01 ns02 n03 lo04 hi05 sep06 (V.mk k07 n08 s09 f0A) prs0B ks0C), (Tp.mk k0D m0E lo0F hi0G p0H ps0I), lC)) (cond (v5 == 6) ((self425 (Tp.mk k6 m7 lo8 hi9 pA psB) (Tp.mk v5 sG vH vI sJ lK) vM lF lC).bind fun ((.mk op0J nm0K to0L ns0M n0N lo0O hi0P sep0Q (.mk k0R n0S s0T f0U) prs0V ks0W), (.mk k0X m0Y lo0Z hi10 p11 ps12), l13) => some ((Ln.mk op0J nm0K to0L ns0M n0N lo0O hi0P sep0Q (V.mk k0R n0S s0T f0U) prs0V ks0W), (Tp.mk k0X m0Y lo0Z hi10 p11 ps12), l13)) (cond (v5 == 7) ((self426 (Tp.mk k6 m7 lo8 hi9 pA psB) (Tp.mk v5 sG vH vI sJ lK) vM lF lC).bind fun ((.mk op14 nm15 to16 ns17 n18 lo19 hi1A sep1B (.mk k1C n1D s1E f1F) prs1G ks1H), (.mk k1I m1J lo1K hi1L p1M ps1N), l1O) => some ((Ln.mk op14 nm15 to16 ns17 n18 lo19 hi1A sep1B (V.mk k1C n1D s1E f1F) prs1G ks1H), (Tp.mk k1I m1J lo1K hi1L p1M ps1N), l1O)) (sbind (ο := Bool) (cond (v5 == 8) (some (.inr true)) (cond (v5 == 9) (some (.inr true)) (some (.inr false)))) (fun q1P => cond q1P ((self427 (Tp.mk k6 m7 lo8 hi9 pA psB) (Tp.mk v5 sG vH vI sJ lK) vM lF lC).bind fun ((.mk op1Q nm1R to1S ns1T n1U lo1V hi1W sep1X (.mk k1Y n1Z s20 f21) prs22 ks23), (.mk k24 m25 lo26 hi27 p28 ps29), l2A) => some ((Ln.mk op1Q nm1R to1S ns1T n1U lo1V hi1W sep1X (V.mk k1Y n1Z s20 f21) prs22 ks23), (Tp.mk k24 m25 lo26 hi27 p28 ps29), l2A)) (sbind (ο := Bool) (cond (v5 == 1) (some (.inr true)) (cond (v5 == 2) (some (.inr true)) (cond (v5 == 4) (some (.inr true)) (some (.inr false))))) (fun q2B => cond q2B ((f428 (Tp.mk k6 m7 lo8 hi9 pA psB) (Tp.mk v5 sG vH vI sJ lK) lF lC).bind fun ((.mk op2C nm2D to2E ns2F n2G lo2H hi2I sep2J (.mk k2K n2L s2M f2N) prs2O ks2P), (.mk k2Q m2R lo2S hi2T p2U ps2V), l2W) => some ((Ln.mk op2C nm2D to2E ns2F n2G lo2H hi2I sep2J (V.mk k2K n2L s2M f2N) prs2O ks2P), (Tp.mk k2Q m2R lo2S hi2T p2U ps2V), l2W)) (cond (v5 == 5) ((f429 (Tp.mk k6 m7 lo8 hi9 pA psB) (Tp.mk v5 sG vH vI sJ lK) lF lC).bind fun ((.mk op2X nm2Y to2Z ns30 n31 lo32 hi33 sep34 (.mk k35 n36 s37 f38) prs39 ks3A), (.mk k3B m3C lo3D hi3E p3F ps3G)) => some ((Ln.mk op2X nm2Y to2Z ns30 n31 lo32 hi33 sep34 (V.mk k35 n36 s37 f38) prs39 ks3A), (Tp.mk k3B m3C lo3D hi3E p3F ps3G), lC)) ((f380 (Tp.mk k6 m7 lo8 hi9 pA psB)).bind fun ((.mk op3H nm3I to3J ns3K n3L lo3M hi3N sep3O (.mk k3P n3Q s3R f3S) prs3T ks3U), (.mk k3V m3W lo3X hi3Y p3Z ps40)) => some ((Ln.mk op3H nm3I to3J ns3K n3L lo3M hi3N sep3O (V.mk k3P n3Q s3R f3S) prs3T ks3U), (Tp.mk k3V m3W lo3X hi3Y p3Z ps40), lC)))))))))))
def f427_L2 (l5 : PT) (l6 : LI) : PT → Nat → BA → Option (Sum (Ln × Tp × LI) (BA × LI))
 | [], j7, s8 => some (.inr (s8, l6))
 | ((aB, .mk kC mF loG hiH pI psJ)) :: tl9, j7, s8 => (f63 l5 (Tp.mk kC mF loG hiH pI psJ)).bind fun (.mk kA mK loM hiN pO psP) => cond (decide (kA ≥ 1)) (cond (decide (kA ≤ 5)) (f427_L2 l5 l6 tl9 (j7 + 1) aB) (f427_L2 l5 l6 tl9 (j7 + 1) s8)) (f427_L2 l5 l6 tl9 (j7 + 1) s8)
def b427 (fuel : Nat) (self377 : Tp → Int → PT → LI → Option (Ln × Tp × LI)) : Tp → Tp → Int → PT → LI → Option (Ln × Tp × LI)
 | .mk k26 m27 lo28 hi29 p2A ps2B, .mk k6 mB loC hiF pG ps7, vV, l5, l8 => (f438 (Tp.mk k6 mB loC hiF pG ps7)).bind fun (.mk kW mY loZ hi00 p01 ps9) => sbind (ο := Int × BA × Int × Int × BA × PT) (getL ps7 0 fun uu02 => match uu02 with | (a2C, .mk k03 m04 lo05 hi06 p07 ps08) => (f63 l5 (Tp.mk k03 m04 lo05 hi06 p07 ps08)).bind fun (.mk k09 m0A lo0B hi0C p0D ps0E) => some (.inr (k09, m0A, lo0B, hi0C, p0D, ps0E))) (fun (vH, s0F, v0G, v0H, s0I, l0J) => sbind (ο := LI) (cond (k6 == 8) (cond (vH == 6) ((f15 (2 : Int) l8).bind fun (v0K, lI) => cond (v0K == 0) ((f448 fuel (Tp.mk k6 mB loC hiF pG ps7) (Tp.mk vH s0F v0G v0H s0I l0J) l5 lI).bind fun ((.mk op0L nm0M to0N ns0O n0P lo0Q hi0R sep0S (.mk k0T n0U s0V f0W) prs0X ks0Y), (.mk k0Z m10 lo11 hi12 p13 ps14), q15, lJ) => cond q15 (lft (some ((Ln.mk op0L nm0M to0N ns0O n0P lo0Q hi0R sep0S (V.mk k0T n0U s0V f0W) prs0X ks0Y), (Tp.mk k0Z m10 lo11 hi12 p13 ps14), lJ))) (some (.inr lJ))) (some (.inr lI))) (some (.inr l8))) (some (.inr l8))) (fun l17 => getL ps7 0 fun uu18 => match uu18 with | (a2D, .mk k19 m1A lo1B hi1C p1D ps1E) => (self377 (Tp.mk k19 m1A lo1B hi1C p1D ps1E) (wrap .i64 (vV - 1)) l5 l17).bind fun ((.mk op1F nm1G to1H ns1I n1J lo1K hi1L sep1M (.mk k1N n1O s1P f1Q) prs1R ks1S), (.mk kK mM loN hiO pP psQ), lA) => grdP ((0 : Int) ≤ 0 ∧ 0 < ((ps9.length : Nat) : Int)) (getN ps9 (0 + (0 : Int).toNat) fun uu1T => match uu1T with | (a1U, .mk k2E m2F lo2G hi2H p2I ps2J) => sbind (ο := BA × LI) (sbind (ο := Int × BA × Int × Int × BA × PT) ((f63 l5 (Tp.mk kK mM loN hiO pP psQ)).bind fun (.mk k1V m1W lo1X hi1Y p1Z ps20) => some (.inr (k1V, m1W, lo1X, hi1Y, p1Z, ps20))) (fun (v21, s2K, v2L, v2M, s2N, l22) => cond (k6 == 8) (cond (v21 == 6) ((f15 (2 : Int) lA).bind fun (v23, lU) => cond (v23 == 0) (f427_L2 l5 lU l22 0 (⟨#[]⟩ : BA)) (some (.inr ((⟨#[]⟩ : BA), lU)))) (some (.inr ((⟨#[]⟩ : BA), lA)))) (some (.inr ((⟨#[]⟩ : BA), lA))))) (fun (s24, l25) => some ((Ln.mk 13 s24 (⟨#[]⟩ : BA) [] 0 0 0 0 (V.mk 0 0 (⟨#[]⟩ : BA) []) [] ([(Ln.mk op1F nm1G to1H ns1I n1J lo1K hi1L sep1M (V.mk k1N n1O s1P f1Q) prs1R ks1S)] : List Ln)), (Tp.mk kW mY loZ hi00 p01 (ps9.set (0 + (0 : Int).toNat) (a1U, (Tp.mk kK mM loN hiO pP psQ)))), l25)))))
def f426_L2 (self377 : Tp → Int → PT → LI → Option (Ln × Tp × LI)) (vA : Int) (lB : PT) (vC : Int) : PT → Nat → PT → LB → (List Ln) → LI → Option (Sum (Ln × Tp × LI) (LI × PT × LB × (List Ln)))
 | [], j5, l6, l7, l8, l9 => some (.inr (l9, l6, l7, l8))
 | ((aF, .mk k02 m03 lo04 hi05 p06 ps07)) :: tlG, j5, l6, l7, l8, l9 => sbind (ο := Bool × LI) (cond (((j5 : Nat) : Int) == vC) (some (.inr (true, l9))) ((f15 (2 : Int) l9).bind fun (v08, lH) => cond (v08 == 0) (some (.inr (true, lH))) (some (.inr (false, lH))))) (fun (q09, lI) => cond q09 ((self377 (Tp.mk k02 m03 lo04 hi05 p06 ps07) (wrap .i64 (vA - 1)) lB lI).bind fun ((.mk opJ nmK toM nsN nO loP hiQ sepU (.mk kV nW sY fZ) prs00 ks01), (.mk k0A m0B lo0C hi0D p0E ps0F), l0G) => grdP ((0 : Int) ≤ ((j5 : Nat) : Int) ∧ ((j5 : Nat) : Int) < ((l6.length : Nat) : Int)) (getN l6 (0 + ((j5 : Nat) : Int).toNat) fun uu0H => match uu0H with | (a0I, .mk k0J m0K lo0L hi0M p0N ps0O) => grdP (l7.length + ([aF] : LB).length ≤ 68719476736) (grdP (l8.length + ([(Ln.mk opJ nmK toM nsN nO loP hiQ sepU (V.mk kV nW sY fZ) prs00 ks01)] : List Ln).length ≤ 68719476736) (f426_L2 self377 vA lB vC tlG (j5 + 1) (l6.set (0 + ((j5 : Nat) : Int).toNat) (a0I, (Tp.mk k0A m0B lo0C hi0D p0E ps0F))) (l7 ++ ([aF] : LB)) (l8 ++ ([(Ln.mk opJ nmK toM nsN nO loP hiQ sepU (V.mk kV nW sY fZ) prs00 ks01)] : List Ln)) l0G)))) (f426_L2 self377 vA lB vC tlG (j5 + 1) l6 l7 l8 lI))
def b426 (fuel : Nat) (self377 : Tp → Int → PT → LI → Option (Ln × Tp × LI)) : Tp → Tp → Int → PT → LI → Option (Ln × Tp × LI)
 | .mk k1I m1J lo1K hi1L p1M ps1N, .mk kB mC loF hiG pH ps5, vP, l7, lQ => (f438 (Tp.mk kB mC loF hiG pH ps5)).bind fun (.mk kI mJ loK hiM pN ps8) => (f15 ((ps5.length : Nat) : Int) lQ).bind fun (v6, lU) => sbind (ο := LI) ((f15 (4 : Int) lU).bind fun (vA, l9) => cond (vA == 0) ((f440 (Tp.mk kB mC loF hiG pH ps5) l7 l9).bind fun (sO, lV) => grdP ((0 : Int) ≤ v6 ∧ v6 < ((ps8.length : Nat) : Int)) (getN ps8 (0 + v6.toNat) fun uuW => match uuW with | (a1O, .mk kY mZ lo00 hi01 p02 ps03) => getL ps5 v6 fun uu04 => match uu04 with | (a05, .mk k1P m1Q lo1R hi1S p1T ps1U) => lft (some ((Ln.mk 3 a05 sO [] 0 0 0 0 (V.mk 0 0 (⟨#[]⟩ : BA) []) [] []), (Tp.mk kI mJ loK hiM pN (ps8.set (0 + v6.toNat) (sO, (Tp.mk kY mZ lo00 hi01 p02 ps03)))), lV)))) (sbind (ο := Bool) (cond (vA == 1) (cond (((ps5.length : Nat) : Int) == 1) (some (.inr true)) (some (.inr false))) (some (.inr false))) (fun q06 => cond q06 (getL ps5 0 fun uu07 => match uu07 with | (a08, .mk k1V m1W lo1X hi1Y p1Z ps20) => getL ps5 0 fun uu09 => match uu09 with | (a21, .mk k0A m0B lo0C hi0D p0E ps0F) => lft (some ((Ln.mk 17 a08 (⟨#[]⟩ : BA) [] 0 0 0 0 (V.mk 0 0 (⟨#[]⟩ : BA) []) [] []), (Tp.mk k0A m0B lo0C hi0D p0E ps0F), l9))) (sbind (ο := Bool) (cond (decide (vA < 3)) (cond (((ps5.length : Nat) : Int) == 2) (getL ps5 0 fun uu0G => match uu0G with | (a0H, .mk k22 m23 lo24 hi25 p26 ps27) => cond (a0H.toList == (⟨#[110, 111, 110, 101]⟩ : BA).toList) (getL ps5 1 fun uu0I => match uu0I with | (a0J, .mk k28 m29 lo2A hi2B p2C ps2D) => cond (a0J.toList == (⟨#[115, 111, 109, 101]⟩ : BA).toList) (getL ps5 0 fun uu0K => match uu0K with | (a2E, .mk k0L m0M lo0N hi0O p0P ps0Q) => (f63 l7 (Tp.mk k0L m0M lo0N hi0O p0P ps0Q)).bind fun (.mk k0R m2F lo2G hi2H p2I ps2J) => cond (k0R == 0) (some (.inr true)) (some (.inr false))) (some (.inr false))) (some (.inr false))) (some (.inr false))) (some (.inr false))) (fun q0S => cond q0S (getL ps5 1 fun uu0T => match uu0T with | (a2K, .mk k0U m0V lo0W hi0X p0Y ps0Z) => getL ps5 1 fun uu10 => match uu10 with | (a2L, .mk k11 m12 lo13 hi14 p15 ps17) => (f42 fuel l7 (Tp.mk k0U m0V lo0W hi0X p0Y ps0Z) (0 : Int) l9).bind fun ((.mk k18 n19 s1A f1B), l1C) => lft (some ((Ln.mk 18 (⟨#[]⟩ : BA) (⟨#[]⟩ : BA) [] 0 0 0 0 (V.mk k18 n19 s1A f1B) [] []), (Tp.mk k11 m12 lo13 hi14 p15 ps17), l1C))) (some (.inr l9))))))) (fun l1D => sbind (ο := LI × PT × LB × (List Ln)) (f426_L2 self377 vP l7 v6 ps5 0 ps8 [] [] l1D) (fun (l1E, l1F, l1G, l1H) => some ((Ln.mk 14 (⟨#[]⟩ : BA) (⟨#[]⟩ : BA) l1G 0 0 0 0 (V.mk 0 0 (⟨#[]⟩ : BA) []) [] l1H), (Tp.mk kI mJ loK hiM pN l1F), l1E)))
def b425 (fuel : Nat) (self377 : Tp → Int → PT → LI → Option (Ln × Tp × LI)) : Tp → Tp → Int → PT → LI → Option (Ln × Tp × LI)
 | .mk k0H m0I lo0J hi0K p0L ps0M, .mk kA mB loC hiF pG ps7, v0N, l9, lZ => sbind (ο := Int × BA × Int × Int × BA × PT) ((f438 (Tp.mk kA mB loC hiF pG ps7)).bind fun (.mk k0O m0P lo0Q hi0R p0S ps0T) => some (.inr (k0O, m0P, lo0Q, hi0R, p0S, ps0T))) (fun (vH, sI, vJ, vK, sM, l6) => cond (decide (((ps7.length : Nat) : Int) > 21)) ((f380 (Tp.mk k0H m0I lo0J hi0K p0L ps0M)).bind fun ((.mk op0U nm0V to0W ns0X n0Y lo0Z hi10 sep11 (.mk k12 n13 s14 f15) prs17 ks18), (.mk k19 m1A lo1B hi1C p1D ps1E)) => some ((Ln.mk op0U nm0V to0W ns0X n0Y lo0Z hi10 sep11 (V.mk k12 n13 s14 f15) prs17 ks18), (Tp.mk k19 m1A lo1B hi1C p1D ps1E), lZ)) (sbind (ο := LI) (sbind (ο := Bool × LI) (cond (((ps7.length : Nat) : Int) == 0) (some (.inr (true, lZ))) ((f15 (8 : Int) lZ).bind fun (v1F, l01) => cond (v1F == 0) (some (.inr (true, l01))) (some (.inr (false, l01))))) (fun (q1G, l02) => cond q1G (sbind (ο := Int × Int × BA × FV × LI) ((f60 ([0, 1, 2, 4, 5] : LI) l02).bind fun (v1H, l1I) => (f64 v1H l1I).bind fun ((.mk k1J n1K s1L f1M), l1N) => some (.inr (k1J, n1K, s1L, f1M, l1N))) (fun (v03, v04, s05, l06, l1O) => (f440 (Tp.mk kA mB loC hiF pG ps7) l9 l1O).bind fun (s00, l1P) => (f441 (V.mk v03 v04 s05 l06)).bind fun (.mk k07 m08 lo09 hi0A p0B ps0C) => grdP (l6.length + ([(s00, (Tp.mk k07 m08 lo09 hi0A p0B ps0C))] : PT).length ≤ 68719476736) (lft (some ((Ln.mk 5 s00 (⟨#[]⟩ : BA) [] 0 0 0 0 (V.mk v03 v04 s05 l06) [] []), (Tp.mk vH sI vJ vK sM (l6 ++ ([(s00, (Tp.mk k07 m08 lo09 hi0A p0B ps0C))] : PT))), l1P))))) (some (.inr l02)))) (fun l1Q => (f15 ((ps7.length : Nat) : Int) l1Q).bind fun (v5, l1R) => getL ps7 v5 fun uu1S => match uu1S with | (aN, .mk kP mQ loU hiV pW psY) => sbind (ο := LI) ((f15 (9 : Int) l1R).bind fun (vO, l8) => cond (vO == 0) ((f440 (Tp.mk kA mB loC hiF pG ps7) l9 l8).bind fun (s0D, l1T) => grdP ((0 : Int) ≤ v5 ∧ v5 < ((l6.length : Nat) : Int)) (getN l6 (0 + v5.toNat) fun uu1U => match uu1U with | (a57, .mk k1V m1W lo1X hi1Y p1Z ps20) => lft (some ((Ln.mk 3 aN s0D [] 0 0 0 0 (V.mk 0 0 (⟨#[]⟩ : BA) []) [] []), (Tp.mk vH sI vJ vK sM (l6.set (0 + v5.toNat) (s0D, (Tp.mk k1V m1W lo1X hi1Y p1Z ps20)))), l1T)))) (cond (vO == 1) (sbind (ο := Int × Int × BA × FV × LI) ((f42 fuel l9 (Tp.mk kP mQ loU hiV pW psY) (0 : Int) l8).bind fun ((.mk k21 n22 s23 f24), l25) => some (.inr (k21, n22, s23, f24, l25))) (fun (v26, v27, s28, l29, l2A) => (f443 v5 (wrap .i64 (v5 + 1)) l6).bind fun l2B => lft (some ((Ln.mk 4 aN (⟨#[]⟩ : BA) [] 0 0 0 0 (V.mk v26 v27 s28 l29) [] []), (Tp.mk vH sI vJ vK sM l2B), l2A)))) (cond (vO == 2) ((f444 fuel (Tp.mk kA mB loC hiF pG ps7) l9 l8).bind fun ((.mk op2C nm2D to2E ns2F n2G lo2H hi2I sep2J (.mk k2K n2L s2M f2N) prs2O ks2P), (.mk k2Q m2R lo2S hi2T p2U ps2V), l2W) => lft (some ((Ln.mk op2C nm2D to2E ns2F n2G lo2H hi2I sep2J (V.mk k2K n2L s2M f2N) prs2O ks2P), (Tp.mk k2Q m2R lo2S hi2T p2U ps2V), l2W))) (cond (vO == 3) ((f445 (Tp.mk kA mB loC hiF pG ps7) v5 l9 l8).bind fun ((.mk op2X nm2Y to2Z ns30 n31 lo32 hi33 sep34 (.mk k35 n36 s37 f38) prs39 ks3A), (.mk k3B m3C lo3D hi3E p3F ps3G), q3H) => cond q3H (lft (some ((Ln.mk op2X nm2Y to2Z ns30 n31 lo32 hi33 sep34 (V.mk k35 n36 s37 f38) prs39 ks3A), (Tp.mk k3B m3C lo3D hi3E p3F ps3G), l8))) (some (.inr l8))) (cond (vO == 4) ((f15 ((ps7.length : Nat) : Int) l8).bind fun (v0E, l3I) => sbind (ο := PT) ((f443 v5 (wrap .i64 (v5 + 1)) l6).bind fun l3J => (f446 v0E ([(aN, (Tp.mk kP mQ loU hiV pW psY))] : PT) l3J).bind fun l3K => some (.inr l3K)) (fun l3L => lft (some ((Ln.mk 8 aN (⟨#[]⟩ : BA) [] v0E 0 0 0 (V.mk 0 0 (⟨#[]⟩ : BA) []) [] []), (Tp.mk vH sI vJ vK sM l3L), l3I)))) (cond (vO == 5) ((f447 (Tp.mk kA mB loC hiF pG ps7) v5 l9 l8).bind fun ((.mk op3M nm3N to3O ns3P n3Q lo3R hi3S sep3T (.mk k3U n3V s3W f3X) prs3Y ks3Z), (.mk k40 m41 lo42 hi43 p44 ps45), q46) => cond q46 (lft (some ((Ln.mk op3M nm3N to3O ns3P n3Q lo3R hi3S sep3T (V.mk k3U n3V s3W f3X) prs3Y ks3Z), (Tp.mk k40 m41 lo42 hi43 p44 ps45), l8))) (some (.inr l8))) (some (.inr l8)))))))) (fun l0F => sbind (ο := Unit) (sbind (ο := Int × BA × Int × Int × BA × PT) ((f63 l9 (Tp.mk kP mQ loU hiV pW psY)).bind fun (.mk k47 m48 lo49 hi4A p4B ps4C) => some (.inr (k47, m48, lo49, hi4A, p4B, ps4C))) (fun (v4D, s58, v59, v5A, s4E, l5B) => sbind (ο := Bool) (cond (v4D == 5) (cond (s4E.toList == (⟨#[40, 91, 97, 45, 99, 93, 42, 41, 45, 40, 91, 48, 45, 57, 93, 42, 41]⟩ : BA).toList) (some (.inr true)) (some (.inr false))) (some (.inr false))) (fun q4F => cond q4F ((f440 (Tp.mk kA mB loC hiF pG ps7) l9 l0F).bind fun (s0G, l4G) => grdP ((0 : Int) ≤ v5 ∧ v5 < ((l6.length : Nat) : Int)) (getN l6 (0 + v5.toNat) fun uu4H => match uu4H with | (a4I, .mk k5C m5D lo5E hi5F p5G ps5H) => (f446 (wrap .i64 (v5 + 1)) ([(s0G, (Tp.mk 5 (⟨#[]⟩ : BA) 0 0 (⟨#[91, 48, 45, 57, 93, 42]⟩ : BA) []))] : PT) (l6.set (0 + v5.toNat) (a4I, (Tp.mk 5 (⟨#[]⟩ : BA) 0 0 (⟨#[91, 97, 45, 99, 93, 42]⟩ : BA) [])))).bind fun l4J => lft (some ((Ln.mk 9 aN s0G ([(⟨#[91, 97, 45, 99, 93, 42]⟩ : BA), (⟨#[91, 48, 45, 57, 93, 42]⟩ : BA)] : LB) 0 0 0 45 (V.mk 0 0 (⟨#[]⟩ : BA) []) [] []), (Tp.mk vH sI vJ vK sM l4J), l4G)))) (some (.inr ()))))) (fun () => (self377 (Tp.mk kP mQ loU hiV pW psY) (wrap .i64 (v0N - 1)) l9 l0F).bind fun ((.mk op4K nm4L to4M ns4N n4O lo4P hi4Q sep4R (.mk k4S n4T s4U f4V) prs4W ks4X), (.mk k4Y m4Z lo50 hi51 p52 ps53), l54) => grdP ((0 : Int) ≤ v5 ∧ v5 < ((l6.length : Nat) : Int)) (getN l6 (0 + v5.toNat) fun uu55 => match uu55 with | (a56, .mk k5I m5J lo5K hi5L p5M ps5N) => some ((Ln.mk 2 aN (⟨#[]⟩ : BA) [] 0 0 0 0 (V.mk 0 0 (⟨#[]⟩ : BA) []) [] ([(Ln.mk op4K nm4L to4M ns4N n4O lo4P hi4Q sep4R (V.mk k4S n4T s4U f4V) prs4W ks4X)] : List Ln)), (Tp.mk vH sI vJ vK sM (l6.set (0 + v5.toNat) (a56, (Tp.mk k4Y m4Z lo50 hi51 p52 ps53)))), l54)))))))
def S377 : Nat → (Tp → Int → PT → LI → Option (Ln × Tp × LI)) × (Tp → Int → PT → LI → Option (Ln × Tp × LI)) × (Tp → Tp → Int → PT → LI → Option (Ln × Tp × LI)) × (Tp → Tp → Int → PT → LI → Option (Ln × Tp × LI)) × (Tp → Tp → Int → PT → LI → Option (Ln × Tp × LI))
 | 0 => (fun _ _ _ _ => none, fun _ _ _ _ => none, fun _ _ _ _ _ => none, fun _ _ _ _ _ => none, fun _ _ _ _ _ => none)
 | n + 1 => (b377 (S377 n).2.1, b406 (S377 n).2.2.1 (S377 n).2.2.2.1 (S377 n).2.2.2.2, b427 n (S377 n).1, b426 n (S377 n).1, b425 n (S377 n).1)
def f377 (n : Nat) : Tp → Int → PT → LI → Option (Ln × Tp × LI) := (S377 n).1
def f406 (n : Nat) : Tp → Int → PT → LI → Option (Ln × Tp × LI) := (S377 n).2.1
def f427 (n : Nat) : Tp → Tp → Int → PT → LI → Option (Ln × Tp × LI) := (S377 n).2.2.1
def f426 (n : Nat) : Tp → Tp → Int → PT → LI → Option (Ln × Tp × LI) := (S377 n).2.2.2.1
def f425 (n : Nat) : Tp → Tp → Int → PT → LI → Option (Ln × Tp × LI) := (S377 n).2.2.2.2
def C377 (O : Oracle TT) (m : Tp → Int → PT → LI → Option (Ln × Tp × LI)) : Prop :=
 ∀ k6 m7 lo8 hi9 pA psB vC l5 lF (Q : (Ln × Tp × LI) → Prop) (R : RR) (_ : ∀ opG nmH toI nsJ nK loM hiN sepO kP nQ sU fV prsW ksY kZ m00 lo01 hi02 p03 ps04 l05, Q ((Ln.mk opG nmH toI nsJ nK loM hiN sepO (V.mk kP nQ sU fV) prsW ksY), (Tp.mk kZ m00 lo01 hi02 p03 ps04), l05) → R (.tup [.agg [ci opG, .str nmH, .str toI, .isl .str nsJ, ci nK, ci loM, ci hiN, .int .u8 sepO, ci kP, ci nQ, .str sU, .isl .fld fV, .isl .two prsW, .isl .lens ksY], .agg [ci kZ, .str m00, ci lo01, ci hi02, .str p03, .isl .part ps04]]) [eV (.x 0) [.isl .dfn l5, .ptr (.x 1) 0 0], eV (.x 1) [.isl .int l05]]) (_ : sat (m (Tp.mk k6 m7 lo8 hi9 pA psB) vC l5 lF) Q), O 377 [pX 0, .agg [ci k6, .str m7, ci lo8, ci hi9, .str pA, .isl .part psB], iD vC] [eV (.x 0) [.isl .dfn l5, .ptr (.x 1) 0 0], eV (.x 1) [.isl .int lF]] R
def j377 : Fn TT := ⟨50, [.cell 6 14 true, .cell 7 6 true], (sr [qo 4 (.box 4 1),qo 6 (.alloc 6 zLn),qo 7 (.alloc 7 zTp)] (sr [qm 12 0,qo 13 (.nilck 12),qo 14 (.fa 13 1),qo 15 (ld 14),qo 16 (.call 16 15 [15, (iC 4)]),qm 8 16] (.seq (sr [qm 17 8,qo 18 (.bin .lss .num 17 (iC 2)),qm 19 18,qf 19 20 (.mv 2),
 qf 19 21 (.bin .eql .num 20 (iC 0)),qo 22 (.pick 19 bT 21)] (.cond 22 (sr [qm 23 0,qo 24 (.load 4 6 true),qm 25 2,qo 26 (.call 26 406 [23, 24, 25]),qo 27 (.ext 26 0),qo 28 (.ext 26 1),qp (.store 6 27 14),qp (.store 7 28 6)] .ret) .skip)) (.seq
 (.reg [qo 29 (.build [.int .i64 0, .str eB, .str eB, .nils, .int .i64 0, .int .i64 0, .int .i64 0, .int .u8 0, .int .i64 0, .int .i64 0, .str eB, .nils, .nils, .nils] [((0, 1), (iC 1))]),qo 9 (.alloc 9 zLn),qp (.store 9 29 14)]) (.cut [4, 6, 7, 9] [(.s 4), (.s 6), (.s 7), (.s 9), (.x 0), (.x 1), (.sub (.sub (.s 9) 600) 13)] (sr [qm 30 8,qo 31 (.mv (iC 0))] (.block 0
 (.pre [.ownc (.s 9) 13 .lens (.sub (.sub (.s 9) 600) 13)] (.loop (.keep [0, 2, 4, 6, 7, 9, 30, 31] [(.x 0), (.s 4), (.s 6), (.s 7), (.s 9), (.x 1), (.sub (.sub (.s 9) 600) 13)] (.aft (sr [qo 32 (.bin .lss .num 31 30)] (.seq (.cond 32 .skip (.exit 0)) (.seq (.block 1 (sr [qm 34 0,qo 35 (.load 4 6 true),qm 36 2,qo 37 (.call 37 406 [34, 35, 36]),qm 33 37,
 qo 38 (.ext 33 0),qo 39 (.ext 33 1),qo 10 (.alloc 10 zLn),qo 11 (.alloc 11 zTp),qp (.store 10 38 14),qp (.store 11 39 6)] (.drw [(.sub (.sub (.s 9) 600) 13)] (.go 0 (.go 1 (.go 2 (.alt 3 (.alt 4 (.go 6 (.alt 5 (.go 7 (.go 8 .nil)) 7 (.go 5 (.go 8 .nil)))) 5 (.go 4 (.go 6 (.go 7 (.go 8 .nil))))) 5 (.go 3 (.go 4 (.go 6 (.go 7 (.go 8 .nil))))))))) [7, 8] [0, 1, 2, 6] [qo 40 (.fa 9 13),
 qo 41 (ld 40),qo 42 (.load 10 14 true),qo 43 (.bsl .lens [42]),qo 44 (.app 44 .lens 68719476736 41 43),qo 45 (.load 11 6 true),qo 46 (.fa 9 13),qp (.store 46 44 1),qp (.store 4 45 6)]))) (.reg [qo 47 (.bin .add .num 31 (iC 1)),
 qm 31 47])))) [.keep [0, 2, 4, 6, 7, 9, 30, 31] [(.x 0), (.s 4), (.s 6), (.s 7), (.s 9), (.x 1), (.s 44)], .ownc (.s 9) 13 .lens (.sub (.sub (.s 9) 600) 13)])))))) (.seq (.drw [(.s 6)] (ol [0, 1, 2, 3]) [3] [0, 1] [qo 48 (.load 9 14 true),qo 49 (.load 4 6 true),qp (.store 6 48 14),qp (.store 7 49 6)])
 (.pre [.frzc (.s 6) 3 .str, .frzc (.s 6) 11 .fld, .frzc (.s 6) 12 .two, .frzc (.s 6) 13 .lens] .ret)))))))⟩
def C406 (O : Oracle TT) (m : Tp → Int → PT → LI → Option (Ln × Tp × LI)) : Prop :=
 ∀ k6 m7 lo8 hi9 pA psB vC l5 lF (Q : (Ln × Tp × LI) → Prop) (R : RR) (_ : ∀ opG nmH toI nsJ nK loM hiN sepO kP nQ sU fV prsW ksY kZ m00 lo01 hi02 p03 ps04 l05, Q ((Ln.mk opG nmH toI nsJ nK loM hiN sepO (V.mk kP nQ sU fV) prsW ksY), (Tp.mk kZ m00 lo01 hi02 p03 ps04), l05) → R (.tup [.agg [ci opG, .str nmH, .str toI, .isl .str nsJ, ci nK, ci loM, ci hiN, .int .u8 sepO, ci kP, ci nQ, .str sU, .isl .fld fV, .isl .two prsW, .isl .lens ksY], .agg [ci kZ, .str m00, ci lo01, ci hi02, .str p03, .isl .part ps04]]) [eV (.x 0) [.isl .dfn l5, .ptr (.x 1) 0 0], eV (.x 1) [.isl .int l05]]) (_ : sat (m (Tp.mk k6 m7 lo8 hi9 pA psB) vC l5 lF) Q), O 406 [pX 0, .agg [ci k6, .str m7, ci lo8, ci hi9, .str pA, .isl .part psB], iD vC] [eV (.x 0) [.isl .dfn l5, .ptr (.x 1) 0 0], eV (.x 1) [.isl .int lF]] R
def j406 : Fn TT := ⟨84, [.cell 6 14 true, .cell 7 6 true], (sr [qo 4 (.box 4 1),qo 6 (.alloc 6 zLn),qo 7 (.alloc 7 zTp)] (.cut [0, 2, 4, 6, 7, 8] [(.x 0), (.s 4), (.s 6), (.s 7), (.s 8), (.x 1)] (.drw [] (.go 0 (.go 1 (.go 2 (.go 3 (.go 4 (.alt 5 (.go 6 (.go 7 .nil)) 6 (.go 5 (.go 7 .nil)))))))) [7] [0, 1, 2, 3, 4] [qm 9 0,qo 10 (.nilck 9),qo 11 (.fa 10 0),
 qo 12 (ld 11),qo 13 (.load 4 6 true),qo 14 (.call 14 63 [12, 13]),qo 8 (.alloc 8 zTp),qp (.store 8 14 6)]) (.seq (sr [qm 15 0,qo 16 (.nilck 15),qo 17 (.fa 16 1),qo 18 (ld 17),qo 19 (.call 19 15 [18, (iC 12)]),qo 20 (.bin .eql .num 19 (iC 0))] (.cond 20 (.cut [6, 7] [(.s 6), (.s 7), (.x 0), (.x 1)]
 (.drw [(.s 6)] (.go 0 (.go 1 (.go 2 (.alt 3 (.go 4 (.go 5 (.go 6 .nil))) 5 (.go 3 (.go 4 (.go 6 .nil))))))) [6] [0, 1, 2, 4] [qo 21 (.build zLn [((0, 1), (iC 16)), ((1, 1), (.c (.str (⟨#[122]⟩ : BA))))]),qo 22 (.load 4 6 true),qo 23 (.build zPt [((0, 1), (.c (.str (⟨#[122]⟩ : BA)))), ((1, 6), 22)]),qo 24 (.bsl .part [23]),qo 25 (.build zTp [((0, 1), (iC 7)), ((5, 1), 24)]),
 qp (.store 6 21 14),qp (.store 7 25 6)]) .ret) .skip)) (.seq (sr [qm 26 2,qo 27 (.bin .eql .num 26 (iC 0))] (.cond 27 (sr [qo 28 (.load 4 6 true),qo 29 (.call 29 380 [28]),qo 30 (.ext 29 0),qo 31 (.ext 29 1),qp (.store 6 30 14),qp (.store 7 31 6)] .ret) .skip)) (.seq (sr [qo 32 (.fa 8 0),qo 33 (ld 32)] (.block 0 (.seq
 (.reg [qo 35 (.bin .eql .num 33 (iC 6)),qm 34 35]) (.cond 34 (sr [qm 36 0,qo 37 (.load 4 6 true),qo 38 (.load 8 6 true),qm 39 2,qo 40 (.call 40 425 [36, 37, 38, 39]),qo 41 (.ext 40 0),qo 42 (.ext 40 1),qp (.store 6 41 14),qp (.store 7 42 6)] .ret) (sr [qo 44 (.bin .eql .num 33 (iC 7)),qm 43 44] (.cond 43 (sr [qm 45 0,
 qo 46 (.load 4 6 true),qo 47 (.load 8 6 true),qm 48 2,qo 49 (.call 49 426 [45, 46, 47, 48]),qo 50 (.ext 49 0),qo 51 (.ext 49 1),qp (.store 6 50 14),qp (.store 7 51 6)] .ret) (.cut [0, 2, 4, 6, 7, 8, 33, 52] [(.x 0), (.s 4), (.s 6), (.s 7), (.s 8), (.x 1)] (sr [qo 53 (.bin .eql .num 33 (iC 8)),qm 52 53] (.cond 52 .skip (.reg [qo 54 (.bin .eql .num 33 (iC 9)),
 qm 52 54]))) (.cond 52 (sr [qm 55 0,qo 56 (.load 4 6 true),qo 57 (.load 8 6 true),qm 58 2,qo 59 (.call 59 427 [55, 56, 57, 58]),qo 60 (.ext 59 0),qo 61 (.ext 59 1),qp (.store 6 60 14),qp (.store 7 61 6)] .ret) (.cut [0, 4, 6, 7, 8, 33, 62] [(.x 0), (.s 4), (.s 6), (.s 7), (.s 8), (.x 1)] (sr [qo 63 (.bin .eql .num 33 (iC 1)),qm 62 63] (.cond 62
 .skip (sr [qo 64 (.bin .eql .num 33 (iC 2)),qm 62 64] (.cond 62 .skip (.reg [qo 65 (.bin .eql .num 33 (iC 4)),qm 62 65]))))) (.cond 62 (sr [qm 66 0,qo 67 (.load 4 6 true),qo 68 (.load 8 6 true),qo 69 (.call 69 428 [66, 67, 68]),qo 70 (.ext 69 0),qo 71 (.ext 69 1),qp (.store 6 70 14),qp (.store 7 71 6)] .ret) (.seq
 (.reg [qo 73 (.bin .eql .num 33 (iC 5)),qm 72 73]) (.cond 72 (sr [qm 74 0,qo 75 (.load 4 6 true),qo 76 (.load 8 6 true),qo 77 (.call 77 429 [74, 75, 76]),qo 78 (.ext 77 0),qo 79 (.ext 77 1),qp (.store 6 78 14),qp (.store 7 79 6)] .ret) .skip)))))))))))) (sr [qo 80 (.load 4 6 true),qo 81 (.call 81 380 [80]),qo 82 (.ext 81 0),qo 83 (.ext 81 1),
 qp (.store 6 82 14),qp (.store 7 83 6)] .ret))))))⟩
def C427 (O : Oracle TT) (m : Tp → Tp → Int → PT → LI → Option (Ln × Tp × LI)) : Prop :=
 ∀ k6 m7 lo8 hi9 pA psB kC mF loG hiH pI psJ vK l5 lM (Q : (Ln × Tp × LI) → Prop) (R : RR) (_ : ∀ opN nmO toP nsQ nU loV hiW sepY kZ n00 s01 f02 prs03 ks04 k05 m06 lo07 hi08 p09 ps0A l0B, Q ((Ln.mk opN nmO toP nsQ nU loV hiW sepY (V.mk kZ n00 s01 f02) prs03 ks04), (Tp.mk k05 m06 lo07 hi08 p09 ps0A), l0B) → R (.tup [.agg [ci opN, .str nmO, .str toP, .isl .str nsQ, ci nU, ci loV, ci hiW, .int .u8 sepY, ci kZ, ci n00, .str s01, .isl .fld f02, .isl .two prs03, .isl .lens ks04], .agg [ci k05, .str m06, ci lo07, ci hi08, .str p09, .isl .part ps0A]]) [eV (.x 0) [.isl .dfn l5, .ptr (.x 1) 0 0], eV (.x 1) [.isl .int l0B]]) (_ : sat (m (Tp.mk k6 m7 lo8 hi9 pA psB) (Tp.mk kC mF loG hiH pI psJ) vK l5 lM) Q), O 427 [pX 0, .agg [ci k6, .str m7, ci lo8, ci hi9, .str pA, .isl .part psB], .agg [ci kC, .str mF, ci loG, ci hiH, .str pI, .isl .part psJ], iD vK] [eV (.x 0) [.isl .dfn l5, .ptr (.x 1) 0 0], eV (.x 1) [.isl .int lM]] R
def j427 : Fn TT := ⟨130, [.cell 8 14 true, .cell 9 6 true], (sr [qo 5 (.box 5 1),qo 6 (.box 6 2),qo 8 (.alloc 8 zLn),qo 9 (.alloc 9 zTp)] (sr [qo 22 (.load 6 6 true),qo 23 (.call 23 438 [22]),qo 10 (.alloc 10 zTp),qp (.store 10 23 6)] (.cut [0, 3, 6, 8, 9, 10, 11] [(.x 0), (.s 6), (.s 8), (.s 9), (.s 10), (.s 11), (.x 1), (.sub (.s 23) 0)]
 (.drw [] (.go 0 (.go 1 (.go 2 (.go 3 (.go 4 (.go 5 (.go 6 (.go 7 (.go 8 (.alt 9 (.go 10 (.go 11 .nil)) 10 (.go 9 (.go 11 .nil)))))))))))) [11] [0, 1, 2, 3, 4, 5, 6, 7, 8] [qm 24 0,qo 25 (.nilck 24),qo 26 (.fa 25 0),qo 27 (ld 26),qo 28 (.fa 6 5),qo 29 (ld 28),qo 30 (.idxA 29 (iC 0) 7),qo 31 (.fa 30 1),qo 32 (.load 31 6 true),qo 33 (.call 33 63 [27, 32]),
 qo 11 (.alloc 11 zTp),qp (.store 11 33 6)]) (.cut [0, 3, 6, 8, 9, 10] [(.x 0), (.s 6), (.s 8), (.s 9), (.s 10), (.x 1), (.sub (.s 23) 0)] (sr [qo 34 (.fa 6 0),qo 35 (ld 34),qo 36 (.bin .eql .num 35 (iC 8)),qm 37 36,qg 37 38 (.fa 11 0),qg 37 39 (ld 38),qg 37 40 (.bin .eql .num 39 (iC 6)),qo 41 (.pick 37 40 bF),qm 42 41,qg 42 43 (.mv 0),
 qg 42 44 (.nilck 43),qg 42 45 (.fa 44 1),qg 42 46 (ld 45),qg 42 47 (.call 47 15 [46, (iC 2)]),qg 42 48 (.bin .eql .num 47 (iC 0)),qo 49 (.pick 42 48 bF)] (.cond 49 (sr [qm 51 0,qo 52 (.load 6 6 true),qo 53 (.load 11 6 true),qo 54 (.call 54 448 [51, 52, 53]),qm 50 54,qo 55 (.ext 50 0),qo 56 (.ext 50 1),qo 57 (.ext 50 2),qo 12 (.alloc 12 zLn),
 qo 13 (.alloc 13 zTp),qp (.store 12 55 14),qp (.store 13 56 6),qm 14 57] (sr [qm 58 14] (.cond 58 (.seq (.drw [(.s 8)] (ol [0, 1, 2, 3]) [3] [0, 1] [qo 59 (.load 12 14 true),qo 60 (.load 13 6 true),qp (.store 8 59 14),qp (.store 9 60 6)]) .ret) .skip))) .skip)) (sr [qm 62 0,qo 63 (.fa 6 5),qo 64 (ld 63),qo 65 (.idxA 64 (iC 0) 7),
 qo 66 (.fa 65 1),qo 67 (.load 66 6 true),qm 68 3,qo 69 (.bin .sub .num 68 (iC 1)),qo 70 (.call 70 377 [62, 67, 69]),qm 61 70,qo 71 (.ext 61 0),qo 72 (.ext 61 1),qo 15 (.alloc 15 zLn),qo 16 (.alloc 16 zTp),qp (.store 15 71 14),qp (.store 16 72 6)] (sr [qo 73 (.fa 10 5),qo 74 (ld 73),qo 75 (.load 16 6 true),qo 76 (.idxA 74 (iC 0) 7),qo 77 (.fa 76 1),
 qp (.store 77 75 6)] (sr [qo 78 (.load 15 14 true),qo 79 (.bsl .lens [78]),qo 80 (.build zLn [((0, 1), (iC 13)), ((13, 1), 79)]),qo 17 (.alloc 17 zLn),qp (.store 17 80 14)] (.cut [8, 9, 10, 17] [(.s 8), (.s 9), (.s 10), (.s 17), (.x 0), (.x 1), (.sub (.s 23) 0)] (.cut [0, 6, 8, 9, 10, 17, 18] [(.x 0), (.s 6), (.s 8), (.s 9), (.s 10), (.s 17), (.s 18), (.x 1), (.sub (.s 23) 0)]
 (.drw [] (.go 0 (.go 1 (.go 2 (.go 3 (.go 4 (.alt 5 (.go 6 (.go 7 .nil)) 6 (.go 5 (.go 7 .nil)))))))) [7] [0, 1, 2, 3, 4] [qm 81 0,qo 82 (.nilck 81),qo 83 (.fa 82 0),qo 84 (ld 83),qo 85 (.load 16 6 true),qo 86 (.call 86 63 [84, 85]),qo 18 (.alloc 18 zTp),qp (.store 18 86 6)]) (sr [qo 87 (.fa 6 0),qo 88 (ld 87),qo 89 (.bin .eql .num 88 (iC 8)),
 qm 90 89,qg 90 91 (.fa 18 0),qg 90 92 (ld 91),qg 90 93 (.bin .eql .num 92 (iC 6)),qo 94 (.pick 90 93 bF),qm 95 94,qg 95 96 (.mv 0),qg 95 97 (.nilck 96),qg 95 98 (.fa 97 1),qg 95 99 (ld 98),qg 95 100 (.call 100 15 [99, (iC 2)]),qg 95 101 (.bin .eql .num 100 (iC 0)),qo 102 (.pick 95 101 bF)] (.cond 102 (sr [qo 103 (.fa 18 5),
 qo 104 (ld 103),qo 105 (.len false 104),qo 106 (.mv (iC 0))] (.block 0 (.loop (.keep [0, 8, 9, 10, 17, 104, 105, 106] [(.x 0), (.s 8), (.s 9), (.s 10), (.s 17), (.x 1), (.sub (.s 23) 0)] (.aft (sr [qo 107 (.bin .lss .num 106 105)] (.seq (.cond 107 .skip (.exit 0)) (.seq (.block 1 (sr [qo 108 (.idxA 104 106 7),qo 109 (.load 108 7 true),qo 20 (.alloc 20 zPt),
 qp (.store 20 109 7)] (.seq (.drw [] (oR 9) [] [0, 1, 2, 3, 4, 5, 7, 8] [qm 110 0,qo 111 (.nilck 110),qo 112 (.fa 111 0),qo 113 (ld 112),qo 114 (.fa 20 1),qo 115 (.load 114 6 true),qo 116 (.call 116 63 [113, 115]),qo 117 (.fld 116 0 1 false),qm 21 117]) (sr [qm 118 21,qo 119 (.bin .geq .num 118 (iC 1)),qm 120 119,qg 120 121 (.mv 21),
 qg 120 122 (.bin .leq .num 121 (iC 5)),qo 123 (.pick 120 122 bF)] (.cond 123 (.reg [qo 124 (.fa 20 0),qo 125 (ld 124),qo 126 (.fa 17 1),qp (.store 126 125 1)]) .skip))))) (.reg [qo 127 (.bin .add .num 106 (iC 1)),qm 106 127])))) [.keep [0, 8, 9, 10, 17, 104, 105, 106] [(.x 0), (.s 8), (.s 9), (.s 10), (.s 17), (.x 1), (.sub (.s 23) 0)]]))))) .skip))) (.seq
 (.drw [(.s 8)] (ol [0, 1, 2, 3]) [3] [0, 1] [qo 128 (.load 17 14 true),qo 129 (.load 10 6 true),qp (.store 8 128 14),qp (.store 9 129 6)]) (.pre [.frzc (.s 9) 5 .part] .ret))))))))))⟩
def C426 (O : Oracle TT) (m : Tp → Tp → Int → PT → LI → Option (Ln × Tp × LI)) : Prop :=
 ∀ k6 m7 lo8 hi9 pA psB kC mF loG hiH pI psJ vK l5 lM (Q : (Ln × Tp × LI) → Prop) (R : RR) (_ : ∀ opN nmO toP nsQ nU loV hiW sepY kZ n00 s01 f02 prs03 ks04 k05 m06 lo07 hi08 p09 ps0A l0B, Q ((Ln.mk opN nmO toP nsQ nU loV hiW sepY (V.mk kZ n00 s01 f02) prs03 ks04), (Tp.mk k05 m06 lo07 hi08 p09 ps0A), l0B) → R (.tup [.agg [ci opN, .str nmO, .str toP, .isl .str nsQ, ci nU, ci loV, ci hiW, .int .u8 sepY, ci kZ, ci n00, .str s01, .isl .fld f02, .isl .two prs03, .isl .lens ks04], .agg [ci k05, .str m06, ci lo07, ci hi08, .str p09, .isl .part ps0A]]) [eV (.x 0) [.isl .dfn l5, .ptr (.x 1) 0 0], eV (.x 1) [.isl .int l0B]]) (_ : sat (m (Tp.mk k6 m7 lo8 hi9 pA psB) (Tp.mk kC mF loG hiH pI psJ) vK l5 lM) Q), O 426 [pX 0, .agg [ci k6, .str m7, ci lo8, ci hi9, .str pA, .isl .part psB], .agg [ci kC, .str mF, ci loG, ci hiH, .str pI, .isl .part psJ], iD vK] [eV (.x 0) [.isl .dfn l5, .ptr (.x 1) 0 0], eV (.x 1) [.isl .int lM]] R
def j426 : Fn TT := ⟨185, [.cell 8 14 true, .cell 9 6 true], (sr [qo 5 (.box 5 1),qo 6 (.box 6 2),qo 8 (.alloc 8 zLn),qo 9 (.alloc 9 zTp)] (sr [qo 19 (.load 6 6 true),qo 20 (.call 20 438 [19]),qo 10 (.alloc 10 zTp),qp (.store 10 20 6)] (.seq (.drw [(.x 1)] (oR 9) [] [0, 1, 2, 3, 4, 5, 6, 8] [qm 21 0,qo 22 (.nilck 21),qo 23 (.fa 22 1),
 qo 24 (ld 23),qo 25 (.fa 6 5),qo 26 (ld 25),qo 27 (.len false 26),qo 28 (.call 28 15 [24, 27]),qm 11 28]) (.cut [0, 3, 6, 8, 9, 10, 11] [(.x 0), (.s 6), (.s 8), (.s 9), (.s 10), (.x 1), (.sub (.s 20) 0)] (sr [qm 29 0,qo 30 (.nilck 29),qo 31 (.fa 30 1),qo 32 (ld 31),qo 33 (.call 33 15 [32, (iC 4)]),qm 12 33] (.block 0 (.seq
 (.reg [qm 35 12,qo 36 (.bin .eql .num 35 (iC 0)),qm 34 36]) (.cond 34 (sr [qm 37 0,qo 38 (.load 6 6 true),qo 39 (.call 39 440 [37, 38]),qm 13 39] (sr [qo 40 (.fa 10 5),qo 41 (ld 40),qm 42 11,qm 43 13,qo 44 (.idxA 41 42 7),qo 45 (.fa 44 0),qp (.store 45 43 1)] (.seq
 (.drw [(.s 8)] (oR 11) [10] (List.range 9) [qo 46 (.fa 6 5),qo 47 (ld 46),qm 48 11,qo 49 (.idxA 47 48 7),qo 50 (.fa 49 0),qo 51 (ld 50),qm 52 13,qo 53 (.build zLn [((0, 1), (iC 3)), ((1, 1), 51), ((2, 1), 52)]),qo 54 (.load 10 6 true),qp (.store 8 53 14),qp (.store 9 54 6)]) (.pre [.frzc (.s 9) 5 .part] .ret))))
 (.cut [0, 3, 6, 8, 9, 10, 11, 12, 55] [(.x 0), (.s 6), (.s 8), (.s 9), (.s 10), (.x 1), (.sub (.s 20) 0)] (.reg [qm 56 12,qo 57 (.bin .eql .num 56 (iC 1)),qm 58 57,qg 58 59 (.fa 6 5),qg 58 60 (ld 59),qg 58 61 (.len false 60),qg 58 62 (.bin .eql .num 61 (iC 1)),qo 63 (.pick 58 62 bF),qm 55 63]) (.cond 55 (.seq
 (.drw [(.s 8)] (oR 13) [12] (List.range 11) [qo 64 (.fa 6 5),qo 65 (ld 64),qo 66 (.idxA 65 (iC 0) 7),qo 67 (.fa 66 0),qo 68 (ld 67),qo 69 (.build zLn [((0, 1), (iC 17)), ((1, 1), 68)]),qo 70 (.fa 6 5),qo 71 (ld 70),qo 72 (.idxA 71 (iC 0) 7),qo 73 (.fa 72 1),qo 74 (.load 73 6 true),qp (.store 8 69 14),qp (.store 9 74 6)]) .ret)
 (.cut [0, 3, 6, 8, 9, 10, 11, 75] [(.x 0), (.s 6), (.s 8), (.s 9), (.s 10), (.x 1), (.sub (.s 20) 0)] (.drw [] (oR 39) [] [0, 1, 2, 3, 4, 5, 6, 7, 8, 9, 10, 11, 12, 13, 14, 15, 16, 17, 18, 19, 20, 21, 22, 23, 24, 25, 26, 27, 28, 29, 30, 31, 32, 33, 35, 36, 37, 38] [qm 76 12,qo 77 (.bin .lss .num 76 (iC 3)),qm 78 77,qg 78 79 (.fa 6 5),qg 78 80 (ld 79),
 qg 78 81 (.len false 80),qg 78 82 (.bin .eql .num 81 (iC 2)),qo 83 (.pick 78 82 bF),qm 84 83,qg 84 85 (.fa 6 5),qg 84 86 (ld 85),qg 84 87 (.idxA 86 (iC 0) 7),qg 84 88 (.fa 87 0),qg 84 89 (ld 88),qg 84 90 (.bin .eql .str 89 (.c (.str (⟨#[110, 111, 110, 101]⟩ : BA)))),qo 91 (.pick 84 90 bF),qm 92 91,qg 92 93 (.fa 6 5),qg 92 94 (ld 93),
 qg 92 95 (.idxA 94 (iC 1) 7),qg 92 96 (.fa 95 0),qg 92 97 (ld 96),qg 92 98 (.bin .eql .str 97 (.c (.str (⟨#[115, 111, 109, 101]⟩ : BA)))),qo 99 (.pick 92 98 bF),qm 100 99,qg 100 101 (.mv 0),qg 100 102 (.nilck 101),qg 100 103 (.fa 102 0),qg 100 104 (ld 103),qg 100 105 (.fa 6 5),qg 100 106 (ld 105),qg 100 107 (.idxA 106 (iC 0) 7),
 qg 100 108 (.fa 107 1),qg 100 109 (.load 108 6 true),qg 100 110 (.call 110 63 [104, 109]),qg 100 111 (.fld 110 0 1 false),qg 100 112 (.bin .eql .num 111 (iC 0)),qo 113 (.pick 100 112 bF),qm 75 113]) (.cond 75 (.seq
 (.drw [(.x 1), (.s 8)] (ol [0, 1, 2, 3, 4, 5, 6, 7, 8, 9, 10, 11, 12, 15, 16, 17, 18, 19, 13, 14, 20, 21]) [21] [0, 1, 2, 3, 4, 5, 6, 7, 8, 9, 10, 11, 12, 14, 15, 16, 17, 18, 19] [qm 114 0,qo 115 (.nilck 114),qo 116 (.fa 115 0),qo 117 (ld 116),qo 118 (.fa 6 5),qo 119 (ld 118),qo 120 (.idxA 119 (iC 1) 7),qo 121 (.fa 120 1),qo 122 (.load 121 6 true),
 qm 123 0,qo 124 (.nilck 123),qo 125 (.fa 124 1),qo 126 (ld 125),qo 127 (.call 127 42 [117, 122, 126, (iC 0)]),qo 128 (.build zLn [((0, 1), (iC 18)), ((8, 4), 127)]),qo 129 (.fa 6 5),qo 130 (ld 129),qo 131 (.idxA 130 (iC 1) 7),qo 132 (.fa 131 1),qo 133 (.load 132 6 true),qp (.store 8 128 14),qp (.store 9 133 6)]) .ret) .skip)))))))) (.seq
 (.reg [qo 134 (.build [.int .i64 0, .str eB, .str eB, .nils, .int .i64 0, .int .i64 0, .int .i64 0, .int .u8 0, .int .i64 0, .int .i64 0, .str eB, .nils, .nils, .nils] [((0, 1), (iC 14))]),qo 14 (.alloc 14 zLn),qp (.store 14 134 14)]) (.cut [8, 9, 10, 14] [(.s 8), (.s 9), (.s 10), (.s 14), (.x 0), (.x 1), (.sub (.s 20) 0), (.sub (.sub (.s 14) 600) 3), (.sub (.sub (.s 14) 600) 13)] (.seq
 (.reg [qo 135 (.fa 6 5),qo 136 (ld 135),qo 137 (.len false 136),qo 138 (.mv (iC 0))]) (.block 1 (.pre [.ownc (.s 14) 3 .str (.sub (.sub (.s 14) 600) 3), .ownc (.s 14) 13 .lens (.sub (.sub (.s 14) 600) 13)]
 (.loop (.keep [0, 3, 8, 9, 10, 11, 14, 136, 137, 138] [(.x 0), (.s 8), (.s 9), (.s 10), (.s 14), (.x 1), (.sub (.s 20) 0), (.sub (.sub (.s 14) 600) 3), (.sub (.sub (.s 14) 600) 13)] (.aft (sr [qo 139 (.bin .lss .num 138 137)] (.seq (.cond 139 .skip (.exit 1)) (.seq (.block 2 (sr [qm 140 138,qo 141 (.idxA 136 138 7),qo 142 (.load 141 7 true),qo 16 (.alloc 16 zPt),
 qm 15 140,qp (.store 16 142 7)] (.cut [0, 3, 8, 9, 10, 11, 14, 15, 16, 136, 137, 138, 153] [(.x 0), (.s 8), (.s 9), (.s 10), (.s 14), (.s 16), (.x 1), (.sub (.s 20) 0), (.sub (.sub (.s 14) 600) 3), (.sub (.sub (.s 14) 600) 13)] (.reg [qm 143 15,qm 144 11,qo 145 (.bin .eql .num 143 144),qm 146 145,qf 146 147 (.mv 0),qf 146 148 (.nilck 147),qf 146 149 (.fa 148 1),
 qf 146 150 (ld 149),qf 146 151 (.call 151 15 [150, (iC 2)]),qf 146 152 (.bin .eql .num 151 (iC 0)),qo 153 (.pick 146 bT 152)]) (.cond 153 (sr [qm 155 0,qo 156 (.fa 16 1),qo 157 (.load 156 6 true),qm 158 3,qo 159 (.bin .sub .num 158 (iC 1)),qo 160 (.call 160 377 [155, 157, 159]),qm 154 160,qo 161 (.ext 154 0),qo 162 (.ext 154 1),
 qo 17 (.alloc 17 zLn),qo 18 (.alloc 18 zTp),qp (.store 17 161 14),qp (.store 18 162 6)] (sr [qo 163 (.fa 10 5),qo 164 (ld 163),qm 165 15,qo 166 (.load 18 6 true),qo 167 (.idxA 164 165 7),qo 168 (.fa 167 1),qp (.store 168 166 6)]
 (.drw [(.sub (.sub (.s 14) 600) 3), (.sub (.sub (.s 14) 600) 13)] (.go 0 (.go 1 (.go 2 (.go 3 (.go 6 (.go 7 (.alt 4 (.alt 5 (.go 11 (.go 8 (.go 9 (.go 10 (.go 12 (.go 13 (.go 14 .nil))))))) 8 (.alt 5 (.go 11 (.go 9 (.go 10 (.go 12 (.go 13 (.go 14 .nil)))))) 9 (.go 5 (.go 11 (.go 10 (.go 12 (.go 13 (.go 14 .nil)))))))) 8 (.alt 4 (.alt 5 (.go 11 (.go 9 (.go 10 (.go 12 (.go 13 (.go 14 .nil)))))) 9 (.go 5 (.go 11 (.go 10 (.go 12 (.go 13 (.go 14 .nil))))))) 9 (.go 4 (.go 5 (.go 11 (.go 10 (.go 12 (.go 13 (.go 14 .nil))))))))))))))) [12, 14] [0, 1, 2, 3, 6, 7, 11, 13] [qo 169 (.fa 14 3),
 qo 170 (ld 169),qo 171 (.fa 16 0),qo 172 (ld 171),qo 173 (.bsl .str [172]),qo 174 (.app 174 .str 68719476736 170 173),qo 175 (.fa 14 13),qo 176 (ld 175),qo 177 (.load 17 14 true),qo 178 (.bsl .lens [177]),qo 179 (.app 179 .lens 68719476736 176 178),qo 180 (.fa 14 3),qp (.store 180 174 1),qo 181 (.fa 14 13),qp (.store 181 179 1)]))) .skip))))
 (.reg [qo 182 (.bin .add .num 138 (iC 1)),qm 138 182])))) [.keep [0, 3, 8, 9, 10, 11, 14, 136, 137, 138] [(.x 0), (.s 8), (.s 9), (.s 10), (.s 14), (.x 1), (.sub (.s 20) 0), (.sub (.sub (.s 14) 600) 3), (.sub (.sub (.s 14) 600) 13), (.s 174), (.s 179)], .ownc (.s 14) 3 .str (.sub (.sub (.s 14) 600) 3), .ownc (.s 14) 13 .lens (.sub (.sub (.s 14) 600) 13)])))))) (.seq
 (.drw [(.s 8)] (ol [0, 1, 2, 3]) [3] [0, 1] [qo 183 (.load 14 14 true),qo 184 (.load 10 6 true),qp (.store 8 183 14),qp (.store 9 184 6)]) (.pre [.frzc (.s 8) 3 .str, .frzc (.s 8) 11 .fld, .frzc (.s 8) 12 .two, .frzc (.s 8) 13 .lens, .frzc (.s 9) 5 .part] .ret))))))))⟩
def C425 (O : Oracle TT) (m : Tp → Tp → Int → PT → LI → Option (Ln × Tp × LI)) : Prop :=
 ∀ k6 m7 lo8 hi9 pA psB kC mF loG hiH pI psJ vK l5 lM (Q : (Ln × Tp × LI) → Prop) (R : RR) (_ : ∀ opN nmO toP nsQ nU loV hiW sepY kZ n00 s01 f02 prs03 ks04 k05 m06 lo07 hi08 p09 ps0A l0B, Q ((Ln.mk opN nmO toP nsQ nU loV hiW sepY (V.mk kZ n00 s01 f02) prs03 ks04), (Tp.mk k05 m06 lo07 hi08 p09 ps0A), l0B) → R (.tup [.agg [ci opN, .str nmO, .str toP, .isl .str nsQ, ci nU, ci loV, ci hiW, .int .u8 sepY, ci kZ, ci n00, .str s01, .isl .fld f02, .isl .two prs03, .isl .lens ks04], .agg [ci k05, .str m06, ci lo07, ci hi08, .str p09, .isl .part ps0A]]) [eV (.x 0) [.isl .dfn l5, .ptr (.x 1) 0 0], eV (.x 1) [.isl .int l0B]]) (_ : sat (m (Tp.mk k6 m7 lo8 hi9 pA psB) (Tp.mk kC mF loG hiH pI psJ) vK l5 lM) Q), O 425 [pX 0, .agg [ci k6, .str m7, ci lo8, ci hi9, .str pA, .isl .part psB], .agg [ci kC, .str mF, ci loG, ci hiH, .str pI, .isl .part psJ], iD vK] [eV (.x 0) [.isl .dfn l5, .ptr (.x 1) 0 0], eV (.x 1) [.isl .int lM]] R
def j425 : Fn TT := ⟨252, [.cell 8 14 true, .cell 9 6 true], (sr [qo 5 (.box 5 1),qo 6 (.box 6 2),qo 8 (.alloc 8 zLn),qo 9 (.alloc 9 zTp)] (.cut [0, 3, 5, 6, 8, 9, 10, 11] [(.x 0), (.s 5), (.s 6), (.s 8), (.s 9), (.s 11), (.x 1), (.sub (.s 33) 0)]
 (.drw [] (.go 0 (.go 1 (.go 2 (.go 3 (.alt 4 (.go 5 (.go 6 (.go 7 .nil))) 5 (.go 4 (.go 6 (.go 7 .nil)))))))) [7] [0, 1, 2, 3, 6] [qo 29 (.fa 6 5),qo 30 (ld 29),qo 31 (.len false 30),qo 32 (.load 6 6 true),qo 33 (.call 33 438 [32]),qo 11 (.alloc 11 zTp),qm 10 31,qp (.store 11 33 6)]) (.seq (sr [qm 34 10,qo 35 (.bin .gtr .num 34 (iC 21))] (.cond 35 (.seq
 (.reg [qo 36 (.load 5 6 true),qo 37 (.call 37 380 [36]),qo 38 (.ext 37 0),qo 39 (.ext 37 1),qp (.store 8 38 14),qp (.store 9 39 6)]) .ret) .skip)) (.cut [0, 3, 6, 8, 9, 10, 11] [(.x 0), (.s 6), (.s 8), (.s 9), (.s 11), (.x 1), (.sub (.s 33) 0)] (.cut [0, 3, 6, 8, 9, 10, 11, 49] [(.x 0), (.s 6), (.s 8), (.s 9), (.s 11), (.x 1), (.sub (.s 33) 0)] (.reg [qm 40 10,
 qo 41 (.bin .eql .num 40 (iC 0)),qm 42 41,qf 42 43 (.mv 0),qf 42 44 (.nilck 43),qf 42 45 (.fa 44 1),qf 42 46 (ld 45),qf 42 47 (.call 47 15 [46, (iC 8)]),qf 42 48 (.bin .eql .num 47 (iC 0)),qo 49 (.pick 42 bT 48)]) (.cond 49 (.cut [0, 6, 8, 9, 11, 12] [(.x 0), (.s 6), (.s 8), (.s 9), (.s 11), (.s 12), (.x 1), (.sub (.s 33) 0)]
 (.drw [(.x 1)] (.go 0 (.go 1 (.go 2 (.go 3 (.go 6 (.go 7 (.go 8 (.go 9 (.alt 4 (.alt 5 (.alt 10 (.go 11 (.go 12 .nil)) 11 (.go 10 (.go 12 .nil))) 11 (.go 5 (.go 10 (.go 12 .nil)))) 11 (.go 4 (.go 5 (.go 10 (.go 12 .nil))))))))))))) [12] [0, 1, 2, 3, 6, 7, 8, 9] [qm 50 0,qo 51 (.nilck 50),qo 52 (.fa 51 1),qo 53 (ld 52),qo 54 (.bsl .int [(iC 0), (iC 1), (iC 2), (iC 4), (iC 5)]),
 qo 55 (.call 55 60 [53, 54]),qm 56 0,qo 57 (.nilck 56),qo 58 (.fa 57 1),qo 59 (ld 58),qo 60 (.call 60 64 [55, 59]),qo 12 (.alloc 12 zV),qp (.store 12 60 4)]) (sr [qm 61 0,qo 62 (.load 6 6 true),qo 63 (.call 63 440 [61, 62]),qm 13 63] (.seq (.drw [(.sub (.s 33) 0)] (oR 10) [9] [0, 1, 2, 3, 5, 8] [qo 64 (.fa 11 5),qo 65 (ld 64),
 qm 66 13,qo 67 (.load 12 4 true),qo 68 (.call 68 441 [67]),qo 69 (.build zPt [((0, 1), 66), ((1, 6), 68)]),qo 70 (.bsl .part [69]),qo 71 (.app 71 .part 68719476736 65 70),qo 72 (.fa 11 5),qp (.store 72 71 1)]) (.seq (.drw [(.s 8)] (oR 6) [5] [0, 1, 2, 3] [qm 73 13,qo 74 (.load 12 4 true),qo 75 (.build zLn [((0, 1), (iC 5)), ((1, 1), 73), ((8, 4), 74)]),
 qo 76 (.load 11 6 true),qp (.store 8 75 14),qp (.store 9 76 6)]) (.pre [.frzc (.s 9) 5 .part] .ret))))) .skip)) (sr [qm 77 0,qo 78 (.nilck 77),qo 79 (.fa 78 1),qo 80 (ld 79),qm 81 10,qo 82 (.call 82 15 [80, 81]),qm 14 82] (sr [qo 83 (.fa 6 5),qo 84 (ld 83),qm 85 14,qo 86 (.idxA 84 85 7),qo 87 (.load 86 7 true),
 qo 15 (.alloc 15 zPt),qp (.store 15 87 7)] (.cut [0, 3, 6, 8, 9, 11, 14, 15] [(.x 0), (.s 6), (.s 8), (.s 9), (.s 11), (.s 15), (.x 1), (.sub (.s 33) 0)] (sr [qm 88 0,qo 89 (.nilck 88),qo 90 (.fa 89 1),qo 91 (ld 90),qo 92 (.call 92 15 [91, (iC 9)])] (.block 0 (sr [qo 94 (.bin .eql .num 92 (iC 0)),qm 93 94] (.cond 93 (sr [qm 95 0,
 qo 96 (.load 6 6 true),qo 97 (.call 97 440 [95, 96]),qm 16 97] (sr [qo 98 (.fa 11 5),qo 99 (ld 98),qm 100 14,qm 101 16,qo 102 (.idxA 99 100 7),qo 103 (.fa 102 0),qp (.store 103 101 1)] (.seq (.drw [(.s 8)] (oR 7) [6] (List.range 5) [qo 104 (.fa 15 0),qo 105 (ld 104),qm 106 16,
 qo 107 (.build zLn [((0, 1), (iC 3)), ((1, 1), 105), ((2, 1), 106)]),qo 108 (.load 11 6 true),qp (.store 8 107 14),qp (.store 9 108 6)]) (.pre [.frzc (.s 9) 5 .part] .ret)))) (sr [qo 110 (.bin .eql .num 92 (iC 1)),qm 109 110] (.cond 109 (.cut [8, 9, 11, 14, 15, 17] [(.s 8), (.s 9), (.s 11), (.s 15), (.s 17), (.x 0), (.x 1), (.sub (.s 33) 0)]
 (.drw [(.x 1)] (.go 0 (.go 1 (.go 2 (.go 3 (.go 4 (.go 5 (.go 6 (.go 7 (.go 8 (.go 9 (.alt 10 (.go 11 (.go 12 .nil)) 11 (.go 10 (.go 12 .nil))))))))))))) [12] [0, 1, 2, 3, 4, 5, 6, 7, 8, 9] [qm 111 0,qo 112 (.nilck 111),qo 113 (.fa 112 0),qo 114 (ld 113),qo 115 (.fa 15 1),qo 116 (.load 115 6 true),qm 117 0,qo 118 (.nilck 117),qo 119 (.fa 118 1),
 qo 120 (ld 119),qo 121 (.call 121 42 [114, 116, 120, (iC 0)]),qo 17 (.alloc 17 zV),qp (.store 17 121 4)]) (sr [qo 122 (.fa 11 5),qo 123 (ld 122),qm 124 14,qm 125 14,qo 126 (.bin .add .num 125 (iC 1)),qo 127 (.call 127 443 [123, 124, 126]),qo 128 (.fa 11 5),qp (.store 128 127 1)] (.seq (.drw [(.s 8)] (oR 7) [6] (List.range 5) [qo 129 (.fa 15 0),
 qo 130 (ld 129),qo 131 (.load 17 4 true),qo 132 (.build zLn [((0, 1), (iC 4)), ((1, 1), 130), ((8, 4), 131)]),qo 133 (.load 11 6 true),qp (.store 8 132 14),qp (.store 9 133 6)]) (.pre [.frzc (.s 9) 5 .part] .ret)))) (sr [qo 135 (.bin .eql .num 92 (iC 2)),qm 134 135] (.cond 134 (sr [qm 136 0,qo 137 (.load 6 6 true),qo 138 (.call 138 444 [136, 137]),
 qo 139 (.ext 138 0),qo 140 (.ext 138 1),qp (.store 8 139 14),qp (.store 9 140 6)] .ret) (sr [qo 142 (.bin .eql .num 92 (iC 3)),qm 141 142] (.cond 141 (sr [qm 144 0,qo 145 (.load 6 6 true),qm 146 14,qo 147 (.call 147 445 [144, 145, 146]),qm 143 147,qo 148 (.ext 143 0),qo 149 (.ext 143 1),qo 150 (.ext 143 2),qo 18 (.alloc 18 zLn),
 qo 19 (.alloc 19 zTp),qp (.store 18 148 14),qp (.store 19 149 6),qm 20 150] (sr [qm 151 20] (.cond 151 (.seq (.drw [(.s 8)] (ol [0, 1, 2, 3]) [3] [0, 1] [qo 152 (.load 18 14 true),qo 153 (.load 19 6 true),qp (.store 8 152 14),qp (.store 9 153 6)]) .ret) .skip))) (sr [qo 155 (.bin .eql .num 92 (iC 4)),qm 154 155] (.cond 154 (sr [qm 156 0,
 qo 157 (.nilck 156),qo 158 (.fa 157 1),qo 159 (ld 158),qm 160 10,qo 161 (.call 161 15 [159, 160]),qm 21 161] (.cut [8, 9, 11, 15, 21] [(.s 8), (.s 9), (.s 11), (.s 15), (.x 0), (.x 1), (.sub (.s 171) 0)]
 (.drw [(.sub (.s 33) 0), (.sub (.s 167) 0)] (.go 0 (.go 1 (.go 2 (.go 3 (.go 4 (.go 6 (.go 7 (.alt 5 (.go 8 (.go 9 (.go 10 (.go 11 .nil)))) 8 (.go 5 (.go 9 (.go 10 (.go 11 .nil)))))))))))) [11] [0, 1, 2, 3, 4, 6, 7, 10] [qo 162 (.fa 11 5),qo 163 (ld 162),qm 164 14,qm 165 14,qo 166 (.bin .add .num 165 (iC 1)),qo 167 (.call 167 443 [163, 164, 166]),qm 168 21,
 qo 169 (.load 15 7 true),qo 170 (.bsl .part [169]),qo 171 (.call 171 446 [167, 168, 170]),qo 172 (.fa 11 5),qp (.store 172 171 1)]) (.seq (.drw [(.s 8)] (oR 7) [6] (List.range 5) [qo 173 (.fa 15 0),qo 174 (ld 173),qm 175 21,qo 176 (.build zLn [((0, 1), (iC 8)), ((1, 1), 174), ((4, 1), 175)]),qo 177 (.load 11 6 true),qp (.store 8 176 14),qp (.store 9 177 6)])
 (.pre [.frzc (.s 9) 5 .part] .ret)))) (sr [qo 179 (.bin .eql .num 92 (iC 5)),qm 178 179] (.cond 178 (sr [qm 181 0,qo 182 (.load 6 6 true),qm 183 14,qo 184 (.call 184 447 [181, 182, 183]),qm 180 184,qo 185 (.ext 180 0),qo 186 (.ext 180 1),qo 187 (.ext 180 2),qo 22 (.alloc 22 zLn),qo 23 (.alloc 23 zTp),qp (.store 22 185 14),qp (.store 23 186 6),
 qm 24 187] (sr [qm 188 24] (.cond 188 (.seq (.drw [(.s 8)] (ol [0, 1, 2, 3]) [3] [0, 1] [qo 189 (.load 22 14 true),qo 190 (.load 23 6 true),qp (.store 8 189 14),qp (.store 9 190 6)]) .ret) .skip))) .skip)))))))))))))) (.cut [0, 3, 8, 9, 11, 14, 15] [(.x 0), (.s 8), (.s 9), (.s 11), (.s 15), (.x 1), (.sub (.s 33) 0)]
 (.cut [0, 3, 6, 8, 9, 11, 14, 15, 25] [(.x 0), (.s 6), (.s 8), (.s 9), (.s 11), (.s 15), (.s 25), (.x 1), (.sub (.s 33) 0)] (.drw [] (.go 0 (.go 1 (.go 2 (.go 3 (.go 4 (.go 5 (.alt 6 (.go 7 (.go 8 .nil)) 7 (.go 6 (.go 8 .nil))))))))) [8] [0, 1, 2, 3, 4, 5] [qm 191 0,qo 192 (.nilck 191),qo 193 (.fa 192 0),qo 194 (ld 193),qo 195 (.fa 15 1),qo 196 (.load 195 6 true),
 qo 197 (.call 197 63 [194, 196]),qo 25 (.alloc 25 zTp),qp (.store 25 197 6)]) (.cut [0, 3, 6, 8, 9, 11, 14, 15, 205] [(.x 0), (.s 6), (.s 8), (.s 9), (.s 11), (.s 15), (.x 1), (.sub (.s 33) 0)] (.reg [qo 198 (.fa 25 0),qo 199 (ld 198),qo 200 (.bin .eql .num 199 (iC 5)),qm 201 200,qg 201 202 (.fa 25 4),qg 201 203 (ld 202),
 qg 201 204 (.bin .eql .str 203 (.c (.str (⟨#[40, 91, 97, 45, 99, 93, 42, 41, 45, 40, 91, 48, 45, 57, 93, 42, 41]⟩ : BA)))),qo 205 (.pick 201 204 bF)]) (.cond 205 (sr [qm 206 0,qo 207 (.load 6 6 true),qo 208 (.call 208 440 [206, 207]),qm 26 208] (sr [qo 209 (.fa 11 5),qo 210 (ld 209),qm 211 14,
 qo 212 (.build zTp [((0, 1), (iC 5)), ((4, 1), (.c (.str (⟨#[91, 97, 45, 99, 93, 42]⟩ : BA))))]),qo 213 (.idxA 210 211 7),qo 214 (.fa 213 1),qp (.store 214 212 6)] (sr [qo 215 (.fa 11 5),qo 216 (ld 215),qm 217 14,qo 218 (.bin .add .num 217 (iC 1)),qm 219 26,
 qo 220 (.build zTp [((0, 1), (iC 5)), ((4, 1), (.c (.str (⟨#[91, 48, 45, 57, 93, 42]⟩ : BA))))]),qo 221 (.build zPt [((0, 1), 219), ((1, 6), 220)]),qo 222 (.bsl .part [221]),qo 223 (.call 223 446 [216, 218, 222]),qo 224 (.fa 11 5),qp (.store 224 223 1)] (.seq (.drw [(.s 8)] (ol [0, 1, 2, 5, 3, 4, 6, 7]) [7] [0, 1, 2, 4, 5] [qo 225 (.fa 15 0),qo 226 (ld 225),
 qm 227 26,qo 228 (.bsl .str [(.c (.str (⟨#[91, 97, 45, 99, 93, 42]⟩ : BA))), (.c (.str (⟨#[91, 48, 45, 57, 93, 42]⟩ : BA)))]),qo 229 (.build zLn [((0, 1), (iC 9)), ((1, 1), 226), ((2, 1), 227), ((7, 1), (.c (.int .u8 45))), ((3, 1), 228)]),qo 230 (.load 11 6 true),qp (.store 8 229 14),qp (.store 9 230 6)]) (.pre [.frzc (.s 9) 5 .part] .ret))))) .skip))) (.seq
 (.reg [qm 232 0,qo 233 (.fa 15 1),qo 234 (.load 233 6 true),qm 235 3,qo 236 (.bin .sub .num 235 (iC 1)),qo 237 (.call 237 377 [232, 234, 236]),qm 231 237,qo 238 (.ext 231 0),qo 239 (.ext 231 1),qo 27 (.alloc 27 zLn),qo 28 (.alloc 28 zTp),qp (.store 27 238 14),qp (.store 28 239 6)]) (sr [qo 240 (.fa 11 5),qo 241 (ld 240),qm 242 14,
 qo 243 (.load 28 6 true),qo 244 (.idxA 241 242 7),qo 245 (.fa 244 1),qp (.store 245 243 6)] (.seq (.drw [(.s 8)] (ol [0, 1, 2, 5, 3, 4, 6, 7]) [7] [0, 1, 2, 4, 5] [qo 246 (.fa 15 0),qo 247 (ld 246),qo 248 (.load 27 14 true),qo 249 (.bsl .lens [248]),qo 250 (.build zLn [((0, 1), (iC 2)), ((1, 1), 247), ((13, 1), 249)]),qo 251 (.load 11 6 true),qp (.store 8 250 14),
 qp (.store 9 251 6)]) (.pre [.frzc (.s 9) 5 .part] .ret))))))))))))⟩
theorem w377 {O : Oracle TT} (self406 : Tp → Int → PT → LI → Option (Ln × Tp × LI)) (h15 : C15 O f15) (h406 : C406 O self406) : C377 (fun _ => vcF (S := SS) O j377) (b377 self406) := by
 intro k0N m0O lo0P hi0Q p0R ps0S v0K l0B l0V Q R hQ h
 unfold b377 at h
 refine ⟨nle rfl, rfl, ?_⟩
 refine kL [(.x 1)] (h15 _ _ _ _ ?_ (sb h))
 rintro v0C l0T h
 refine kc h ?_ ?_ <;> intro h
 refine kc h ?_ ?_ <;> intro h
 obtain ⟨R9, h, a9, hrR9⟩ := sc h
 refine kX (fun σ => ∃ (v0D : Int) (s0E : BA) (v0F : Int) (v0G : Int) (s0H : BA) (l0I : PT) (l0J : LI) (lB : List Ln) (n0L : Nat), n0L = lB.length ∧ R9 (.inr (v0D, s0E, v0F, v0G, s0H, l0I, l0J, lB)) ∧ σ = ⟨[pT 4, pT 6, pT 7, pT 9], [eV (.s 4) [ci v0D, .str s0E, ci v0F, ci v0G, .str s0H, .isl .part l0I], eV (.s 6) zLn, eV (.s 7) zTp, eV (.s 9) [ci 1, .str eB, .str eB, .nils, ci 0, ci 0, ci 0, .int .u8 0, ci 0, ci 0, .str eB, .nils, .nils, .osl (.sub (.sub (.s 9) 600) 13) 0 n0L], eV (.x 0) [.isl .dfn l0B, .ptr (.x 1) 0 0], eV (.x 1) [.isl .int l0J], (.sub (.sub (.s 9) 600) 13, (eR .lens lB))]⟩) ?_ ?_
 obtain ⟨hN0U, h⟩ := sat_grdP h
 refine kX (fun σ n => ∃ (f7 : Nat) (v6 : Int) (z : Int) (l8 : List Ln) (vC : Int) (sF : BA) (vG : Int) (vH : Int) (sI : BA) (lJ : PT) (lK : LI) (n0M : Nat), f7 = n ∧ f7 = (v0C - v6).toNat ∧ 0 ≤ v6 ∧ v6 = z ∧ n0M = l8.length ∧ sat (f377_L2 self406 v0K l0B f7 v6 l8 vC sF vG vH sI lJ lK) R9 ∧ σ.keep [0, 2, 4, 6, 7, 9, 30, 31] [(.x 0), (.s 4), (.s 6), (.s 7), (.s 9), (.x 1), (.sub (.sub (.s 9) 600) 13)] = ⟨[(0, pX 0), (2, iD v0K), pT 4, pT 6, pT 7, pT 9, (30, iD v0C), (31, iD z)], [eV (.x 0) [.isl .dfn l0B, .ptr (.x 1) 0 0], eV (.s 4) [ci vC, .str sF, ci vG, ci vH, .str sI, .isl .part lJ], eV (.s 6) zLn, eV (.s 7) zTp, eV (.s 9) [ci 1, .str eB, .str eB, .nils, ci 0, ci 0, ci 0, .int .u8 0, ci 0, ci 0, .str eB, .nils, .nils, .osl (.sub (.sub (.s 9) 600) 13) 0 n0M], eV (.x 1) [.isl .int lK], (.sub (.sub (.s 9) 600) 13, (eR .lens l8))]⟩) ⟨_, _, 0, _, [], k0N, m0O, lo0P, hi0Q, p0R, ps0S, l0T, _, rfl, rfl, (by decide), rfl, LN, h, rfl⟩ ?_
 rintro σ n ⟨f7, v6, _, l8, vC, sF, vG, vH, sI, lJ, lK, _, rfl, hf7, hpf7, rfl, rfl, h, hσ⟩
 refine kk hσ ?_
 intro tA (htA : tA = decide (v6 < v0C))
 cases tA
 obtain rfl := il_nil hf7 htA
 rw [f377_L2] at h
 conv => whnf
 exact ⟨vC, sF, vG, vH, sI, lJ, lK, l8, _, LN, ss h, rfl⟩
 obtain ⟨g5, rfl, hwg5, hpg5, hfg5⟩ := il_cons hf7 hpf7 htA hN0U
 rw [f377_L2] at h
 refine kL [(.x 0), (.x 1)] (h406 _ _ _ _ _ _ _ _ _ _ _ ?_ (sb h))
 rintro opM nmN toO nsP nQ loU hiV sepW kY nZ s00 f01 prs02 ks03 k04 m05 lo06 hi07 p08 ps09 l0A h
 conv => whnf
 refine ⟨?_, ?_⟩
 conv => whnf
 refine ⟨?_, ?_⟩
 conv => whnf
 refine ⟨LN, rfl, ?_⟩
 conv => whnf
 refine ⟨rfl, ?_⟩
 refine kp h fun hb0W h => ?_
 conv => whnf
 refine ⟨?_, ?_⟩
 conv => whnf
 exact ⟨g5, nls, g5, v6 + 1, _, (l8 ++ ([(Ln.mk opM nmN toO nsP nQ loU hiV sepW (V.mk kY nZ s00 f01) prs02 ks03)] : List Ln)), k04, m05, lo06, hi07, p08, ps09, l0A, _, rfl, hfg5, hpg5, hwg5.symm, LN, h, rfl⟩
 conv => whnf
 exact ⟨g5, nls, g5, v6 + 1, _, (l8 ++ ([(Ln.mk opM nmN toO nsP nQ loU hiV sepW (V.mk kY nZ s00 f01) prs02 ks03)] : List Ln)), k04, m05, lo06, hi07, p08, ps09, l0A, _, rfl, hfg5, hpg5, hwg5.symm, LN, h, rfl⟩
 conv => whnf
 refine ⟨LN, rfl, ?_⟩
 conv => whnf
 refine ⟨rfl, ?_⟩
 refine kp h fun hb0X h => ?_
 conv => whnf
 exact ⟨g5, nls, g5, v6 + 1, _, (l8 ++ ([(Ln.mk opM nmN toO nsP nQ loU hiV sepW (V.mk kY nZ s00 f01) prs02 ks03)] : List Ln)), k04, m05, lo06, hi07, p08, ps09, l0A, _, rfl, hfg5, hpg5, hwg5.symm, LN, h, rfl⟩
 conv => whnf
 refine ⟨LN, rfl, ?_⟩
 conv => whnf
 refine ⟨rfl, ?_⟩
 refine kp h fun hb0Y h => ?_
 conv => whnf
 exact ⟨g5, nls, g5, v6 + 1, _, (l8 ++ ([(Ln.mk opM nmN toO nsP nQ loU hiV sepW (V.mk kY nZ s00 f01) prs02 ks03)] : List Ln)), k04, m05, lo06, hi07, p08, ps09, l0A, _, rfl, hfg5, hpg5, hwg5.symm, LN, h, rfl⟩
 rintro _ ⟨v0D, s0E, v0F, v0G, s0H, l0I, l0J, lB, _, rfl, h, rfl⟩
 replace h := hrR9 _ h
 conv => whnf
 refine ⟨LN, ?_⟩
 exact kR [] (ND 2) (hQ _ _ _ _ _ _ _ _ _ _ _ _ _ _ _ _ _ _ _ _ _ (ss h))
 refine kL [(.x 0), (.x 1)] (h406 _ _ _ _ _ _ _ _ _ _ _ ?_ (sb h))
 rintro op0Z nm10 to11 ns12 n13 lo14 hi15 sep17 k18 n19 s1A f1B prs1C ks1D k1E m1F lo1G hi1H p1I ps1J l1K h
 exact kR [] (ND 2) (hQ _ _ _ _ _ _ _ _ _ _ _ _ _ _ _ _ _ _ _ _ _ (ss h))
 refine kL [(.x 0), (.x 1)] (h406 _ _ _ _ _ _ _ _ _ _ _ ?_ (sb h))
 rintro op1L nm1M to1N ns1O n1P lo1Q hi1R sep1S k1T n1U s1V f1W prs1X ks1Y k1Z m20 lo21 hi22 p23 ps24 l25 h
 exact kR [] (ND 2) (hQ _ _ _ _ _ _ _ _ _ _ _ _ _ _ _ _ _ _ _ _ _ (ss h))
theorem w406 {O : Oracle TT} (self427 : Tp → Tp → Int → PT → LI → Option (Ln × Tp × LI)) (self426 : Tp → Tp → Int → PT → LI → Option (Ln × Tp × LI)) (self425 : Tp → Tp → Int → PT → LI → Option (Ln × Tp × LI)) (h15 : C15 O f15) (h63 : C63 O f63) (h380 : C380 O f380) (h429 : C429 O f429) (h428 : C428 O f428) (h427 : C427 O self427) (h426 : C426 O self426) (h425 : C425 O self425) : C406 (fun _ => vcF (S := SS) O j406) (b406 self427 self426 self425) := by
 intro kB mC loF hiG pH psI vV lJ lW Q R hQ h
 unfold b406 at h
 refine ⟨nle rfl, rfl, ?_⟩
 obtain ⟨RK, h, aK, hrRK⟩ := sc h
 refine kX (fun σ => ∃ v5 s6 v7 v8 s9 lA, RK (.inr (v5, s6, v7, v8, s9, lA)) ∧ σ = ⟨[(0, pX 0), (2, iD vV), pT 4, pT 6, pT 7, pT 8], [eV (.x 0) [.isl .dfn lJ, .ptr (.x 1) 0 0], eV (.s 4) [ci kB, .str mC, ci loF, ci hiG, .str pH, .isl .part psI], eV (.s 6) zLn, eV (.s 7) zTp, eV (.s 8) [ci v5, .str s6, ci v7, ci v8, .str s9, .isl .part lA], eV (.x 1) [.isl .int lW]]⟩) ?_ ?_
 conv => whnf
 refine ⟨?_, ?_⟩
 refine kL [] (h63 _ _ _ _ _ _ _ _ _ ?_ (sb h))
 rintro kY mZ lo00 hi01 p02 ps03 h
 conv => whnf
 exact ⟨kY, mZ, lo00, hi01, p02, ps03, ss h, rfl⟩
 refine kL [] (h63 _ _ _ _ _ _ _ _ _ ?_ (sb h))
 rintro k04 m05 lo06 hi07 p08 ps09 h
 conv => whnf
 exact ⟨k04, m05, lo06, hi07, p08, ps09, ss h, rfl⟩
 rintro _ ⟨v5, s6, v7, v8, s9, lA, h, rfl⟩
 replace h := hrRK _ h
 refine kL [(.x 1)] (h15 _ _ _ _ ?_ (sb h))
 rintro v0A lU h
 refine kc h ?_ ?_ <;> intro h
 refine kc h ?_ ?_ <;> intro h
 refine kc h ?_ ?_ <;> intro h
 refine kc h ?_ ?_ <;> intro h
 obtain ⟨RM, h, aM, hrRM⟩ := sc h
 refine kX (fun σ => ∃ qN, RM (.inr qN) ∧ σ = ⟨[(0, pX 0), (2, iD vV), pT 4, pT 6, pT 7, pT 8, (33, iD v5), (52, bD qN)], [eV (.x 0) [.isl .dfn lJ, .ptr (.x 1) 0 0], eV (.s 4) [ci kB, .str mC, ci loF, ci hiG, .str pH, .isl .part psI], eV (.s 6) zLn, eV (.s 7) zTp, eV (.s 8) [ci v5, .str s6, ci v7, ci v8, .str s9, .isl .part lA], eV (.x 1) [.isl .int lU]]⟩) ?_ ?_
 refine kc h ?_ ?_ <;> intro h
 refine kc h ?_ ?_ <;> intro h
 conv => whnf
 exact ⟨false, ss h, rfl⟩
 conv => whnf
 exact ⟨true, ss h, rfl⟩
 conv => whnf
 exact ⟨true, ss h, rfl⟩
 rintro _ ⟨qN, h, rfl⟩
 replace h := hrRM _ h
 cases qN
 replace h := cf h
 obtain ⟨RO, h, aO, hrRO⟩ := sc h
 refine kX (fun σ => ∃ qP, RO (.inr qP) ∧ σ = ⟨[(0, pX 0), pT 4, pT 6, pT 7, pT 8, (33, iD v5), (62, bD qP)], [eV (.x 0) [.isl .dfn lJ, .ptr (.x 1) 0 0], eV (.s 4) [ci kB, .str mC, ci loF, ci hiG, .str pH, .isl .part psI], eV (.s 6) zLn, eV (.s 7) zTp, eV (.s 8) [ci v5, .str s6, ci v7, ci v8, .str s9, .isl .part lA], eV (.x 1) [.isl .int lU]]⟩) ?_ ?_
 refine kc h ?_ ?_ <;> intro h
 refine kc h ?_ ?_ <;> intro h
 refine kc h ?_ ?_ <;> intro h
 conv => whnf
 exact ⟨false, ss h, rfl⟩
 conv => whnf
 exact ⟨true, ss h, rfl⟩
 conv => whnf
 exact ⟨true, ss h, rfl⟩
 conv => whnf
 exact ⟨true, ss h, rfl⟩
 rintro _ ⟨qP, h, rfl⟩
 replace h := hrRO _ h
 cases qP
 replace h := cf h
 refine kc h ?_ ?_ <;> intro h
 refine kL [] (h380 _ _ _ _ _ _ _ _ ?_ (sb h))
 rintro op0B nm0C to0D ns0E n0F lo0G hi0H sep0I k0J n0K s0L f0M prs0N ks0O k0P m0Q lo0R hi0S p0T ps0U h
 exact kR [] (ND 2) (hQ _ _ _ _ _ _ _ _ _ _ _ _ _ _ _ _ _ _ _ _ _ (ss h))
 refine kL [(.x 0), (.x 1)] (h429 _ _ _ _ _ _ _ _ _ _ _ _ _ _ _ _ ?_ (sb h))
 rintro op0V nm0W to0X ns0Y n0Z lo10 hi11 sep12 k13 n14 s15 f17 prs18 ks19 k1A m1B lo1C hi1D p1E ps1F h
 exact kR [] (ND 2) (hQ _ _ _ _ _ _ _ _ _ _ _ _ _ _ _ _ _ _ _ _ _ (ss h))
 replace h := ct h
 refine kL [(.x 0), (.x 1)] (h428 _ _ _ _ _ _ _ _ _ _ _ _ _ _ _ _ ?_ (sb h))
 rintro op1G nm1H to1I ns1J n1K lo1L hi1M sep1N k1O n1P s1Q f1R prs1S ks1T k1U m1V lo1W hi1X p1Y ps1Z l20 h
 exact kR [] (ND 2) (hQ _ _ _ _ _ _ _ _ _ _ _ _ _ _ _ _ _ _ _ _ _ (ss h))
 replace h := ct h
 refine kL [(.x 0), (.x 1)] (h427 _ _ _ _ _ _ _ _ _ _ _ _ _ _ _ _ _ ?_ (sb h))
 rintro op21 nm22 to23 ns24 n25 lo26 hi27 sep28 k29 n2A s2B f2C prs2D ks2E k2F m2G lo2H hi2I p2J ps2K l2L h
 exact kR [] (ND 2) (hQ _ _ _ _ _ _ _ _ _ _ _ _ _ _ _ _ _ _ _ _ _ (ss h))
 refine kL [(.x 0), (.x 1)] (h426 _ _ _ _ _ _ _ _ _ _ _ _ _ _ _ _ _ ?_ (sb h))
 rintro op2M nm2N to2O ns2P n2Q lo2R hi2S sep2T k2U n2V s2W f2X prs2Y ks2Z k30 m31 lo32 hi33 p34 ps35 l36 h
 exact kR [] (ND 2) (hQ _ _ _ _ _ _ _ _ _ _ _ _ _ _ _ _ _ _ _ _ _ (ss h))
 refine kL [(.x 0), (.x 1)] (h425 _ _ _ _ _ _ _ _ _ _ _ _ _ _ _ _ _ ?_ (sb h))
 rintro op37 nm38 to39 ns3A n3B lo3C hi3D sep3E k3F n3G s3H f3I prs3J ks3K k3L m3M lo3N hi3O p3P ps3Q l3R h
 exact kR [] (ND 2) (hQ _ _ _ _ _ _ _ _ _ _ _ _ _ _ _ _ _ _ _ _ _ (ss h))
 refine kL [] (h380 _ _ _ _ _ _ _ _ ?_ (sb h))
 rintro op3S nm3T to3U ns3V n3W lo3X hi3Y sep3Z k40 n41 s42 f43 prs44 ks45 k46 m47 lo48 hi49 p4A ps4B h
 exact kR [] (ND 2) (hQ _ _ _ _ _ _ _ _ _ _ _ _ _ _ _ _ _ _ _ _ _ (ss h))
 obtain ⟨RQ, h, aQ, hrRQ⟩ := sc h
 refine kX (fun σ => RQ (.inr ()) ∧ σ = ⟨[pT 6, pT 7], [eV (.s 6) [ci 16, .str (⟨#[122]⟩ : BA), .str eB, .isl .str [], ci 0, ci 0, ci 0, .int .u8 0, ci 0, ci 0, .str eB, .isl .fld [], .isl .two [], .isl .lens []], eV (.s 7) [ci 7, .str eB, ci 0, ci 0, .str eB, .isl .part ([((⟨#[122]⟩ : BA), (Tp.mk kB mC loF hiG pH psI))] : PT)], eV (.x 0) [.isl .dfn lJ, .ptr (.x 1) 0 0], eV (.x 1) [.isl .int lU]]⟩) ?_ ?_
 conv => whnf
 refine ⟨?_, ?_⟩
 conv => whnf
 exact ⟨ss h, rfl⟩
 conv => whnf
 exact ⟨ss h, rfl⟩
 rintro _ ⟨h, rfl⟩
 replace h := hrRQ _ h
 exact kR [] (ND 2) (hQ _ _ _ _ _ _ _ _ _ _ _ _ _ _ _ _ _ _ _ _ _ (ss h))
theorem w427 {O : Oracle TT} (fuel : Nat) (self377 : Tp → Int → PT → LI → Option (Ln × Tp × LI)) (h15 : C15 O f15) (h63 : C63 O f63) (h377 : C377 O self377) (h438 : C438 O f438) (h448 : C448 O (f448 fuel)) : C427 (fun _ => vcF (S := SS) O j427) (b427 fuel self377) := by
 intro k22 m23 lo24 hi25 p26 ps27 k03 m04 lo05 hi06 p07 ps08 v14 lC l09 Q R hQ h
 unfold b427 at h
 refine ⟨nle rfl, rfl, ?_⟩
 refine kL [] (h438 _ _ _ _ _ _ _ _ ?_ (sb h))
 rintro kG mH loI hiJ pK ps5 _ rfl h
 obtain ⟨RP, h, aP, hrRP⟩ := sc h
 refine kX (fun σ => ∃ v0A s0B v0C v0D s0E l0F, RP (.inr (v0A, s0B, v0C, v0D, s0E, l0F)) ∧ σ = ⟨[(0, pX 0), (3, iD v14), pT 6, pT 8, pT 9, pT 10, pT 11], [eV (.x 0) [.isl .dfn lC, .ptr (.x 1) 0 0], eV (.s 6) [ci k03, .str m04, ci lo05, ci hi06, .str p07, .isl .part ps08], eV (.s 8) zLn, eV (.s 9) zTp, eV (.s 10) [ci kG, .str mH, ci loI, ci hiJ, .str pK, .osl (.sub (.s 23) 0) 0 ps5.length], eV (.s 11) [ci v0A, .str s0B, ci v0C, ci v0D, .str s0E, .isl .part l0F], eV (.x 1) [.isl .int l09], (.sub (.s 23) 0, (eR .part ps5))]⟩) ?_ ?_
 refine kg (sat_getL h) fun uu15 huu15 h => ?_
 obtain ⟨a28, ⟨k29, m2A, lo2B, hi2C, p2D, ps2E⟩⟩ := uu15
 conv => whnf
 refine ⟨?_, ?_⟩
 refine kL [] (h63 _ _ _ _ _ _ _ _ _ ?_ (sb h))
 rintro k1A m1B lo1C hi1D p1E ps1F h
 conv => whnf
 exact ⟨k1A, m1B, lo1C, hi1D, p1E, ps1F, ss h, rfl⟩
 refine kL [] (h63 _ _ _ _ _ _ _ _ _ ?_ (sb h))
 rintro k1G m1H lo1I hi1J p1K ps1L h
 conv => whnf
 exact ⟨k1G, m1H, lo1I, hi1J, p1K, ps1L, ss h, rfl⟩
 rintro _ ⟨v0A, s0B, v0C, v0D, s0E, l0F, h, rfl⟩
 replace h := hrRP _ h
 obtain ⟨RM, h, aM, hrRM⟩ := sc h
 refine kX (fun σ => ∃ l0G, RM (.inr l0G) ∧ σ = ⟨[(0, pX 0), (3, iD v14), pT 6, pT 8, pT 9, pT 10], [eV (.x 0) [.isl .dfn lC, .ptr (.x 1) 0 0], eV (.s 6) [ci k03, .str m04, ci lo05, ci hi06, .str p07, .isl .part ps08], eV (.s 8) zLn, eV (.s 9) zTp, eV (.s 10) [ci kG, .str mH, ci loI, ci hiJ, .str pK, .osl (.sub (.s 23) 0) 0 ps5.length], eV (.x 1) [.isl .int l0G], (.sub (.s 23) 0, (eR .part ps5))]⟩) ?_ ?_
 refine kc h ?_ ?_ <;> intro h
 conv => whnf
 exact ⟨l09, ss h, rfl⟩
 refine kc h ?_ ?_ <;> intro h
 conv => whnf
 exact ⟨l09, ss h, rfl⟩
 refine kL [(.x 1)] (h15 _ _ _ _ ?_ (sb h))
 rintro v2F l1M h
 refine kc h ?_ ?_ <;> intro h
 conv => whnf
 exact ⟨l1M, ss h, rfl⟩
 refine kL [(.x 0), (.x 1)] (h448 _ _ _ _ _ _ _ _ _ _ _ _ _ _ _ _ ?_ (sb h))
 rintro op2G nm2H to2I ns2J n2K lo2L hi2M sep2N k2O n2P s2Q f2R prs2S ks2T k2U m2V lo2W hi2X p2Y ps2Z q1N l1O h
 cases q1N
 replace h := cf h
 conv => whnf
 exact ⟨l1O, ss h, rfl⟩
 replace h := ct h
 replace h := sat_lft aM h
 exact kR [] (ND 2) (hQ _ _ _ _ _ _ _ _ _ _ _ _ _ _ _ _ _ _ _ _ _ (ss h))
 rintro _ ⟨l0G, h, rfl⟩
 replace h := hrRM _ h
 refine kg (sat_getL h) fun uu17 huu17 h => ?_
 obtain ⟨a30, ⟨k31, m32, lo33, hi34, p35, ps36⟩⟩ := uu17
 refine kL [(.x 0), (.x 1)] (h377 _ _ _ _ _ _ _ _ _ _ _ ?_ (sb h))
 rintro op0H nm0I to0J ns0K n0L lo0M hi0N sep0O k0P n0Q s0R f0S prs0T ks0U kQ mU loV hiW pY psZ l0V h
 refine kp h fun hb37 h => ?_
 refine kg (sat_getN h) fun uu18 huu18 h => ?_
 obtain ⟨a00, ⟨k38, m39, lo3A, hi3B, p3C, ps3D⟩⟩ := uu18
 refine ⟨(a00, (Tp.mk kQ mU loV hiW pY psZ)), rfl, ?_⟩
 obtain ⟨RN, h, aN, hrRN⟩ := sc h
 refine kX (fun σ => ∃ s0W l0X, RN (.inr (s0W, l0X)) ∧ σ = ⟨[pT 8, pT 9, pT 10, pT 17], [eV (.s 8) zLn, eV (.s 9) zTp, eV (.s 10) [ci kG, .str mH, ci loI, ci hiJ, .str pK, .osl (.sub (.s 23) 0) 0 ps5.length], eV (.s 17) [ci 13, .str s0W, .str eB, .isl .str [], ci 0, ci 0, ci 0, .int .u8 0, ci 0, ci 0, .str eB, .isl .fld [], .isl .two [], .isl .lens ([(Ln.mk op0H nm0I to0J ns0K n0L lo0M hi0N sep0O (V.mk k0P n0Q s0R f0S) prs0T ks0U)] : List Ln)], eV (.x 0) [.isl .dfn lC, .ptr (.x 1) 0 0], eV (.x 1) [.isl .int l0X], (.sub (.s 23) 0, (eR .part (ps5.set (0 + (0 : Int).toNat) (a00, (Tp.mk kQ mU loV hiW pY psZ)))))]⟩) ?_ ?_
 obtain ⟨R01, h, a01, hrR01⟩ := sc h
 refine kX (fun σ => ∃ v0Y s0Z v10 v11 s12 l8, R01 (.inr (v0Y, s0Z, v10, v11, s12, l8)) ∧ σ = ⟨[(0, pX 0), pT 6, pT 8, pT 9, pT 10, pT 17, pT 18], [eV (.x 0) [.isl .dfn lC, .ptr (.x 1) 0 0], eV (.s 6) [ci k03, .str m04, ci lo05, ci hi06, .str p07, .isl .part ps08], eV (.s 8) zLn, eV (.s 9) zTp, eV (.s 10) [ci kG, .str mH, ci loI, ci hiJ, .str pK, .osl (.sub (.s 23) 0) 0 ps5.length], eV (.s 17) [ci 13, .str eB, .str eB, .isl .str [], ci 0, ci 0, ci 0, .int .u8 0, ci 0, ci 0, .str eB, .isl .fld [], .isl .two [], .isl .lens ([(Ln.mk op0H nm0I to0J ns0K n0L lo0M hi0N sep0O (V.mk k0P n0Q s0R f0S) prs0T ks0U)] : List Ln)], eV (.s 18) [ci v0Y, .str s0Z, ci v10, ci v11, .str s12, .isl .part l8], eV (.x 1) [.isl .int l0V], (.sub (.s 23) 0, (eR .part (ps5.set (0 + (0 : Int).toNat) (a00, (Tp.mk kQ mU loV hiW pY psZ)))))]⟩) ?_ ?_
 conv => whnf
 refine ⟨?_, ?_⟩
 refine kL [] (h63 _ _ _ _ _ _ _ _ _ ?_ (sb h))
 rintro k1P m1Q lo1R hi1S p1T ps1U h
 conv => whnf
 exact ⟨k1P, m1Q, lo1R, hi1S, p1T, ps1U, ss h, rfl⟩
 refine kL [] (h63 _ _ _ _ _ _ _ _ _ ?_ (sb h))
 rintro k1V m1W lo1X hi1Y p1Z ps20 h
 conv => whnf
 exact ⟨k1V, m1W, lo1X, hi1Y, p1Z, ps20, ss h, rfl⟩
 rintro _ ⟨v0Y, s0Z, v10, v11, s12, l8, h, rfl⟩
 replace h := hrR01 _ h
 refine kc h ?_ ?_ <;> intro h
 conv => whnf
 exact ⟨eB, l0V, ss h, rfl⟩
 refine kc h ?_ ?_ <;> intro h
 conv => whnf
 exact ⟨eB, l0V, ss h, rfl⟩
 refine kL [(.x 1)] (h15 _ _ _ _ ?_ (sb h))
 rintro v3E l02 h
 refine kc h ?_ ?_ <;> intro h
 conv => whnf
 exact ⟨eB, l02, ss h, rfl⟩
 intro hl13
 refine kX (fun σ n => ∃ (remA : PT) (j9 : Nat) (z : Int) (sF : BA), n = remA.length ∧ l8.drop j9 = remA ∧ z = ((j9 : Nat) : Int) ∧ sat (f427_L2 lC l02 remA j9 sF) RN ∧ σ.keep [0, 8, 9, 10, 17, 104, 105, 106] [(.x 0), (.s 8), (.s 9), (.s 10), (.s 17), (.x 1), (.sub (.s 23) 0)] = ⟨[(0, pX 0), pT 8, pT 9, pT 10, pT 17, (104, .c (.isl .part l8)), (105, iD ((l8.length : Nat) : Int)), (106, iD z)], [eV (.x 0) [.isl .dfn lC, .ptr (.x 1) 0 0], eV (.s 8) zLn, eV (.s 9) zTp, eV (.s 10) [ci kG, .str mH, ci loI, ci hiJ, .str pK, .osl (.sub (.s 23) 0) 0 ps5.length], eV (.s 17) [ci 13, .str sF, .str eB, .isl .str [], ci 0, ci 0, ci 0, .int .u8 0, ci 0, ci 0, .str eB, .isl .fld [], .isl .two [], .isl .lens ([(Ln.mk op0H nm0I to0J ns0K n0L lo0M hi0N sep0O (V.mk k0P n0Q s0R f0S) prs0T ks0U)] : List Ln)], eV (.x 1) [.isl .int l02], (.sub (.s 23) 0, (eR .part (ps5.set (0 + (0 : Int).toNat) (a00, (Tp.mk kQ mU loV hiW pY psZ)))))]⟩) ⟨_, l8, 0, _, eB, rfl, rfl, rfl, h, rfl⟩ ?_
 rintro σ n ⟨remA, j9, _, sF, rfl, hremA, rfl, h, hσ⟩
 refine kk hσ ?_
 intro tO (htO : tO = decide (((j9 : Nat) : Int) < ((l8.length : Nat) : Int)))
 cases tO
 obtain rfl := ll_nil hremA htO
 rw [f427_L2] at h
 conv => whnf
 exact ⟨sF, l02, ss h, rfl⟩
 obtain ⟨xB, tl6, rfl, hxB, htl6⟩ := ll_cons hremA htO
 obtain ⟨a21, ⟨k3F, m3G, lo3H, hi3I, p3J, ps3K⟩⟩ := xB
 rw [f427_L2] at h
 conv => whnf
 refine ⟨lx_bd hxB, fun uu19 huu19 => ?_⟩
 obtain rfl := lx_eq hxB huu19
 refine kL [] (h63 _ _ _ _ _ _ _ _ _ ?_ (sb h))
 rintro k3L m3M lo3N hi3O p3P ps3Q h
 refine kc h ?_ ?_ <;> intro h
 conv => whnf
 exact ⟨tl6.length, nls, tl6, j9 + 1, _, sF, rfl, htl6, lx_wr hxB hl13, h, rfl⟩
 refine kc h ?_ ?_ <;> intro h
 conv => whnf
 exact ⟨tl6.length, nls, tl6, j9 + 1, _, sF, rfl, htl6, lx_wr hxB hl13, h, rfl⟩
 conv => whnf
 exact ⟨tl6.length, nls, tl6, j9 + 1, _, a21, rfl, htl6, lx_wr hxB hl13, h, rfl⟩
 rintro _ ⟨s0W, l0X, h, rfl⟩
 replace h := hrRN _ h
 conv => whnf
 refine ⟨LN, ?_⟩
 exact kR [] (ND 2) (hQ _ _ _ _ _ _ _ _ _ _ _ _ _ _ _ _ _ _ _ _ _ (ss h))
theorem w426 {O : Oracle TT} (fuel : Nat) (self377 : Tp → Int → PT → LI → Option (Ln × Tp × LI)) (h15 : C15 O f15) (h42 : C42 O (f42 fuel)) (h63 : C63 O f63) (h377 : C377 O self377) (h438 : C438 O f438) (h440 : C440 O f440) : C426 (fun _ => vcF (S := SS) O j426) (b426 fuel self377) := by
 intro k21 m22 lo23 hi24 p25 ps26 k0X m0Y lo0Z hi10 p11 psC vW lF l27 Q R hQ h
 unfold b426 at h
 refine ⟨nle rfl, rfl, ?_⟩
 refine kL [] (h438 _ _ _ _ _ _ _ _ ?_ (sb h))
 rintro kY mZ lo00 hi01 p02 psG _ rfl h
 intro hl28
 refine kL [(.x 1)] (h15 _ _ _ _ ?_ (sb h))
 rintro v03 l29 h
 obtain ⟨RH, h, aH, hrRH⟩ := sc h
 refine kX (fun σ => ∃ l0M, RH (.inr l0M) ∧ σ = ⟨[(0, pX 0), (3, iD vW), pT 6, pT 8, pT 9, pT 10, (11, iD v03)], [eV (.x 0) [.isl .dfn lF, .ptr (.x 1) 0 0], eV (.s 6) [ci k0X, .str m0Y, ci lo0Z, ci hi10, .str p11, .isl .part psC], eV (.s 8) zLn, eV (.s 9) zTp, eV (.s 10) [ci kY, .str mZ, ci lo00, ci hi01, .str p02, .osl (.sub (.s 20) 0) 0 psG.length], eV (.x 1) [.isl .int l0M], (.sub (.s 20) 0, (eR .part psG))]⟩) ?_ ?_
 refine kL [(.x 1)] (h15 _ _ _ _ ?_ (sb h))
 rintro v1N l12 h
 refine kc h ?_ ?_ <;> intro h
 obtain ⟨R0N, h, a0N, hrR0N⟩ := sc h
 refine kX (fun σ => ∃ q0O, R0N (.inr q0O) ∧ σ = ⟨[(0, pX 0), (3, iD vW), pT 6, pT 8, pT 9, pT 10, (11, iD v03), (12, iD v1N), (55, bD q0O)], [eV (.x 0) [.isl .dfn lF, .ptr (.x 1) 0 0], eV (.s 6) [ci k0X, .str m0Y, ci lo0Z, ci hi10, .str p11, .isl .part psC], eV (.s 8) zLn, eV (.s 9) zTp, eV (.s 10) [ci kY, .str mZ, ci lo00, ci hi01, .str p02, .osl (.sub (.s 20) 0) 0 psG.length], eV (.x 1) [.isl .int l12], (.sub (.s 20) 0, (eR .part psG))]⟩) ?_ ?_
 refine kc h ?_ ?_ <;> intro h
 conv => whnf
 exact ⟨false, ss h, rfl⟩
 intro hl2A
 refine kc h ?_ ?_ <;> intro h
 conv => whnf
 exact ⟨false, ss h, rfl⟩
 conv => whnf
 exact ⟨true, ss h, rfl⟩
 rintro _ ⟨q0O, h, rfl⟩
 replace h := hrR0N _ h
 cases q0O
 replace h := cf h
 obtain ⟨R0P, h, a0P, hrR0P⟩ := sc h
 refine kX (fun σ => ∃ q0Q, R0P (.inr q0Q) ∧ σ = ⟨[(0, pX 0), (3, iD vW), pT 6, pT 8, pT 9, pT 10, (11, iD v03), (75, bD q0Q)], [eV (.x 0) [.isl .dfn lF, .ptr (.x 1) 0 0], eV (.s 6) [ci k0X, .str m0Y, ci lo0Z, ci hi10, .str p11, .isl .part psC], eV (.s 8) zLn, eV (.s 9) zTp, eV (.s 10) [ci kY, .str mZ, ci lo00, ci hi01, .str p02, .osl (.sub (.s 20) 0) 0 psG.length], eV (.x 1) [.isl .int l12], (.sub (.s 20) 0, (eR .part psG))]⟩) ?_ ?_
 refine kc h ?_ ?_ <;> intro h
 conv => whnf
 exact ⟨false, ss h, rfl⟩
 intro hl2B
 refine kc h ?_ ?_ <;> intro h
 conv => whnf
 exact ⟨false, ss h, rfl⟩
 refine kg (sat_getL h) fun uu14 huu14 h => ?_
 obtain ⟨a2C, ⟨k2D, m2E, lo2F, hi2G, p2H, ps2I⟩⟩ := uu14
 refine kc h ?_ ?_ <;> intro h
 conv => whnf
 exact ⟨false, ss h, rfl⟩
 refine kg (sat_getL h) fun uu15 huu15 h => ?_
 obtain ⟨a2J, ⟨k2K, m2L, lo2M, hi2N, p2O, ps2P⟩⟩ := uu15
 refine kc h ?_ ?_ <;> intro h
 conv => whnf
 exact ⟨false, ss h, rfl⟩
 refine kg (sat_getL h) fun uu17 huu17 h => ?_
 obtain ⟨a2Q, ⟨k2R, m2S, lo2T, hi2U, p2V, ps2W⟩⟩ := uu17
 refine kL [] (h63 _ _ _ _ _ _ _ _ _ ?_ (sb h))
 rintro k2X m2Y lo2Z hi30 p31 ps32 h
 refine kc h ?_ ?_ <;> intro h
 conv => whnf
 exact ⟨false, ss h, rfl⟩
 conv => whnf
 exact ⟨true, ss h, rfl⟩
 rintro _ ⟨q0Q, h, rfl⟩
 replace h := hrR0P _ h
 cases q0Q
 replace h := cf h
 conv => whnf
 exact ⟨l12, ss h, rfl⟩
 replace h := ct h
 refine kg (sat_getL h) fun uu18 huu18 h => ?_
 obtain ⟨a33, ⟨k34, m35, lo36, hi37, p38, ps39⟩⟩ := uu18
 refine kg (sat_getL h) fun uu19 huu19 h => ?_
 obtain ⟨a3A, ⟨k3B, m3C, lo3D, hi3E, p3F, ps3G⟩⟩ := uu19
 refine kL [(.x 1)] (h42 _ _ _ _ _ _ _ _ _ _ _ ?_ (sb h))
 rintro k3H n3I s3J f3K l3L h
 replace h := sat_lft aH h
 exact kR [] (ND 2) (hQ _ _ _ _ _ _ _ _ _ _ _ _ _ _ _ _ _ _ _ _ _ (ss h))
 replace h := ct h
 refine kg (sat_getL h) fun uu1A huu1A h => ?_
 obtain ⟨a3M, ⟨k3N, m3O, lo3P, hi3Q, p3R, ps3S⟩⟩ := uu1A
 refine kg (sat_getL h) fun uu1B huu1B h => ?_
 obtain ⟨a3T, ⟨k3U, m3V, lo3W, hi3X, p3Y, ps3Z⟩⟩ := uu1B
 replace h := sat_lft aH h
 exact kR [] (ND 2) (hQ _ _ _ _ _ _ _ _ _ _ _ _ _ _ _ _ _ _ _ _ _ (ss h))
 refine kL [(.x 0), (.x 1)] (h440 _ _ _ _ _ _ _ _ _ _ ?_ (sb h))
 rintro s1O l40 h
 refine kp h fun hb41 h => ?_
 refine kg (sat_getN h) fun uu1C huu1C h => ?_
 obtain ⟨a42, ⟨k1P, m1Q, lo1R, hi1S, p1T, ps1U⟩⟩ := uu1C
 refine ⟨(s1O, (Tp.mk k1P m1Q lo1R hi1S p1T ps1U)), rfl, ?_⟩
 refine kg (sat_getL h) fun uu1D huu1D h => ?_
 obtain ⟨a43, ⟨k44, m45, lo46, hi47, p48, ps49⟩⟩ := uu1D
 conv => whnf
 refine ⟨LN, ?_⟩
 replace h := sat_lft aH h
 exact kR [] (ND 2) (hQ _ _ _ _ _ _ _ _ _ _ _ _ _ _ _ _ _ _ _ _ _ (ss h))
 rintro _ ⟨l0M, h, rfl⟩
 replace h := hrRH _ h
 obtain ⟨R0J, h, a0J, hrR0J⟩ := sc h
 refine kX (fun σ => ∃ (l13 : LI) (l0R : PT) (l0S : LB) (l0T : List Ln) (n1E : Nat) (n1F : Nat) (n1G : Nat), n1E = l0R.length ∧ n1F = l0S.length ∧ n1G = l0T.length ∧ R0J (.inr (l13, l0R, l0S, l0T)) ∧ σ = ⟨[pT 8, pT 9, pT 10, pT 14], [eV (.s 8) zLn, eV (.s 9) zTp, eV (.s 10) [ci kY, .str mZ, ci lo00, ci hi01, .str p02, .osl (.sub (.s 20) 0) 0 n1E], eV (.s 14) [ci 14, .str eB, .str eB, .osl (.sub (.sub (.s 14) 600) 3) 0 n1F, ci 0, ci 0, ci 0, .int .u8 0, ci 0, ci 0, .str eB, .nils, .nils, .osl (.sub (.sub (.s 14) 600) 13) 0 n1G], eV (.x 0) [.isl .dfn lF, .ptr (.x 1) 0 0], eV (.x 1) [.isl .int l13], (.sub (.s 20) 0, (eR .part l0R)), (.sub (.sub (.s 14) 600) 3, (eR .str l0S)), (.sub (.sub (.s 14) 600) 13, (eR .lens l0T))]⟩) ?_ ?_
 intro hlI
 refine kX (fun σ n => ∃ (remJ : PT) (j6 : Nat) (z : Int) (l8 : PT) (l9 : LB) (lA : List Ln) (l0K : LI) (n1H : Nat) (n1I : Nat) (n1J : Nat), n = remJ.length ∧ psC.drop j6 = remJ ∧ z = ((j6 : Nat) : Int) ∧ n1H = l8.length ∧ n1I = l9.length ∧ n1J = lA.length ∧ sat (f426_L2 self377 vW lF v03 remJ j6 l8 l9 lA l0K) R0J ∧ σ.keep [0, 3, 8, 9, 10, 11, 14, 136, 137, 138] [(.x 0), (.s 8), (.s 9), (.s 10), (.s 14), (.x 1), (.sub (.s 20) 0), (.sub (.sub (.s 14) 600) 3), (.sub (.sub (.s 14) 600) 13)] = ⟨[(0, pX 0), (3, iD vW), pT 8, pT 9, pT 10, (11, iD v03), pT 14, (136, .c (.isl .part psC)), (137, iD ((psC.length : Nat) : Int)), (138, iD z)], [eV (.x 0) [.isl .dfn lF, .ptr (.x 1) 0 0], eV (.s 8) zLn, eV (.s 9) zTp, eV (.s 10) [ci kY, .str mZ, ci lo00, ci hi01, .str p02, .osl (.sub (.s 20) 0) 0 n1H], eV (.s 14) [ci 14, .str eB, .str eB, .osl (.sub (.sub (.s 14) 600) 3) 0 n1I, ci 0, ci 0, ci 0, .int .u8 0, ci 0, ci 0, .str eB, .nils, .nils, .osl (.sub (.sub (.s 14) 600) 13) 0 n1J], eV (.x 1) [.isl .int l0K], (.sub (.s 20) 0, (eR .part l8)), (.sub (.sub (.s 14) 600) 3, (eR .str l9)), (.sub (.sub (.s 14) 600) 13, (eR .lens lA))]⟩) ⟨_, psC, 0, _, psG, [], [], l0M, _, _, _, rfl, rfl, rfl, LN, LN, LN, h, rfl⟩ ?_
 rintro σ n ⟨remJ, j6, _, l8, l9, lA, l0K, _, _, _, rfl, hremJ, rfl, rfl, rfl, rfl, h, hσ⟩
 refine kk hσ ?_
 intro t0L (ht0L : t0L = decide (((j6 : Nat) : Int) < ((psC.length : Nat) : Int)))
 cases t0L
 obtain rfl := ll_nil hremJ ht0L
 rw [f426_L2] at h
 conv => whnf
 exact ⟨l0K, l8, l9, lA, _, _, _, LN, LN, LN, ss h, rfl⟩
 obtain ⟨xB, tl5, rfl, hxB, htl5⟩ := ll_cons hremJ ht0L
 obtain ⟨aK, ⟨k1V, m1W, lo1X, hi1Y, p1Z, ps20⟩⟩ := xB
 rw [f426_L2] at h
 conv => whnf
 refine ⟨lx_bd hxB, fun uu1K huu1K => ?_⟩
 obtain rfl := lx_eq hxB huu1K
 obtain ⟨R0U, h, a0U, hrR0U⟩ := sc h
 refine kX (fun σ => ∃ q0V l0W, R0U (.inr (q0V, l0W)) ∧ σ = ⟨[(0, pX 0), (3, iD vW), pT 8, pT 9, pT 10, (11, iD v03), pT 14, (15, iD ((j6 : Nat) : Int)), pT 16, (136, .c (.isl .part psC)), (137, iD ((psC.length : Nat) : Int)), (138, iD ((j6 : Nat) : Int)), (153, bD q0V)], [eV (.x 0) [.isl .dfn lF, .ptr (.x 1) 0 0], eV (.s 8) zLn, eV (.s 9) zTp, eV (.s 10) [ci kY, .str mZ, ci lo00, ci hi01, .str p02, .osl (.sub (.s 20) 0) 0 l8.length], eV (.s 14) [ci 14, .str eB, .str eB, .osl (.sub (.sub (.s 14) 600) 3) 0 l9.length, ci 0, ci 0, ci 0, .int .u8 0, ci 0, ci 0, .str eB, .nils, .nils, .osl (.sub (.sub (.s 14) 600) 13) 0 lA.length], eV (.s 16) [.str aK, ci k1V, .str m1W, ci lo1X, ci hi1Y, .str p1Z, .isl .part ps20], eV (.x 1) [.isl .int l0W], (.sub (.s 20) 0, (eR .part l8)), (.sub (.sub (.s 14) 600) 3, (eR .str l9)), (.sub (.sub (.s 14) 600) 13, (eR .lens lA))]⟩) ?_ ?_
 refine kc h ?_ ?_ <;> intro h
 refine kL [(.x 1)] (h15 _ _ _ _ ?_ (sb h))
 rintro v4A l1L h
 refine kc h ?_ ?_ <;> intro h
 conv => whnf
 exact ⟨false, l1L, ss h, rfl⟩
 conv => whnf
 exact ⟨true, l1L, ss h, rfl⟩
 conv => whnf
 exact ⟨true, l0K, ss h, rfl⟩
 rintro _ ⟨q0V, l0W, h, rfl⟩
 replace h := hrR0U _ h
 cases q0V
 replace h := cf h
 conv => whnf
 exact ⟨tl5.length, nls, tl5, j6 + 1, _, l8, l9, lA, l0W, _, _, _, rfl, htl5, lx_wr hxB hlI, LN, LN, LN, h, rfl⟩
 replace h := ct h
 refine kL [(.x 0), (.x 1)] (h377 _ _ _ _ _ _ _ _ _ _ _ ?_ (sb h))
 rintro op04 nm05 to06 ns07 n08 lo09 hi0A sep0B k0C n0D s0E f0F prs0G ks0H kM mN loO hiP pQ psU l0I h
 refine kp h fun hb4B h => ?_
 refine kg (sat_getN h) fun uu1M huu1M h => ?_
 obtain ⟨aV, ⟨k4C, m4D, lo4E, hi4F, p4G, ps4H⟩⟩ := uu1M
 refine ⟨(aV, (Tp.mk kM mN loO hiP pQ psU)), rfl, ?_⟩
 conv => whnf
 refine ⟨?_, ?_⟩
 conv => whnf
 refine ⟨?_, ?_⟩
 conv => whnf
 refine ⟨LN, rfl, ?_⟩
 conv => whnf
 refine ⟨rfl, ?_⟩
 refine kp h fun hb4I h => ?_
 conv => whnf
 refine ⟨LN, rfl, ?_⟩
 conv => whnf
 refine ⟨rfl, ?_⟩
 refine kp h fun hb4J h => ?_
 conv => whnf
 exact ⟨tl5.length, nls, tl5, j6 + 1, _, (l8.set (0 + ((j6 : Nat) : Int).toNat) (aV, (Tp.mk kM mN loO hiP pQ psU))), (l9 ++ ([aK] : LB)), (lA ++ ([(Ln.mk op04 nm05 to06 ns07 n08 lo09 hi0A sep0B (V.mk k0C n0D s0E f0F) prs0G ks0H)] : List Ln)), l0I, _, _, _, rfl, htl5, lx_wr hxB hlI, LN, LN, LN, h, rfl⟩
 conv => whnf
 refine ⟨?_, ?_⟩
 conv => whnf
 refine ⟨LN, rfl, ?_⟩
 conv => whnf
 refine ⟨rfl, ?_⟩
 refine kp h fun hb4K h => ?_
 conv => whnf
 refine ⟨LN, rfl, ?_⟩
 conv => whnf
 refine ⟨rfl, ?_⟩
 refine kp h fun hb4L h => ?_
 conv => whnf
 exact ⟨tl5.length, nls, tl5, j6 + 1, _, (l8.set (0 + ((j6 : Nat) : Int).toNat) (aV, (Tp.mk kM mN loO hiP pQ psU))), (l9 ++ ([aK] : LB)), (lA ++ ([(Ln.mk op04 nm05 to06 ns07 n08 lo09 hi0A sep0B (V.mk k0C n0D s0E f0F) prs0G ks0H)] : List Ln)), l0I, _, _, _, rfl, htl5, lx_wr hxB hlI, LN, LN, LN, h, rfl⟩
 conv => whnf
 refine ⟨LN, rfl, ?_⟩
 conv => whnf
 refine ⟨rfl, ?_⟩
 refine kp h fun hb4M h => ?_
 conv => whnf
 refine ⟨LN, rfl, ?_⟩
 conv => whnf
 refine ⟨rfl, ?_⟩
 refine kp h fun hb4N h => ?_
 conv => whnf
 exact ⟨tl5.length, nls, tl5, j6 + 1, _, (l8.set (0 + ((j6 : Nat) : Int).toNat) (aV, (Tp.mk kM mN loO hiP pQ psU))), (l9 ++ ([aK] : LB)), (lA ++ ([(Ln.mk op04 nm05 to06 ns07 n08 lo09 hi0A sep0B (V.mk k0C n0D s0E f0F) prs0G ks0H)] : List Ln)), l0I, _, _, _, rfl, htl5, lx_wr hxB hlI, LN, LN, LN, h, rfl⟩
 conv => whnf
 refine ⟨?_, ?_⟩
 conv => whnf
 refine ⟨?_, ?_⟩
 conv => whnf
 refine ⟨LN, rfl, ?_⟩
 conv => whnf
 refine ⟨rfl, ?_⟩
 refine kp h fun hb4O h => ?_
 conv => whnf
 refine ⟨LN, rfl, ?_⟩
 conv => whnf
 refine ⟨rfl, ?_⟩
 refine kp h fun hb4P h => ?_
 conv => whnf
 exact ⟨tl5.length, nls, tl5, j6 + 1, _, (l8.set (0 + ((j6 : Nat) : Int).toNat) (aV, (Tp.mk kM mN loO hiP pQ psU))), (l9 ++ ([aK] : LB)), (lA ++ ([(Ln.mk op04 nm05 to06 ns07 n08 lo09 hi0A sep0B (V.mk k0C n0D s0E f0F) prs0G ks0H)] : List Ln)), l0I, _, _, _, rfl, htl5, lx_wr hxB hlI, LN, LN, LN, h, rfl⟩
 conv => whnf
 refine ⟨LN, rfl, ?_⟩
 conv => whnf
 refine ⟨rfl, ?_⟩
 refine kp h fun hb4Q h => ?_
 conv => whnf
 refine ⟨LN, rfl, ?_⟩
 conv => whnf
 refine ⟨rfl, ?_⟩
 refine kp h fun hb4R h => ?_
 conv => whnf
 exact ⟨tl5.length, nls, tl5, j6 + 1, _, (l8.set (0 + ((j6 : Nat) : Int).toNat) (aV, (Tp.mk kM mN loO hiP pQ psU))), (l9 ++ ([aK] : LB)), (lA ++ ([(Ln.mk op04 nm05 to06 ns07 n08 lo09 hi0A sep0B (V.mk k0C n0D s0E f0F) prs0G ks0H)] : List Ln)), l0I, _, _, _, rfl, htl5, lx_wr hxB hlI, LN, LN, LN, h, rfl⟩
 conv => whnf
 refine ⟨LN, rfl, ?_⟩
 conv => whnf
 refine ⟨rfl, ?_⟩
 refine kp h fun hb4S h => ?_
 conv => whnf
 refine ⟨LN, rfl, ?_⟩
 conv => whnf
 refine ⟨rfl, ?_⟩
 refine kp h fun hb4T h => ?_
 conv => whnf
 exact ⟨tl5.length, nls, tl5, j6 + 1, _, (l8.set (0 + ((j6 : Nat) : Int).toNat) (aV, (Tp.mk kM mN loO hiP pQ psU))), (l9 ++ ([aK] : LB)), (lA ++ ([(Ln.mk op04 nm05 to06 ns07 n08 lo09 hi0A sep0B (V.mk k0C n0D s0E f0F) prs0G ks0H)] : List Ln)), l0I, _, _, _, rfl, htl5, lx_wr hxB hlI, LN, LN, LN, h, rfl⟩
 rintro _ ⟨l13, l0R, l0S, l0T, _, _, _, rfl, rfl, rfl, h, rfl⟩
 replace h := hrR0J _ h
 conv => whnf
 refine ⟨LN, ?_⟩
 conv => whnf
 refine ⟨LN, ?_⟩
 conv => whnf
 refine ⟨LN, ?_⟩
 exact kR [] (ND 2) (hQ _ _ _ _ _ _ _ _ _ _ _ _ _ _ _ _ _ _ _ _ _ (ss h))
theorem w425 {O : Oracle TT} (fuel : Nat) (self377 : Tp → Int → PT → LI → Option (Ln × Tp × LI)) (h15 : C15 O f15) (h60 : C60 O f60) (h42 : C42 O (f42 fuel)) (h63 : C63 O f63) (h64 : C64 O f64) (h377 : C377 O self377) (h380 : C380 O f380) (h438 : C438 O f438) (h441 : C441 O f441) (h440 : C440 O f440) (h447 : C447 O f447) (h443 : C443 O f443) (h446 : C446 O f446) (h445 : C445 O f445) (h444 : C444 O (f444 fuel)) : C425 (fun _ => vcF (S := SS) O j425) (b425 fuel self377) := by
 intro k14 m15 lo17 hi18 p19 ps1A kH mI loJ hiK pM psC vN lF l0W Q R hQ h
 unfold b425 at h
 refine ⟨nle rfl, rfl, ?_⟩
 obtain ⟨R03, h, a03, hrR03⟩ := sc h
 refine kX (fun σ => ∃ (v6 : Int) (s8 : BA) (v9 : Int) (vA : Int) (sB : BA) (l5 : PT) (n0X : Nat), n0X = l5.length ∧ R03 (.inr (v6, s8, v9, vA, sB, l5)) ∧ σ = ⟨[(0, pX 0), (3, iD vN), pT 5, pT 6, pT 8, pT 9, (10, iD ((psC.length : Nat) : Int)), pT 11], [eV (.x 0) [.isl .dfn lF, .ptr (.x 1) 0 0], eV (.s 5) [ci k14, .str m15, ci lo17, ci hi18, .str p19, .isl .part ps1A], eV (.s 6) [ci kH, .str mI, ci loJ, ci hiK, .str pM, .isl .part psC], eV (.s 8) zLn, eV (.s 9) zTp, eV (.s 11) [ci v6, .str s8, ci v9, ci vA, .str sB, .osl (.sub (.s 33) 0) 0 n0X], eV (.x 1) [.isl .int l0W], (.sub (.s 33) 0, (eR .part l5))]⟩) ?_ ?_
 intro hl3E
 conv => whnf
 refine ⟨?_, ?_⟩
 refine kL [] (h438 _ _ _ _ _ _ _ _ ?_ (sb h))
 rintro k1B m1C lo1D hi1E p1F ps1G _ rfl h
 conv => whnf
 exact ⟨k1B, m1C, lo1D, hi1E, p1F, ps1G, _, LN, ss h, rfl⟩
 refine kL [] (h438 _ _ _ _ _ _ _ _ ?_ (sb h))
 rintro k1H m1I lo1J hi1K p1L ps1M _ rfl h
 conv => whnf
 exact ⟨k1H, m1I, lo1J, hi1K, p1L, ps1M, _, LN, ss h, rfl⟩
 rintro _ ⟨v6, s8, v9, vA, sB, l5, _, rfl, h, rfl⟩
 replace h := hrR03 _ h
 refine kc h ?_ ?_ <;> intro h
 obtain ⟨R00, h, a00, hrR00⟩ := sc h
 refine kX (fun σ => ∃ l0E, R00 (.inr l0E) ∧ σ = ⟨[(0, pX 0), (3, iD vN), pT 6, pT 8, pT 9, (10, iD ((psC.length : Nat) : Int)), pT 11], [eV (.x 0) [.isl .dfn lF, .ptr (.x 1) 0 0], eV (.s 6) [ci kH, .str mI, ci loJ, ci hiK, .str pM, .isl .part psC], eV (.s 8) zLn, eV (.s 9) zTp, eV (.s 11) [ci v6, .str s8, ci v9, ci vA, .str sB, .osl (.sub (.s 33) 0) 0 l5.length], eV (.x 1) [.isl .int l0E], (.sub (.s 33) 0, (eR .part l5))]⟩) ?_ ?_
 obtain ⟨R04, h, a04, hrR04⟩ := sc h
 refine kX (fun σ => ∃ q05 l06, R04 (.inr (q05, l06)) ∧ σ = ⟨[(0, pX 0), (3, iD vN), pT 6, pT 8, pT 9, (10, iD ((psC.length : Nat) : Int)), pT 11, (49, bD q05)], [eV (.x 0) [.isl .dfn lF, .ptr (.x 1) 0 0], eV (.s 6) [ci kH, .str mI, ci loJ, ci hiK, .str pM, .isl .part psC], eV (.s 8) zLn, eV (.s 9) zTp, eV (.s 11) [ci v6, .str s8, ci v9, ci vA, .str sB, .osl (.sub (.s 33) 0) 0 l5.length], eV (.x 1) [.isl .int l06], (.sub (.s 33) 0, (eR .part l5))]⟩) ?_ ?_
 refine kc h ?_ ?_ <;> intro h
 refine kL [(.x 1)] (h15 _ _ _ _ ?_ (sb h))
 rintro v3F l0Y h
 refine kc h ?_ ?_ <;> intro h
 conv => whnf
 exact ⟨false, l0Y, ss h, rfl⟩
 conv => whnf
 exact ⟨true, l0Y, ss h, rfl⟩
 conv => whnf
 exact ⟨true, l0W, ss h, rfl⟩
 rintro _ ⟨q05, l06, h, rfl⟩
 replace h := hrR04 _ h
 cases q05
 replace h := cf h
 conv => whnf
 exact ⟨l06, ss h, rfl⟩
 replace h := ct h
 obtain ⟨R07, h, a07, hrR07⟩ := sc h
 refine kX (fun σ => ∃ v0F v0G s0H l0I l0J, R07 (.inr (v0F, v0G, s0H, l0I, l0J)) ∧ σ = ⟨[(0, pX 0), pT 6, pT 8, pT 9, pT 11, pT 12], [eV (.x 0) [.isl .dfn lF, .ptr (.x 1) 0 0], eV (.s 6) [ci kH, .str mI, ci loJ, ci hiK, .str pM, .isl .part psC], eV (.s 8) zLn, eV (.s 9) zTp, eV (.s 11) [ci v6, .str s8, ci v9, ci vA, .str sB, .osl (.sub (.s 33) 0) 0 l5.length], eV (.s 12) [ci v0F, ci v0G, .str s0H, .isl .fld l0I], eV (.x 1) [.isl .int l0J], (.sub (.s 33) 0, (eR .part l5))]⟩) ?_ ?_
 conv => whnf
 refine ⟨?_, ?_⟩
 conv => whnf
 refine ⟨?_, ?_⟩
 refine kL [(.x 1)] (h60 _ _ _ _ ?_ (sb h))
 rintro v3G l3H h
 conv => whnf
 refine ⟨?_, ?_⟩
 refine kL [(.x 1)] (h64 _ _ _ _ ?_ (sb h))
 rintro k1N n1O s1P f1Q l1R h
 conv => whnf
 exact ⟨k1N, n1O, s1P, f1Q, l1R, ss h, rfl⟩
 refine kL [(.x 1)] (h64 _ _ _ _ ?_ (sb h))
 rintro k1S n1T s1U f1V l1W h
 conv => whnf
 exact ⟨k1S, n1T, s1U, f1V, l1W, ss h, rfl⟩
 refine kL [(.x 1)] (h60 _ _ _ _ ?_ (sb h))
 rintro v3I l3J h
 refine kL [(.x 1)] (h64 _ _ _ _ ?_ (sb h))
 rintro k1X n1Y s1Z f20 l21 h
 conv => whnf
 exact ⟨k1X, n1Y, s1Z, f20, l21, ss h, rfl⟩
 refine kL [(.x 1)] (h60 _ _ _ _ ?_ (sb h))
 rintro v3K l3L h
 refine kL [(.x 1)] (h64 _ _ _ _ ?_ (sb h))
 rintro k22 n23 s24 f25 l26 h
 conv => whnf
 exact ⟨k22, n23, s24, f25, l26, ss h, rfl⟩
 rintro _ ⟨v0F, v0G, s0H, l0I, l0J, h, rfl⟩
 replace h := hrR07 _ h
 refine kL [(.x 0), (.x 1)] (h440 _ _ _ _ _ _ _ _ _ _ ?_ (sb h))
 rintro s3M l3N h
 refine kL [] (h441 _ _ _ _ _ _ ?_ (sb h))
 rintro k3O m3P lo3Q hi3R p3S ps3T h
 conv => whnf
 refine ⟨LN, rfl, ?_⟩
 conv => whnf
 refine ⟨rfl, ?_⟩
 refine kp h fun hb3U h => ?_
 conv => whnf
 refine ⟨LN, ?_⟩
 replace h := sat_lft a00 h
 exact kR [] (ND 2) (hQ _ _ _ _ _ _ _ _ _ _ _ _ _ _ _ _ _ _ _ _ _ (ss h))
 rintro _ ⟨l0E, h, rfl⟩
 replace h := hrR00 _ h
 refine kL [(.x 1)] (h15 _ _ _ _ ?_ (sb h))
 rintro v01 l3V h
 refine kg (sat_getL h) fun uu0Z huu0Z h => ?_
 obtain ⟨aO, ⟨kP, mQ, loU, hiV, pW, psY⟩⟩ := uu0Z
 obtain ⟨RG, h, aG, hrRG⟩ := sc h
 refine kX (fun σ => ∃ lZ, RG (.inr lZ) ∧ σ = ⟨[(0, pX 0), (3, iD vN), pT 6, pT 8, pT 9, pT 11, (14, iD v01), pT 15], [eV (.x 0) [.isl .dfn lF, .ptr (.x 1) 0 0], eV (.s 6) [ci kH, .str mI, ci loJ, ci hiK, .str pM, .isl .part psC], eV (.s 8) zLn, eV (.s 9) zTp, eV (.s 11) [ci v6, .str s8, ci v9, ci vA, .str sB, .osl (.sub (.s 33) 0) 0 l5.length], eV (.s 15) [.str aO, ci kP, .str mQ, ci loU, ci hiV, .str pW, .isl .part psY], eV (.x 1) [.isl .int lZ], (.sub (.s 33) 0, (eR .part l5))]⟩) ?_ ?_
 refine kL [(.x 1)] (h15 _ _ _ _ ?_ (sb h))
 rintro v3W l0K h
 refine kc h ?_ ?_ <;> intro h
 refine kc h ?_ ?_ <;> intro h
 refine kc h ?_ ?_ <;> intro h
 refine kc h ?_ ?_ <;> intro h
 refine kc h ?_ ?_ <;> intro h
 refine kc h ?_ ?_ <;> intro h
 conv => whnf
 exact ⟨l0K, ss h, rfl⟩
 refine kL [(.x 0), (.x 1)] (h447 _ _ _ _ _ _ _ _ _ _ _ ?_ (sb h))
 rintro op3X nm3Y to3Z ns40 n41 lo42 hi43 sep44 k45 n46 s47 f48 prs49 ks4A k4B m4C lo4D hi4E p4F ps4G q27 h
 cases q27
 replace h := cf h
 conv => whnf
 exact ⟨l0K, ss h, rfl⟩
 replace h := ct h
 replace h := sat_lft aG h
 exact kR [] (ND 2) (hQ _ _ _ _ _ _ _ _ _ _ _ _ _ _ _ _ _ _ _ _ _ (ss h))
 refine kL [(.x 1)] (h15 _ _ _ _ ?_ (sb h))
 rintro v28 l29 h
 obtain ⟨R08, h, a08, hrR08⟩ := sc h
 refine kX (fun σ => ∃ (l09 : PT) (n10 : Nat), n10 = l09.length ∧ R08 (.inr l09) ∧ σ = ⟨[pT 8, pT 9, pT 11, pT 15, (21, iD v28)], [eV (.s 8) zLn, eV (.s 9) zTp, eV (.s 11) [ci v6, .str s8, ci v9, ci vA, .str sB, .osl (.sub (.s 171) 0) 0 n10], eV (.s 15) [.str aO, ci kP, .str mQ, ci loU, ci hiV, .str pW, .isl .part psY], eV (.x 0) [.isl .dfn lF, .ptr (.x 1) 0 0], eV (.x 1) [.isl .int l29], (.sub (.s 171) 0, (eR .part l09))]⟩) ?_ ?_
 conv => whnf
 refine ⟨?_, ?_⟩
 refine kL [(.sub (.s 33) 0)] (h443 _ _ _ _ LN _ _ ?_ (sb h))
 rintro l4H _ rfl h
 refine kL [(.sub (.s 167) 0)] (h446 _ _ _ _ LN _ _ ?_ (sb h))
 rintro l2A _ rfl h
 conv => whnf
 exact ⟨l2A, _, LN, ss h, rfl⟩
 refine kL [(.sub (.s 33) 0)] (h443 _ _ _ _ LN _ _ ?_ (sb h))
 rintro l4I _ rfl h
 refine kL [(.sub (.s 167) 0)] (h446 _ _ _ _ LN _ _ ?_ (sb h))
 rintro l2B _ rfl h
 conv => whnf
 exact ⟨l2B, _, LN, ss h, rfl⟩
 rintro _ ⟨l09, _, rfl, h, rfl⟩
 replace h := hrR08 _ h
 conv => whnf
 refine ⟨LN, ?_⟩
 replace h := sat_lft aG h
 exact kR [] (ND 2) (hQ _ _ _ _ _ _ _ _ _ _ _ _ _ _ _ _ _ _ _ _ _ (ss h))
 refine kL [(.x 0), (.x 1)] (h445 _ _ _ _ _ _ _ _ _ _ _ ?_ (sb h))
 rintro op4J nm4K to4L ns4M n4N lo4O hi4P sep4Q k4R n4S s4T f4U prs4V ks4W k4X m4Y lo4Z hi50 p51 ps52 q2C h
 cases q2C
 replace h := cf h
 conv => whnf
 exact ⟨l0K, ss h, rfl⟩
 replace h := ct h
 replace h := sat_lft aG h
 exact kR [] (ND 2) (hQ _ _ _ _ _ _ _ _ _ _ _ _ _ _ _ _ _ _ _ _ _ (ss h))
 refine kL [(.x 0), (.x 1)] (h444 _ _ _ _ _ _ _ _ _ _ ?_ (sb h))
 rintro op53 nm54 to55 ns56 n57 lo58 hi59 sep5A k5B n5C s5D f5E prs5F ks5G k5H m5I lo5J hi5K p5L ps5M l5N h
 replace h := sat_lft aG h
 exact kR [] (ND 2) (hQ _ _ _ _ _ _ _ _ _ _ _ _ _ _ _ _ _ _ _ _ _ (ss h))
 obtain ⟨R0A, h, a0A, hrR0A⟩ := sc h
 refine kX (fun σ => ∃ v0L v0M s0N l0O l0P, R0A (.inr (v0L, v0M, s0N, l0O, l0P)) ∧ σ = ⟨[pT 8, pT 9, pT 11, (14, iD v01), pT 15, pT 17], [eV (.s 8) zLn, eV (.s 9) zTp, eV (.s 11) [ci v6, .str s8, ci v9, ci vA, .str sB, .osl (.sub (.s 33) 0) 0 l5.length], eV (.s 15) [.str aO, ci kP, .str mQ, ci loU, ci hiV, .str pW, .isl .part psY], eV (.s 17) [ci v0L, ci v0M, .str s0N, .isl .fld l0O], eV (.x 0) [.isl .dfn lF, .ptr (.x 1) 0 0], eV (.x 1) [.isl .int l0P], (.sub (.s 33) 0, (eR .part l5))]⟩) ?_ ?_
 conv => whnf
 refine ⟨?_, ?_⟩
 refine kL [(.x 1)] (h42 _ _ _ _ _ _ _ _ _ _ _ ?_ (sb h))
 rintro k2D n2E s2F f2G l2H h
 conv => whnf
 exact ⟨k2D, n2E, s2F, f2G, l2H, ss h, rfl⟩
 refine kL [(.x 1)] (h42 _ _ _ _ _ _ _ _ _ _ _ ?_ (sb h))
 rintro k2I n2J s2K f2L l2M h
 conv => whnf
 exact ⟨k2I, n2J, s2K, f2L, l2M, ss h, rfl⟩
 rintro _ ⟨v0L, v0M, s0N, l0O, l0P, h, rfl⟩
 replace h := hrR0A _ h
 refine kL [(.sub (.s 33) 0)] (h443 _ _ _ _ LN _ _ ?_ (sb h))
 rintro l5O _ rfl h
 conv => whnf
 refine ⟨LN, ?_⟩
 replace h := sat_lft aG h
 exact kR [] (ND 2) (hQ _ _ _ _ _ _ _ _ _ _ _ _ _ _ _ _ _ _ _ _ _ (ss h))
 refine kL [(.x 0), (.x 1)] (h440 _ _ _ _ _ _ _ _ _ _ ?_ (sb h))
 rintro s2N l5P h
 refine kp h fun hb5Q h => ?_
 refine kg (sat_getN h) fun uu11 huu11 h => ?_
 obtain ⟨a5R, ⟨k2O, m2P, lo2Q, hi2R, p2S, ps2T⟩⟩ := uu11
 refine ⟨(s2N, (Tp.mk k2O m2P lo2Q hi2R p2S ps2T)), rfl, ?_⟩
 conv => whnf
 refine ⟨LN, ?_⟩
 replace h := sat_lft aG h
 exact kR [] (ND 2) (hQ _ _ _ _ _ _ _ _ _ _ _ _ _ _ _ _ _ _ _ _ _ (ss h))
 rintro _ ⟨lZ, h, rfl⟩
 replace h := hrRG _ h
 obtain ⟨R02, h, a02, hrR02⟩ := sc h
 refine kX (fun σ => R02 (.inr ()) ∧ σ = ⟨[(0, pX 0), (3, iD vN), pT 8, pT 9, pT 11, (14, iD v01), pT 15], [eV (.x 0) [.isl .dfn lF, .ptr (.x 1) 0 0], eV (.s 8) zLn, eV (.s 9) zTp, eV (.s 11) [ci v6, .str s8, ci v9, ci vA, .str sB, .osl (.sub (.s 33) 0) 0 l5.length], eV (.s 15) [.str aO, ci kP, .str mQ, ci loU, ci hiV, .str pW, .isl .part psY], eV (.x 1) [.isl .int lZ], (.sub (.s 33) 0, (eR .part l5))]⟩) ?_ ?_
 obtain ⟨R0B, h, a0B, hrR0B⟩ := sc h
 refine kX (fun σ => ∃ v0Q s0R v0S v0T s0U l0V, R0B (.inr (v0Q, s0R, v0S, v0T, s0U, l0V)) ∧ σ = ⟨[(0, pX 0), (3, iD vN), pT 6, pT 8, pT 9, pT 11, (14, iD v01), pT 15, pT 25], [eV (.x 0) [.isl .dfn lF, .ptr (.x 1) 0 0], eV (.s 6) [ci kH, .str mI, ci loJ, ci hiK, .str pM, .isl .part psC], eV (.s 8) zLn, eV (.s 9) zTp, eV (.s 11) [ci v6, .str s8, ci v9, ci vA, .str sB, .osl (.sub (.s 33) 0) 0 l5.length], eV (.s 15) [.str aO, ci kP, .str mQ, ci loU, ci hiV, .str pW, .isl .part psY], eV (.s 25) [ci v0Q, .str s0R, ci v0S, ci v0T, .str s0U, .isl .part l0V], eV (.x 1) [.isl .int lZ], (.sub (.s 33) 0, (eR .part l5))]⟩) ?_ ?_
 conv => whnf
 refine ⟨?_, ?_⟩
 refine kL [] (h63 _ _ _ _ _ _ _ _ _ ?_ (sb h))
 rintro k2U m2V lo2W hi2X p2Y ps2Z h
 conv => whnf
 exact ⟨k2U, m2V, lo2W, hi2X, p2Y, ps2Z, ss h, rfl⟩
 refine kL [] (h63 _ _ _ _ _ _ _ _ _ ?_ (sb h))
 rintro k30 m31 lo32 hi33 p34 ps35 h
 conv => whnf
 exact ⟨k30, m31, lo32, hi33, p34, ps35, ss h, rfl⟩
 rintro _ ⟨v0Q, s0R, v0S, v0T, s0U, l0V, h, rfl⟩
 replace h := hrR0B _ h
 obtain ⟨R0C, h, a0C, hrR0C⟩ := sc h
 refine kX (fun σ => ∃ q0D, R0C (.inr q0D) ∧ σ = ⟨[(0, pX 0), (3, iD vN), pT 6, pT 8, pT 9, pT 11, (14, iD v01), pT 15, (205, bD q0D)], [eV (.x 0) [.isl .dfn lF, .ptr (.x 1) 0 0], eV (.s 6) [ci kH, .str mI, ci loJ, ci hiK, .str pM, .isl .part psC], eV (.s 8) zLn, eV (.s 9) zTp, eV (.s 11) [ci v6, .str s8, ci v9, ci vA, .str sB, .osl (.sub (.s 33) 0) 0 l5.length], eV (.s 15) [.str aO, ci kP, .str mQ, ci loU, ci hiV, .str pW, .isl .part psY], eV (.x 1) [.isl .int lZ], (.sub (.s 33) 0, (eR .part l5))]⟩) ?_ ?_
 refine kc h ?_ ?_ <;> intro h
 conv => whnf
 exact ⟨false, ss h, rfl⟩
 refine kc h ?_ ?_ <;> intro h
 conv => whnf
 exact ⟨false, ss h, rfl⟩
 conv => whnf
 exact ⟨true, ss h, rfl⟩
 rintro _ ⟨q0D, h, rfl⟩
 replace h := hrR0C _ h
 cases q0D
 replace h := cf h
 conv => whnf
 exact ⟨ss h, rfl⟩
 replace h := ct h
 refine kL [(.x 0), (.x 1)] (h440 _ _ _ _ _ _ _ _ _ _ ?_ (sb h))
 rintro s5S l5T h
 refine kp h fun hb5U h => ?_
 refine kg (sat_getN h) fun uu12 huu12 h => ?_
 obtain ⟨a36, ⟨k5V, m5W, lo5X, hi5Y, p5Z, ps60⟩⟩ := uu12
 refine ⟨(a36, (Tp.mk 5 eB 0 0 (⟨#[91, 97, 45, 99, 93, 42]⟩ : BA) [])), rfl, ?_⟩
 refine kL [(.sub (.s 33) 0)] (h446 _ _ _ _ LN _ _ ?_ (sb h))
 rintro l61 _ rfl h
 conv => whnf
 refine ⟨LN, ?_⟩
 replace h := sat_lft a02 h
 exact kR [] (ND 2) (hQ _ _ _ _ _ _ _ _ _ _ _ _ _ _ _ _ _ _ _ _ _ (ss h))
 rintro _ ⟨h, rfl⟩
 replace h := hrR02 _ h
 refine kL [(.x 0), (.x 1)] (h377 _ _ _ _ _ _ _ _ _ _ _ ?_ (sb h))
 rintro op62 nm63 to64 ns65 n66 lo67 hi68 sep69 k6A n6B s6C f6D prs6E ks6F k37 m38 lo39 hi3A p3B ps3C l6G h
 refine kp h fun hb6H h => ?_
 refine kg (sat_getN h) fun uu13 huu13 h => ?_
 obtain ⟨a3D, ⟨k6I, m6J, lo6K, hi6L, p6M, ps6N⟩⟩ := uu13
 refine ⟨(a3D, (Tp.mk k37 m38 lo39 hi3A p3B ps3C)), rfl, ?_⟩
 conv => whnf
 refine ⟨LN, ?_⟩
 exact kR [] (ND 2) (hQ _ _ _ _ _ _ _ _ _ _ _ _ _ _ _ _ _ _ _ _ _ (ss h))
 refine kL [] (h380 _ _ _ _ _ _ _ _ ?_ (sb h))
 rintro op6O nm6P to6Q ns6R n6S lo6T hi6U sep6V k6W n6X s6Y f6Z prs70 ks71 k72 m73 lo74 hi75 p76 ps77 h
 exact kR [] (ND 2) (hQ _ _ _ _ _ _ _ _ _ _ _ _ _ _ _ _ _ _ _ _ _ (ss h))
theorem cg377 {P : Program} {fid : Nat → FuncId} (mx : MX P) (k377 : KF P fid 377 j377) (k406 : KF P fid 406 j406) (k427 : KF P fid 427 j427) (k426 : KF P fid 426 j426) (k425 : KF P fid 425 j425) (h15 : C15 (SP P fid) f15) (h63 : C63 (SP P fid) f63) (h380 : C380 (SP P fid) f380) (h429 : C429 (SP P fid) f429) (h428 : C428 (SP P fid) f428) (h438 : C438 (SP P fid) f438) (h448 : ∀ n, C448 (SP P fid) (f448 n)) (h42 : ∀ n, C42 (SP P fid) (f42 n)) (h440 : C440 (SP P fid) f440) (h60 : C60 (SP P fid) f60) (h64 : C64 (SP P fid) f64) (h441 : C441 (SP P fid) f441) (h447 : C447 (SP P fid) f447) (h443 : C443 (SP P fid) f443) (h446 : C446 (SP P fid) f446) (h445 : C445 (SP P fid) f445) (h444 : ∀ n, C444 (SP P fid) (f444 n)) : ∀ n, C377 (SP P fid) (f377 n) ∧ C406 (SP P fid) (f406 n) ∧ C427 (SP P fid) (f427 n) ∧ C426 (SP P fid) (f426 n) ∧ C425 (SP P fid) (f425 n) := by
 intro n
 induction n with
 | zero => exact ⟨fun a0 a5 a6 a7 a8 a9 aA aB aC Q R hQ h => (sat_none h).elim, fun a0 a5 a6 a7 a8 a9 aA aB aC Q R hQ h => (sat_none h).elim, fun a0 a5 a6 a7 a8 a9 aA aB aC aD aE aF aG aH aI Q R hQ h => (sat_none h).elim, fun a0 a5 a6 a7 a8 a9 aA aB aC aD aE aF aG aH aI Q R hQ h => (sat_none h).elim, fun a0 a5 a6 a7 a8 a9 aA aB aC aD aE aF aG aH aI Q R hQ h => (sat_none h).elim⟩
 | succ n ih =>
  obtain ⟨ih0, ih5, ih6, ih7, ih8⟩ := ih
  exact ⟨fun a0 a5 a6 a7 a8 a9 aA aB aC Q R hQ h => spec_of_vc mx k377 (w377 (f406 n) h15 ih5 a0 a5 a6 a7 a8 a9 aA aB aC Q R hQ h), fun a0 a5 a6 a7 a8 a9 aA aB aC Q R hQ h => spec_of_vc mx k406 (w406 (f427 n) (f426 n) (f425 n) h15 h63 h380 h429 h428 ih6 ih7 ih8 a0 a5 a6 a7 a8 a9 aA aB aC Q R hQ h), fun a0 a5 a6 a7 a8 a9 aA aB aC aD aE aF aG aH aI Q R hQ h => spec_of_vc mx k427 (w427 n (f377 n) h15 h63 ih0 h438 (h448 n) a0 a5 a6 a7 a8 a9 aA aB aC aD aE aF aG aH aI Q R hQ h), fun a0 a5 a6 a7 a8 a9 aA aB aC aD aE aF aG aH aI Q R hQ h => spec_of_vc mx k426 (w426 n (f377 n) h15 (h42 n) h63 ih0 h438 h440 a0 a5 a6 a7 a8 a9 aA aB aC aD aE aF aG aH aI Q R hQ h), fun a0 a5 a6 a7 a8 a9 aA aB aC aD aE aF aG aH aI Q R hQ h => spec_of_vc mx k425 (w425 n (f377 n) h15 h60 (h42 n) h63 h64 ih0 h380 h438 h441 h440 h447 h443 h446 h445 (h444 n) a0 a5 a6 a7 a8 a9 aA aB aC aD aE aF aG aH aI Q R hQ h)⟩
theorem c377 {P : Program} {fid : Nat → FuncId} (mx : MX P) (k377 : KF P fid 377 j377) (k406 : KF P fid 406 j406) (k427 : KF P fid 427 j427) (k426 : KF P fid 426 j426) (k425 : KF P fid 425 j425) (h15 : C15 (SP P fid) f15) (h63 : C63 (SP P fid) f63) (h380 : C380 (SP P fid) f380) (h429 : C429 (SP P fid) f429) (h428 : C428 (SP P fid) f428) (h438 : C438 (SP P fid) f438) (h448 : ∀ n, C448 (SP P fid) (f448 n)) (h42 : ∀ n, C42 (SP P fid) (f42 n)) (h440 : C440 (SP P fid) f440) (h60 : C60 (SP P fid) f60) (h64 : C64 (SP P fid) f64) (h441 : C441 (SP P fid) f441) (h447 : C447 (SP P fid) f447) (h443 : C443 (SP P fid) f443) (h446 : C446 (SP P fid) f446) (h445 : C445 (SP P fid) f445) (h444 : ∀ n, C444 (SP P fid) (f444 n)) : ∀ n, C377 (SP P fid) (f377 n) := fun n => (cg377 mx k377 k406 k427 k426 k425 h15 h63 h380 h429 h428 h438 h448 h42 h440 h60 h64 h441 h447 h443 h446 h445 h444 n).1
def f378_L2 (self378 : Tp → Option (Int × Int)) : PT → Nat → Int → Int → Option (Sum (Int × Int) (Int × Int))
 | [], j7, v6, v5 => some (.inr (v6, v5))
 | ((aI, .mk k9 mA loB hiC pE psF)) :: tlG, j7, v6, v5 => (self378 (Tp.mk k9 mA loB hiC pE psF)).bind fun (vH, v8) => f378_L2 self378 tlG (j7 + 1) (wrap .i64 (v6 + vH)) (if (wrap .i64 (v8 + 1)) > v5 then (wrap .i64 (v8 + 1)) else v5)
def b378 (self378 : Tp → Option (Int × Int)) : Tp → Option (Int × Int)
 | .mk k8 m9 loA hiB pC ps5 => sbind (ο := Int × Int) (f378_L2 self378 ps5 0 (1 : Int) (1 : Int)) (fun (v6, v7) => some (v6, v7))
def f378 : Nat → Tp → Option (Int × Int)
 | 0 => fun _ => none
 | n + 1 => b378 (f378 n)
def C378 (O : Oracle TT) (m : Tp → Option (Int × Int)) : Prop :=
 ∀ k5 m6 lo7 hi8 p9 psA (Q : (Int × Int) → Prop) (R : RR) (_ : ∀ vB vC, Q (vB, vC) → R (.tup [iD vB, iD vC]) []) (_ : sat (m (Tp.mk k5 m6 lo7 hi8 p9 psA)) Q), O 378 [.agg [ci k5, .str m6, ci lo7, ci hi8, .str p9, .isl .part psA]] [] R
def j378 : Fn TT := ⟨31, [.t 2, .t 3], (sr [qo 1 (.box 1 0),qo 2 (.mv (iC 0)),qo 3 (.mv (iC 0))] (sr [qo 2 (.mv (iC 1)),qo 3 (.mv (iC 1))] (.cut [2, 3] [] (sr [qo 8 (.fa 1 5),qo 9 (ld 8),qo 10 (.len false 9),qo 11 (.mv (iC 0))] (.block 0 (.loop (.keep [2, 3, 9, 10, 11] [] (.aft (sr [qo 12 (.bin .lss .num 11 10)] (.seq (.cond 12 .skip
 (.exit 0)) (.seq (.block 1 (sr [qo 13 (.idxA 9 11 7),qo 14 (.load 13 7 true),qo 5 (.alloc 5 zPt),qp (.store 5 14 7)] (sr [qo 16 (.fa 5 1),qo 17 (.load 16 6 true),qo 18 (.call 18 378 [17]),qm 15 18,qo 19 (.ext 15 0),qo 20 (.ext 15 1),qm 6 19,qm 7 20] (.reg [qm 21 2,qm 22 6,qo 23 (.bin .add .num 21 22),qm 24 3,qm 25 7,
 qo 26 (.bin .add .num 25 (iC 1)),qo 27 (.mx [24, 26]),qm 2 23,qm 3 27])))) (.reg [qo 28 (.bin .add .num 11 (iC 1)),qm 11 28])))) [.keep [2, 3, 9, 10, 11] []]))))) (sr [qm 29 2,qm 30 3,qm 2 29,qm 3 30] .ret))))⟩
theorem w378 {O : Oracle TT} (self378 : Tp → Option (Int × Int)) (h378 : C378 O self378) : C378 (fun _ => vcF (S := SS) O j378) (b378 self378) := by
 intro kN mO loP hiQ pU ps9 Q R hQ h
 unfold b378 at h
 refine ⟨nle rfl, rfl, ?_⟩
 obtain ⟨RA, h, aA, hrRA⟩ := sc h
 refine kX (fun σ => ∃ vG vH, RA (.inr (vG, vH)) ∧ σ = ⟨[(2, iD vG), (3, iD vH)], []⟩) ?_ ?_
 intro hlK
 refine kX (fun σ n => ∃ (rem5 : PT) (j6 : Nat) (z : Int) (vB : Int) (v8 : Int), n = rem5.length ∧ ps9.drop j6 = rem5 ∧ z = ((j6 : Nat) : Int) ∧ sat (f378_L2 self378 rem5 j6 vB v8) RA ∧ σ.keep [2, 3, 9, 10, 11] [] = ⟨[(2, iD vB), (3, iD v8), (9, .c (.isl .part ps9)), (10, iD ((ps9.length : Nat) : Int)), (11, iD z)], []⟩) ⟨_, ps9, 0, _, (1 : Int), (1 : Int), rfl, rfl, rfl, h, rfl⟩ ?_
 rintro σ n ⟨rem5, j6, _, vB, v8, rfl, hrem5, rfl, h, hσ⟩
 refine kk hσ ?_
 intro tC (htC : tC = decide (((j6 : Nat) : Int) < ((ps9.length : Nat) : Int)))
 cases tC
 obtain rfl := ll_nil hrem5 htC
 rw [f378_L2] at h
 conv => whnf
 exact ⟨vB, v8, ss h, rfl⟩
 obtain ⟨xE, tlF, rfl, hxE, htlF⟩ := ll_cons hrem5 htC
 obtain ⟨aV, ⟨kW, mY, loZ, hi00, p01, ps02⟩⟩ := xE
 rw [f378_L2] at h
 conv => whnf
 refine ⟨lx_bd hxE, fun uuI huuI => ?_⟩
 obtain rfl := lx_eq hxE huuI
 refine kL [] (h378 _ _ _ _ _ _ _ _ ?_ (sb h))
 rintro vM vJ h
 conv => whnf
 exact ⟨tlF.length, nls, tlF, j6 + 1, _, (wrap .i64 (vB + vM)), (if (wrap .i64 (vJ + 1)) > v8 then (wrap .i64 (vJ + 1)) else v8), rfl, htlF, lx_wr hxE hlK, h, rfl⟩
 rintro _ ⟨vG, vH, h, rfl⟩
 replace h := hrRA _ h
 exact kR [] (ND 0) (hQ _ _ (ss h))
theorem cg378 {P : Program} {fid : Nat → FuncId} (mx : MX P) (k378 : KF P fid 378 j378) : ∀ n, C378 (SP P fid) (f378 n) := by
 intro n
 induction n with
 | zero => exact fun a0 a5 a6 a7 a8 a9 Q R hQ h => (sat_none h).elim
 | succ n ih =>
  have ih0 := ih
  exact fun a0 a5 a6 a7 a8 a9 Q R hQ h => spec_of_vc mx k378 (w378 (f378 n) ih0 a0 a5 a6 a7 a8 a9 Q R hQ h)
theorem c378 {P : Program} {fid : Nat → FuncId} (mx : MX P) (k378 : KF P fid 378 j378) : ∀ n, C378 (SP P fid) (f378 n) := fun n => (cg378 mx k378 n)
def f379_L2 (self379 : Ln → Option (Int)) : List Ln → Nat → Int → Option (Sum (Int) (Int))
 | [], j6, v5 => some (.inr v5)
 | (.mk op7 nm8 to9 nsA nB loC hiF sepG (.mk kH nI sJ fK) prsM ksN) :: tlO, j6, v5 => (self379 (Ln.mk op7 nm8 to9 nsA nB loC hiF sepG (V.mk kH nI sJ fK) prsM ksN)).bind fun vP => f379_L2 self379 tlO (j6 + 1) (wrap .i64 (v5 + vP))
def b379 (self379 : Ln → Option (Int)) : Ln → Option (Int)
 | .mk op7 nm8 to9 nsA nB loC hiF sepG (.mk kH nI sJ fK) prsM ks5 => sbind (ο := Int) (f379_L2 self379 ks5 0 (1 : Int)) (fun v6 => some v6)
def f379 : Nat → Ln → Option (Int)
 | 0 => fun _ => none
 | n + 1 => b379 (f379 n)
def C379 (O : Oracle TT) (m : Ln → Option (Int)) : Prop :=
 ∀ op5 nm6 to7 ns8 n9 loA hiB sepC kF nG sH fI prsJ ksK (Q : Int → Prop) (R : RR) (_ : ∀ vM, Q vM → R (iD vM) []) (_ : sat (m (Ln.mk op5 nm6 to7 ns8 n9 loA hiB sepC (V.mk kF nG sH fI) prsJ ksK)) Q), O 379 [.agg [ci op5, .str nm6, .str to7, .isl .str ns8, ci n9, ci loA, ci hiB, .int .u8 sepC, ci kF, ci nG, .str sH, .isl .fld fI, .isl .two prsJ, .isl .lens ksK]] [] R
def j379 : Fn TT := ⟨19, [.t 2], (sr [qo 1 (.box 1 0),qo 2 (.mv (iC 0))] (sr [qo 3 (.mv (iC 1))] (.cut [3] [] (sr [qo 6 (.fa 1 13),qo 7 (ld 6),qo 8 (.len false 7),qo 9 (.mv (iC 0))] (.block 0 (.loop (.keep [3, 7, 8, 9] [] (.aft (sr [qo 10 (.bin .lss .num 9 8)] (.seq (.cond 10 .skip (.exit 0)) (.seq (.block 1 (.seq
 (.reg [qo 11 (.idxA 7 9 14),qo 12 (.load 11 14 true),qo 5 (.alloc 5 zLn),qp (.store 5 12 14)]) (.reg [qm 13 3,qo 14 (.load 5 14 true),qo 15 (.call 15 379 [14]),qo 16 (.bin .add .num 13 15),qm 3 16]))) (.reg [qo 17 (.bin .add .num 9 (iC 1)),qm 9 17])))) [.keep [3, 7, 8, 9] []]))))) (sr [qm 18 3,qm 2 18] .ret))))⟩
theorem w379 {O : Oracle TT} (self379 : Ln → Option (Int)) (h379 : C379 O self379) : C379 (fun _ => vcF (S := SS) O j379) (b379 self379) := by
 intro opK nmM toN nsO nP loQ hiS sepT kU nV sW fY prsZ ks8 Q R hQ h
 unfold b379 at h
 refine ⟨nle rfl, rfl, ?_⟩
 obtain ⟨R9, h, a9, hrR9⟩ := sc h
 refine kX (fun σ => ∃ vG, R9 (.inr vG) ∧ σ = ⟨[(3, iD vG)], []⟩) ?_ ?_
 intro hlI
 refine kX (fun σ n => ∃ (rem5 : List Ln) (j6 : Nat) (z : Int) (vA : Int), n = rem5.length ∧ ks8.drop j6 = rem5 ∧ z = ((j6 : Nat) : Int) ∧ sat (f379_L2 self379 rem5 j6 vA) R9 ∧ σ.keep [3, 7, 8, 9] [] = ⟨[(3, iD vA), (7, .c (.isl .lens ks8)), (8, iD ((ks8.length : Nat) : Int)), (9, iD z)], []⟩) ⟨_, ks8, 0, _, (1 : Int), rfl, rfl, rfl, h, rfl⟩ ?_
 rintro σ n ⟨rem5, j6, _, vA, rfl, hrem5, rfl, h, hσ⟩
 refine kk hσ ?_
 intro tB (htB : tB = decide (((j6 : Nat) : Int) < ((ks8.length : Nat) : Int)))
 cases tB
 obtain rfl := ll_nil hrem5 htB
 rw [f379_L2] at h
 conv => whnf
 exact ⟨vA, ss h, rfl⟩
 obtain ⟨xC, tlF, rfl, hxC, htlF⟩ := ll_cons hrem5 htB
 obtain ⟨op00, nm01, to02, ns03, n04, lo05, hi06, sep07, ⟨k08, n09, s0A, f0B⟩, prs0C, ks0D⟩ := xC
 rw [f379_L2] at h
 conv => whnf
 refine ⟨lx_bd hxC, fun uuH huuH => ?_⟩
 obtain rfl := lx_eq hxC huuH
 refine kL [] (h379 _ _ _ _ _ _ _ _ _ _ _ _ _ _ _ _ ?_ (sb h))
 rintro vJ h
 conv => whnf
 exact ⟨tlF.length, nls, tlF, j6 + 1, _, (wrap .i64 (vA + vJ)), rfl, htlF, lx_wr hxC hlI, h, rfl⟩
 rintro _ ⟨vG, h, rfl⟩
 replace h := hrR9 _ h
 exact kR [] (ND 0) (hQ _ (ss h))
theorem cg379 {P : Program} {fid : Nat → FuncId} (mx : MX P) (k379 : KF P fid 379 j379) : ∀ n, C379 (SP P fid) (f379 n) := by
 intro n
 induction n with
 | zero => exact fun a0 a5 a6 a7 a8 a9 aA aB aC aD aE aF aG aH Q R hQ h => (sat_none h).elim
 | succ n ih =>
  have ih0 := ih
  exact fun a0 a5 a6 a7 a8 a9 aA aB aC aD aE aF aG aH Q R hQ h => spec_of_vc mx k379 (w379 (f379 n) ih0 a0 a5 a6 a7 a8 a9 aA aB aC aD aE aF aG aH Q R hQ h)
theorem c379 {P : Program} {fid : Nat → FuncId} (mx : MX P) (k379 : KF P fid 379 j379) : ∀ n, C379 (SP P fid) (f379 n) := fun n => (cg379 mx k379 n)
def f361 (fuel : Nat) : PT → Tp → LI → Option (Ln × Tp)
 | l02, .mk k5 m6 lo7 hi8 p9 psA, l03 => (f377 fuel (Tp.mk k5 m6 lo7 hi8 p9 psA) (3 : Int) l02 l03).bind fun ((.mk opB nmC toF nsG nH loI hiJ sepK (.mk kM nN sO fP) prsQ ksU), (.mk kV mW loY hiZ p00 ps01), l1V) => (f378 fuel (Tp.mk kV mW loY hiZ p00 ps01)).bind fun (v04, v05) => (f379 fuel (Ln.mk opB nmC toF nsG nH loI hiJ sepK (V.mk kM nN sO fP) prsQ ksU)).bind fun v06 => cond (decide (v06 > 119)) ((f380 (Tp.mk k5 m6 lo7 hi8 p9 psA)).bind fun ((.mk op07 nm08 to09 ns0A n0B lo0C hi0D sep0E (.mk k0F n0G s0H f0I) prs0J ks0K), (.mk k0L m0M lo0N hi0O p0P ps0Q)) => some ((Ln.mk op07 nm08 to09 ns0A n0B lo0C hi0D sep0E (V.mk k0F n0G s0H f0I) prs0J ks0K), (Tp.mk k0L m0M lo0N hi0O p0P ps0Q))) (cond (decide (v04 > 150)) ((f380 (Tp.mk k5 m6 lo7 hi8 p9 psA)).bind fun ((.mk op0R nm0S to0T ns0U n0V lo0W hi0X sep0Y (.mk k0Z n10 s11 f12) prs13 ks14), (.mk k15 m16 lo17 hi18 p19 ps1A)) => some ((Ln.mk op0R nm0S to0T ns0U n0V lo0W hi0X sep0Y (V.mk k0Z n10 s11 f12) prs13 ks14), (Tp.mk k15 m16 lo17 hi18 p19 ps1A))) (cond (decide (v05 > 30)) ((f380 (Tp.mk k5 m6 lo7 hi8 p9 psA)).bind fun ((.mk op1B nm1C to1D ns1E n1F lo1G hi1H sep1I (.mk k1J n1K s1L f1M) prs1N ks1O), (.mk k1P m1Q lo1R hi1S p1T ps1U)) => some ((Ln.mk op1B nm1C to1D ns1E n1F lo1G hi1H sep1I (V.mk k1J n1K s1L f1M) prs1N ks1O), (Tp.mk k1P m1Q lo1R hi1S p1T ps1U))) (some ((Ln.mk opB nmC toF nsG nH loI hiJ sepK (V.mk kM nN sO fP) prsQ ksU), (Tp.mk kV mW loY hiZ p00 ps01)))))
def C361 (O : Oracle TT) (m : PT → Tp → LI → Option (Ln × Tp)) : Prop :=
 ∀ l5 k6 m7 lo8 hi9 pA psB lC (Q : (Ln × Tp) → Prop) (R : RR) (_ : ∀ opF nmG toH nsI nJ loK hiM sepN kO nP sQ fU prsV ksW kY mZ lo00 hi01 p02 ps03, Q ((Ln.mk opF nmG toH nsI nJ loK hiM sepN (V.mk kO nP sQ fU) prsV ksW), (Tp.mk kY mZ lo00 hi01 p02 ps03)) → R (.tup [.agg [ci opF, .str nmG, .str toH, .isl .str nsI, ci nJ, ci loK, ci hiM, .int .u8 sepN, ci kO, ci nP, .str sQ, .isl .fld fU, .isl .two prsV, .isl .lens ksW], .agg [ci kY, .str mZ, ci lo00, ci hi01, .str p02, .isl .part ps03]]) []) (_ : sat (m l5 (Tp.mk k6 m7 lo8 hi9 pA psB) lC) Q), O 361 [.c (.isl .dfn l5), .agg [ci k6, .str m7, ci lo8, ci hi9, .str pA, .isl .part psB], .c (.isl .int lC)] [] R
def j361 : Fn TT := ⟨47, [.cell 6 14 true, .cell 7 6 true], (sr [qo 4 (.box 4 1),qo 6 (.alloc 6 zLn),qo 7 (.alloc 7 zTp)] (sr [qm 13 0,qm 14 2,qo 15 (.build [.isl .int []] [((0, 1), 14)]),qo 16 (.box 16 15),qo 17 (.build [.isl .dfn [], .nilp] [((0, 1), 13), ((1, 1), 16)]),qo 18 (.box 18 17),qm 8 18] (sr [qm 20 8,
 qo 21 (.load 4 6 true),qo 22 (.call 22 377 [20, 21, (iC 3)]),qm 19 22,qo 23 (.ext 19 0),qo 24 (.ext 19 1),qo 9 (.alloc 9 zLn),qo 10 (.alloc 10 zTp),qp (.store 9 23 14),qp (.store 10 24 6)] (.seq (sr [qo 26 (.load 10 6 true),qo 27 (.call 27 378 [26]),qm 25 27,qo 28 (.ext 25 0),qo 29 (.ext 25 1),qm 11 28,qm 12 29] (sr [qo 30 (.load 9 14 true),
 qo 31 (.call 31 379 [30]),qo 32 (.bin .gtr .num 31 (iC 119)),qm 33 32,qf 33 34 (.mv 11),qf 33 35 (.bin .gtr .num 34 (iC 150)),qo 36 (.pick 33 bT 35),qm 37 36,qf 37 38 (.mv 12),qf 37 39 (.bin .gtr .num 38 (iC 30)),qo 40 (.pick 37 bT 39)] (.cond 40 (sr [qo 41 (.load 4 6 true),qo 42 (.call 42 380 [41]),qo 43 (.ext 42 0),qo 44 (.ext 42 1),qp (.store 6 43 14),
 qp (.store 7 44 6)] .ret) .skip))) (.seq (.drw [(.s 6)] (ol [0, 1, 2, 3]) [3] [0, 1] [qo 45 (.load 9 14 true),qo 46 (.load 10 6 true),qp (.store 6 45 14),qp (.store 7 46 6)]) .ret)))))⟩
theorem w361 {O : Oracle TT} (fuel : Nat) (h377 : C377 O (f377 fuel)) (h380 : C380 O f380) (h378 : C378 O (f378 fuel)) (h379 : C379 O (f379 fuel)) : C361 (fun _ => vcF (S := SS) O j361) (f361 fuel) := by
 intro l5 k6 m7 lo8 hi9 pA psB lC Q R hQ h
 unfold f361 at h
 refine ⟨nle rfl, rfl, ?_⟩
 refine kL [(.s 18), (.s 16)] (h377 _ _ _ _ _ _ _ _ _ _ _ ?_ (sb h))
 rintro opF nmG toH nsI nJ loK hiM sepN kO nP sQ fU prsV ksW kY mZ lo00 hi01 p02 ps03 l04 h
 refine kL [] (h378 _ _ _ _ _ _ _ _ ?_ (sb h))
 rintro v05 v06 h
 refine kL [] (h379 _ _ _ _ _ _ _ _ _ _ _ _ _ _ _ _ ?_ (sb h))
 rintro v07 h
 refine kc h ?_ ?_ <;> intro h
 refine kc h ?_ ?_ <;> intro h
 refine kc h ?_ ?_ <;> intro h
 exact kR [] (ND 0) (hQ _ _ _ _ _ _ _ _ _ _ _ _ _ _ _ _ _ _ _ _ (ss h))
 refine kL [] (h380 _ _ _ _ _ _ _ _ ?_ (sb h))
 rintro op08 nm09 to0A ns0B n0C lo0D hi0E sep0F k0G n0H s0I f0J prs0K ks0L k0M m0N lo0O hi0P p0Q ps0R h
 exact kR [] (ND 0) (hQ _ _ _ _ _ _ _ _ _ _ _ _ _ _ _ _ _ _ _ _ (ss h))
 refine kL [] (h380 _ _ _ _ _ _ _ _ ?_ (sb h))
 rintro op0S nm0T to0U ns0V n0W lo0X hi0Y sep0Z k10 n11 s12 f13 prs14 ks15 k16 m17 lo18 hi19 p1A ps1B h
 exact kR [] (ND 0) (hQ _ _ _ _ _ _ _ _ _ _ _ _ _ _ _ _ _ _ _ _ (ss h))
 refine kL [] (h380 _ _ _ _ _ _ _ _ ?_ (sb h))
 rintro op1C nm1D to1E ns1F n1G lo1H hi1I sep1J k1K n1L s1M f1N prs1O ks1P k1Q m1R lo1S hi1T p1U ps1V h
 exact kR [] (ND 0) (hQ _ _ _ _ _ _ _ _ _ _ _ _ _ _ _ _ _ _ _ _ (ss h))
def f340 (fuel : Nat) : PT → Tp → LI → Option (Ln)
 | l5, .mk k6 m7 lo8 hi9 pA psB, lC => (f361 fuel l5 (Tp.mk k6 m7 lo8 hi9 pA psB) lC).bind fun ((.mk opF nmG toH nsI nJ loK hiM sepN (.mk kO nP sQ fU) prsV ksW), (.mk kY mZ lo00 hi01 p02 ps03)) => some (Ln.mk opF nmG toH nsI nJ loK hiM sepN (V.mk kO nP sQ fU) prsV ksW)
def C340 (O : Oracle TT) (m : PT → Tp → LI → Option (Ln)) : Prop :=
 ∀ l5 k6 m7 lo8 hi9 pA psB lC (Q : Ln → Prop) (R : RR) (_ : ∀ opF nmG toH nsI nJ loK hiM sepN kO nP sQ fU prsV ksW, Q (Ln.mk opF nmG toH nsI nJ loK hiM sepN (V.mk kO nP sQ fU) prsV ksW) → R (.agg [ci opF, .str nmG, .str toH, .isl .str nsI, ci nJ, ci loK, ci hiM, .int .u8 sepN, ci kO, ci nP, .str sQ, .isl .fld fU, .isl .two prsV, .isl .lens ksW]) []) (_ : sat (m l5 (Tp.mk k6 m7 lo8 hi9 pA psB) lC) Q), O 340 [.c (.isl .dfn l5), .agg [ci k6, .str m7, ci lo8, ci hi9, .str pA, .isl .part psB], .c (.isl .int lC)] [] R
def j340 : Fn TT := ⟨17, [.cell 6 14 true], (sr [qo 4 (.box 4 1),qo 6 (.alloc 6 zLn)] (sr [qm 10 0,qo 11 (.load 4 6 true),qm 12 2,qo 13 (.call 13 361 [10, 11, 12]),qm 9 13,qo 14 (.ext 9 0),qo 15 (.ext 9 1),qo 7 (.alloc 7 zLn),qo 8 (.alloc 8 zTp),qp (.store 7 14 14),qp (.store 8 15 6)] (sr [qo 16 (.load 7 14 true),qp (.store 6 16 14)]
 .ret)))⟩
theorem w340 {O : Oracle TT} (fuel : Nat) (h361 : C361 O (f361 fuel)) : C340 (fun _ => vcF (S := SS) O j340) (f340 fuel) := by
 intro l5 k6 m7 lo8 hi9 pA psB lC Q R hQ h
 unfold f340 at h
 refine ⟨nle rfl, rfl, ?_⟩
 refine kL [] (h361 _ _ _ _ _ _ _ _ _ _ ?_ (sb h))
 rintro opF nmG toH nsI nJ loK hiM sepN kO nP sQ fU prsV ksW kY mZ lo00 hi01 p02 ps03 h
 exact kR [] (ND 0) (hQ _ _ _ _ _ _ _ _ _ _ _ _ _ _ (ss h))
def f319 (fuel : Nat) : LI → LI → LI → Option (PT × Int × BA × Int × Int × BA × PT × Int × BA × BA × LB × Int × Int × Int × Int × Int × Int × BA × FV × LW × (List Ln))
 | lC, lF, lG => (f21 lC).bind fun l5 => (f22 fuel l5 lF).bind fun (.mk k6 m7 lo8 hi9 pA psB) => (f340 fuel l5 (Tp.mk k6 m7 lo8 hi9 pA psB) lG).bind fun (.mk opH nmI toJ nsK nM loN hiO sepP (.mk kQ nU sV fW) prsY ksZ) => some (l5, k6, m7, lo8, hi9, pA, psB, opH, nmI, toJ, nsK, nM, loN, hiO, sepP, kQ, nU, sV, fW, prsY, ksZ)
def C319 (O : Oracle TT) (m : LI → LI → LI → Option (PT × Int × BA × Int × Int × BA × PT × Int × BA × BA × LB × Int × Int × Int × Int × Int × Int × BA × FV × LW × (List Ln))) : Prop :=
 ∀ l5 l6 l7 (Q : (PT × Int × BA × Int × Int × BA × PT × Int × BA × BA × LB × Int × Int × Int × Int × Int × Int × BA × FV × LW × (List Ln)) → Prop) (R : RR) (_ : ∀ l8 v9 sA vB vC sF lG vH sI sJ lK vL vM vN vO vP vQ sR lS lT lU, Q (l8, v9, sA, vB, vC, sF, lG, vH, sI, sJ, lK, vL, vM, vN, vO, vP, vQ, sR, lS, lT, lU) → R (.agg [.isl .dfn l8, ci v9, .str sA, ci vB, ci vC, .str sF, .isl .part lG, ci vH, .str sI, .str sJ, .isl .str lK, ci vL, ci vM, ci vN, .int .u8 vO, ci vP, ci vQ, .str sR, .isl .fld lS, .isl .two lT, .isl .lens lU]) []) (_ : sat (m l5 l6 l7) Q), O 319 [.c (.isl .int l5), .c (.isl .int l6), .c (.isl .int l7)] [] R
def j319 : Fn TT := ⟨21, [.cell 6 21 true], (sr [qo 6 (.alloc 6 [.isl .dfn [], .int .i64 0, .str eB, .int .i64 0, .int .i64 0, .str eB, .isl .part [], .int .i64 0, .str eB, .str eB, .isl .str [], .int .i64 0, .int .i64 0, .int .i64 0, .int .u8 0, .int .i64 0, .int .i64 0, .str eB, .isl .fld [], .isl .two [], .isl .lens []])] (sr [qm 9 0,qo 10 (.call 10 21 [9]),
 qm 7 10] (sr [qm 11 7,qm 12 1,qo 13 (.call 13 22 [11, 12]),qo 8 (.alloc 8 zTp),qp (.store 8 13 6)] (.seq (.drw [] (oR 8) [7] [0, 1, 2, 3, 4, 6] [qm 14 7,qo 15 (.load 8 6 true),qm 16 7,qo 17 (.load 8 6 true),qm 18 2,qo 19 (.call 19 340 [16, 17, 18]),
 qo 20 (.build [.isl .dfn [], .int .i64 0, .str eB, .int .i64 0, .int .i64 0, .str eB, .isl .part [], .int .i64 0, .str eB, .str eB, .isl .str [], .int .i64 0, .int .i64 0, .int .i64 0, .int .u8 0, .int .i64 0, .int .i64 0, .str eB, .isl .fld [], .isl .two [], .isl .lens []] [((0, 1), 14), ((1, 6), 15), ((7, 14), 19)]),qp (.store 6 20 21)]) .ret))))⟩
theorem w319 {O : Oracle TT} (fuel : Nat) (h21 : C21 O f21) (h22 : C22 O (f22 fuel)) (h340 : C340 O (f340 fuel)) : C319 (fun _ => vcF (S := SS) O j319) (f319 fuel) := by
 intro l5 l6 l7 Q R hQ h
 unfold f319 at h
 refine ⟨nle rfl, rfl, ?_⟩
 refine kL [] (h21 _ _ _ ?_ (sb h))
 rintro l8 h
 refine kL [] (h22 _ _ _ _ ?_ (sb h))
 rintro k9 mA loB hiC pF psG h
 refine kL [] (h340 _ _ _ _ _ _ _ _ _ _ ?_ (sb h))
 rintro opH nmI toJ nsK nM loN hiO sepP kQ nU sV fW prsY ksZ h
 exact kR [] (ND 0) (hQ _ _ _ _ _ _ _ _ _ _ _ _ _ _ _ _ _ _ _ _ _ (ss h))
def f44 : Int → Option (V)
 | v0 => some (V.mk 2 v0 (⟨#[]⟩ : BA) [])
def C44 (O : Oracle TT) (m : Int → Option (V)) : Prop :=
 ∀ v5 (Q : V → Prop) (R : RR) (_ : ∀ k6 n7 s8 f9, Q (V.mk k6 n7 s8 f9) → R (.agg [ci k6, ci n7, .str s8, .isl .fld f9]) []) (_ : sat (m v5) Q), O 44 [iD v5] [] R
def j44 : Fn TT := ⟨5, [.cell 2 4 true], (sr [qo 2 (.alloc 2 zV)] (sr [qm 3 0,qo 4 (.build zV [((0, 1), (iC 2)), ((1, 1), 3)]),qp (.store 2 4 4)] .ret))⟩
theorem w44 {O : Oracle TT} : C44 (fun _ => vcF (S := SS) O j44) f44 := by
 intro v0 Q R hQ h
 unfold f44 at h
 refine ⟨nle rfl, rfl, ?_⟩
 exact kR [] (ND 0) (hQ _ _ _ _ (ss h))
def f325 : Option (Ln) := (f44 (7 : Int)).bind fun (.mk k5 n6 s7 f8) => some (Ln.mk 4 (⟨#[98]⟩ : BA) (⟨#[]⟩ : BA) [] 0 0 0 0 (V.mk k5 n6 s7 f8) [] [])
def C325 (O : Oracle TT) (m : Option (Ln)) : Prop :=
 ∀ (Q : Ln → Prop) (R : RR) (_ : ∀ op5 nm6 to7 ns8 n9 loA hiB sepC kF nG sH fI prsJ ksK, Q (Ln.mk op5 nm6 to7 ns8 n9 loA hiB sepC (V.mk kF nG sH fI) prsJ ksK) → R (.agg [ci op5, .str nm6, .str to7, .isl .str ns8, ci n9, ci loA, ci hiB, .int .u8 sepC, ci kF, ci nG, .str sH, .isl .fld fI, .isl .two prsJ, .isl .lens ksK]) []) (_ : sat (m) Q), O 325 [] [] R
def j325 : Fn TT := ⟨3, [.cell 0 14 true], (sr [qo 0 (.alloc 0 zLn)] (sr [qo 1 (.call 1 44 [(iC 7)]),qo 2 (.build zLn [((0, 1), (iC 4)), ((1, 1), (.c (.str (⟨#[98]⟩ : BA)))), ((8, 4), 1)]),qp (.store 0 2 14)] .ret))⟩
theorem w325 {O : Oracle TT} (h44 : C44 O f44) : C325 (fun _ => vcF (S := SS) O j325) f325 := by
 intro Q R hQ h
 unfold f325 at h
 refine ⟨nle rfl, rfl, ?_⟩
 refine kL [] (h44 _ _ _ ?_ (sb h))
 rintro k5 n6 s7 f8 h
 exact kR [] (ND 0) (hQ _ _ _ _ _ _ _ _ _ _ _ _ _ _ (ss h))
def f305_L2 (fuel : Nat) : List Ln → Nat → Int → Int → Bool → Option (Sum (Bool) (Int × Int × Bool))
 | [], j8, v7, v5, q9 => some (.inr (v7, v5, q9))
 | (.mk opA nmB toC nsF nG loH hiI sepJ (.mk kK nM sN fO) prsP ksQ) :: tlS, j8, v7, v5, q9 => (f94 fuel (Ln.mk opA nmB toC nsF nG loH hiI sepJ (V.mk kK nM sN fO) prsP ksQ)).bind fun vT => (f95 fuel (Ln.mk opA nmB toC nsF nG loH hiI sepJ (V.mk kK nM sN fO) prsP ksQ)).bind fun v6 => cond q9 ((f70 fuel (Ln.mk opA nmB toC nsF nG loH hiI sepJ (V.mk kK nM sN fO) prsP ksQ)).bind fun vU => cond (vU == 0) (f305_L2 fuel tlS (j8 + 1) (wrap .i64 (v7 + vT)) (if v6 > v5 then v6 else v5) true) (f305_L2 fuel tlS (j8 + 1) (wrap .i64 (v7 + vT)) (if v6 > v5 then v6 else v5) false)) (f305_L2 fuel tlS (j8 + 1) (wrap .i64 (v7 + vT)) (if v6 > v5 then v6 else v5) false)
def f305_L4 (fuel : Nat) : List Ln → Nat → Int → Int → Bool → Option (Sum (Bool) (Int × Int × Bool))
 | [], j8, v7, v5, q9 => some (.inr (v7, v5, q9))
 | (.mk opA nmB toC nsF nG loH hiI sepJ (.mk kK nM sN fO) prsP ksQ) :: tlS, j8, v7, v5, q9 => (f94 fuel (Ln.mk opA nmB toC nsF nG loH hiI sepJ (V.mk kK nM sN fO) prsP ksQ)).bind fun vT => (f95 fuel (Ln.mk opA nmB toC nsF nG loH hiI sepJ (V.mk kK nM sN fO) prsP ksQ)).bind fun v6 => cond q9 ((f70 fuel (Ln.mk opA nmB toC nsF nG loH hiI sepJ (V.mk kK nM sN fO) prsP ksQ)).bind fun vU => cond (vU == 0) (f305_L4 fuel tlS (j8 + 1) (wrap .i64 (v7 + vT)) (if v6 > v5 then v6 else v5) true) (f305_L4 fuel tlS (j8 + 1) (wrap .i64 (v7 + vT)) (if v6 > v5 then v6 else v5) false)) (f305_L4 fuel tlS (j8 + 1) (wrap .i64 (v7 + vT)) (if v6 > v5 then v6 else v5) false)
def f305 (fuel : Nat) : LI → LI → LI → Int → Option (Bool)
 | lW, lY, lZ, v00 => (f319 fuel lW lY lZ).bind fun (l1M, v1N, s1O, v1P, v1Q, s1R, l1S, v01, s02, s03, l04, v05, v06, v07, v08, v09, v0A, s0B, l0C, l0D, l0E) => (f320 fuel (Ln.mk v01 s02 s03 l04 v05 v06 v07 v08 (V.mk v09 v0A s0B l0C) l0D l0E)).bind fun (.mk op6 nm7 to8 ns9 nM loA hiB sepC (.mk kF nG sH fI) prsJ ks5) => sbind (ο := Int) (cond ((Int.tmod v00 3) == 0) (some (.inr (wrap .i64 (nM + 1)))) (some (.inr nM))) (fun vK => (f116 fuel (Ln.mk op6 nm7 to8 ns9 vK loA hiB sepC (V.mk kF nG sH fI) prsJ ks5)).bind fun v0F => cond (v0F == 0) (sbind (ο := Int × Int × Bool) (f305_L4 fuel ks5 0 (1 : Int) (0 : Int) true) (fun (vN, vO, qP) => sbind (ο := Bool) (cond (decide (vN ≤ 120)) (cond (decide (vO < 40)) (some (.inr true)) (some (.inr false))) (some (.inr false))) (fun qQ => sbind (ο := Bool) ((f325).bind fun (.mk op0G nm0H to0I ns0J n0K lo0L hi0M sep0N (.mk k0O n0P s0Q f0R) prs0S ks0T) => (f94 fuel (Ln.mk op0G nm0H to0I ns0J n0K lo0L hi0M sep0N (V.mk k0O n0P s0Q f0R) prs0S ks0T)).bind fun v0U => cond (v0U == 1) ((f94 fuel (Ln.mk op6 nm7 to8 ns9 vK loA hiB sepC (V.mk kF nG sH fI) prsJ ks5)).bind fun v0V => cond (v0V == vN) (some (.inr true)) (some (.inr false))) (some (.inr false))) (fun q0W => sbind (ο := Bool) (cond q0W ((f95 fuel (Ln.mk op6 nm7 to8 ns9 vK loA hiB sepC (V.mk kF nG sH fI) prsJ ks5)).bind fun v0X => cond (v0X == (wrap .i64 (vO + 1))) (some (.inr true)) (some (.inr false))) (some (.inr false))) (fun q0Y => sbind (ο := Bool) (cond q0Y ((f70 fuel (Ln.mk op6 nm7 to8 ns9 vK loA hiB sepC (V.mk kF nG sH fI) prsJ ks5)).bind fun v0Z => cond (v0Z == 0) (cond qP (cond qQ (some (.inr true)) (some (.inr false))) (some (.inr false))) (cond qP (cond qQ (some (.inr false)) (some (.inr true))) (some (.inr true)))) (some (.inr false))) (fun q10 => some q10)))))) (sbind (ο := Int × Int × Bool) (f305_L2 fuel ks5 0 (1 : Int) (0 : Int) false) (fun (vS, vT, qU) => sbind (ο := Bool) (cond (decide (vS ≤ 120)) (cond (decide (vT < 40)) (some (.inr true)) (some (.inr false))) (some (.inr false))) (fun qV => sbind (ο := Bool) ((f325).bind fun (.mk op11 nm12 to13 ns14 n15 lo16 hi17 sep18 (.mk k19 n1A s1B f1C) prs1D ks1E) => (f94 fuel (Ln.mk op11 nm12 to13 ns14 n15 lo16 hi17 sep18 (V.mk k19 n1A s1B f1C) prs1D ks1E)).bind fun v1F => cond (v1F == 1) ((f94 fuel (Ln.mk op6 nm7 to8 ns9 vK loA hiB sepC (V.mk kF nG sH fI) prsJ ks5)).bind fun v1G => cond (v1G == vS) (some (.inr true)) (some (.inr false))) (some (.inr false))) (fun q1H => sbind (ο := Bool) (cond q1H ((f95 fuel (Ln.mk op6 nm7 to8 ns9 vK loA hiB sepC (V.mk kF nG sH fI) prsJ ks5)).bind fun v1I => cond (v1I == (wrap .i64 (vT + 1))) (some (.inr true)) (some (.inr false))) (some (.inr false))) (fun q1J => sbind (ο := Bool) (cond q1J ((f70 fuel (Ln.mk op6 nm7 to8 ns9 vK loA hiB sepC (V.mk kF nG sH fI) prsJ ks5)).bind fun v1K => cond (v1K == 0) (cond qU (cond qV (some (.inr true)) (some (.inr false))) (some (.inr false))) (cond qU (cond qV (some (.inr false)) (some (.inr true))) (some (.inr true)))) (some (.inr false))) (fun q1L => some q1L)))))))
def C305 (O : Oracle TT) (m : LI → LI → LI → Int → Option (Bool)) : Prop :=
 ∀ l0 l5 l6 v7 (Q : Bool → Prop) (R : RR) (_ : ∀ q8, Q q8 → R (bD q8) []) (_ : sat (m l0 l5 l6 v7) Q), O 305 [.c (.isl .int l0), .c (.isl .int l5), .c (.isl .int l6), iD v7] [] R
def j305 : Fn TT := ⟨88, [.t 8], (sr [qm 8 bF] (sr [qm 17 0,qm 18 1,qm 19 2,qo 20 (.call 20 319 [17, 18, 19]),
 qo 9 (.alloc 9 [.isl .dfn [], .int .i64 0, .str eB, .int .i64 0, .int .i64 0, .str eB, .isl .part [], .int .i64 0, .str eB, .str eB, .isl .str [], .int .i64 0, .int .i64 0, .int .i64 0, .int .u8 0, .int .i64 0, .int .i64 0, .str eB, .isl .fld [], .isl .two [], .isl .lens []]),qp (.store 9 20 21)] (sr [qo 21 (.fa 9 7),qo 22 (.load 21 14 true),qo 23 (.call 23 320 [22]),
 qo 10 (.alloc 10 zLn),qp (.store 10 23 14)] (.cut [10] [(.s 10)] (sr [qm 24 3,qo 25 (.bin .rem .num 24 (iC 3)),qo 26 (.bin .eql .num 25 (iC 0))] (.cond 26 (.reg [qo 27 (.fa 10 4),qo 28 (ld 27),qo 29 (.bin .add .num 28 (iC 1)),qo 30 (.fa 10 4),qp (.store 30 29 1)]) .skip)) (sr [qo 31 (.load 10 14 true),qo 32 (.call 32 116 [31]),
 qo 33 (.bin .eql .num 32 (iC 0)),qo 11 (.mv (iC 1)),qo 12 (.mv (iC 0)),qm 13 33] (.cut [10, 11, 12, 13] [(.s 10)] (sr [qo 34 (.fa 10 13),qo 35 (ld 34),qo 36 (.len false 35),qo 37 (.mv (iC 0))] (.block 0 (.loop (.keep [10, 11, 12, 13, 35, 36, 37] [(.s 10)] (.aft (sr [qo 38 (.bin .lss .num 37 36)] (.seq (.cond 38 .skip (.exit 0)) (.seq (.block 1 (.seq
 (.reg [qo 39 (.idxA 35 37 14),qo 40 (.load 39 14 true),qo 15 (.alloc 15 zLn),qp (.store 15 40 14)]) (.drw [] (ol [0, 1, 4, 5, 8, 2, 3, 6, 7, 9, 10, 11, 12, 13, 14, 15, 16]) [] [0, 1, 3, 4, 5, 7, 8, 9, 10, 12, 13, 14, 15, 16] [qm 41 11,qo 42 (.load 15 14 true),qo 43 (.call 43 94 [42]),qo 44 (.bin .add .num 41 43),qm 45 12,qo 46 (.load 15 14 true),qo 47 (.call 47 95 [46]),
 qo 48 (.mx [45, 47]),qm 49 13,qm 50 49,qg 50 51 (.load 15 14 true),qg 50 52 (.call 52 70 [51]),qg 50 53 (.bin .eql .num 52 (iC 0)),qo 54 (.pick 50 53 bF),qm 11 44,qm 12 48,qm 13 54]))) (.reg [qo 55 (.bin .add .num 37 (iC 1)),qm 37 55])))) [.keep [10, 11, 12, 13, 35, 36, 37] [(.s 10)]]))))) (.cut [10, 11, 12, 13, 16] [(.s 10)] (.reg [qm 56 11,
 qo 57 (.bin .leq .num 56 (iC 120)),qm 58 57,qg 58 59 (.mv 12),qg 58 60 (.bin .lss .num 59 (iC 40)),qo 61 (.pick 58 60 bF),qm 16 61]) (.seq (.regc [([qo 62 (.call 62 325 []),qo 63 (.call 63 94 [62]),qo 64 (.bin .eql .num 63 (iC 1)),qm 65 64,qg 65 66 (.load 10 14 true),qg 65 67 (.call 67 94 [66]),qg 65 68 (.mv 11),qg 65 69 (.bin .eql .num 67 68),
 qo 70 (.pick 65 69 bF)], [10, 12, 13, 16, 70], [(.s 10)]), ([qm 71 70,qg 71 72 (.load 10 14 true),qg 71 73 (.call 73 95 [72]),qg 71 74 (.mv 12),qg 71 75 (.bin .add .num 74 (iC 1)),qg 71 76 (.bin .eql .num 73 75),qo 77 (.pick 71 76 bF)], [10, 13, 16, 77], [(.s 10)]), ([qm 78 77,qg 78 79 (.load 10 14 true),qg 78 80 (.call 80 70 [79]),qg 78 81 (.bin .eql .num 80 (iC 0)),
 qg 78 82 (.mv 13),qg 78 83 (.mv 82),qg 83 84 (.mv 16),qg 78 85 (.pick 83 84 bF),qg 78 86 (.bin .eql .bool 81 85),qo 87 (.pick 78 86 bF)], [87], [])] [qm 8 87]) .ret))))))))⟩
theorem w305 {O : Oracle TT} (fuel : Nat) (h320 : C320 O (f320 fuel)) (h70 : C70 O (f70 fuel)) (h94 : C94 O (f94 fuel)) (h95 : C95 O (f95 fuel)) (h116 : C116 O (f116 fuel)) (h319 : C319 O (f319 fuel)) (h325 : C325 O f325) : C305 (fun _ => vcF (S := SS) O j305) (f305 fuel) := by
 intro l15 l17 l18 v19 Q R hQ h
 unfold f305 at h
 refine ⟨nle rfl, rfl, ?_⟩
 refine kL [] (h319 _ _ _ _ _ ?_ (sb h))
 rintro l1A v1B s1C v1D v1E s1F l1G v1H s1I s1J l1K v1L v1M v1N v1O v1P v1Q s1R l1S l1T l1U h
 refine kL [] (h320 _ _ _ _ _ _ _ _ _ _ _ _ _ _ _ _ ?_ (sb h))
 rintro op8 nm9 toA nsB n12 loC hiG sepH kI nJ sK fM prsN ks5 h
 obtain ⟨R0H, h, a0H, b0H⟩ := sc h
 refine kX (fun σ => ∃ v6, R0H (.inr v6) ∧ σ = ⟨[pT 10], [eV (.s 10) [ci op8, .str nm9, .str toA, .isl .str nsB, ci v6, ci loC, ci hiG, .int .u8 sepH, ci kI, ci nJ, .str sK, .isl .fld fM, .isl .two prsN, .isl .lens ks5]]⟩) ?_ ?_
 conv => whnf
 refine ⟨by decide, ?_⟩
 refine kc h ?_ ?_ <;> intro h
 conv => whnf
 exact ⟨n12, ss h, rfl⟩
 conv => whnf
 exact ⟨(wrap .i64 (n12 + 1)), ss h, rfl⟩
 rintro _ ⟨v6, h, rfl⟩
 replace h := b0H _ h
 refine kL [] (h116 _ _ _ _ _ _ _ _ _ _ _ _ _ _ _ _ ?_ (sb h))
 rintro v1V h
 refine kc h ?_ ?_ <;> intro h
 obtain ⟨R09, h, a09, b09⟩ := sc h
 refine kX (fun σ => ∃ v0I v0A qU, R09 (.inr (v0I, v0A, qU)) ∧ σ = ⟨[pT 10, (11, iD v0I), (12, iD v0A), (13, bD qU)], [eV (.s 10) [ci op8, .str nm9, .str toA, .isl .str nsB, ci v6, ci loC, ci hiG, .int .u8 sepH, ci kI, ci nJ, .str sK, .isl .fld fM, .isl .two prsN, .isl .lens ks5]]⟩) ?_ ?_
 intro hl0W
 refine kX (fun σ n => ∃ (remZ : List Ln) (jV : Nat) (z : Int) (v00 : Int) (vO : Int) (q0B : Bool), n = remZ.length ∧ ks5.drop jV = remZ ∧ z = ((jV : Nat) : Int) ∧ sat (f305_L2 fuel remZ jV v00 vO q0B) R09 ∧ σ.keep [10, 11, 12, 13, 35, 36, 37] [(.s 10)] = ⟨[pT 10, (11, iD v00), (12, iD vO), (13, bD q0B), (35, .c (.isl .lens ks5)), (36, iD ((ks5.length : Nat) : Int)), (37, iD z)], [eV (.s 10) [ci op8, .str nm9, .str toA, .isl .str nsB, ci v6, ci loC, ci hiG, .int .u8 sepH, ci kI, ci nJ, .str sK, .isl .fld fM, .isl .two prsN, .isl .lens ks5]]⟩) ⟨_, ks5, 0, _, (1 : Int), (0 : Int), false, rfl, rfl, rfl, h, rfl⟩ ?_
 rintro σ n ⟨remZ, jV, _, v00, vO, q0B, rfl, hremZ, rfl, h, hσ⟩
 refine kk hσ ?_
 intro t0C (ht0C : t0C = decide (((jV : Nat) : Int) < ((ks5.length : Nat) : Int)))
 cases t0C
 obtain rfl := ll_nil hremZ ht0C
 rw [f305_L2] at h
 conv => whnf
 exact ⟨v00, vO, q0B, ss h, rfl⟩
 obtain ⟨x01, tlP, rfl, hx01, htlP⟩ := ll_cons hremZ ht0C
 obtain ⟨op1W, nm1X, to1Y, ns1Z, n20, lo21, hi22, sep23, ⟨k24, n25, s26, f27⟩, prs28, ks29⟩ := x01
 rw [f305_L2] at h
 conv => whnf
 refine ⟨lx_bd hx01, fun uu13 huu13 => ?_⟩
 obtain rfl := lx_eq hx01 huu13
 refine kL [] (h94 _ _ _ _ _ _ _ _ _ _ _ _ _ _ _ _ ?_ (sb h))
 rintro v0X h
 refine kL [] (h95 _ _ _ _ _ _ _ _ _ _ _ _ _ _ _ _ ?_ (sb h))
 rintro v07 h
 cases q0B
 replace h := cf h
 conv => whnf
 exact ⟨tlP.length, nls, tlP, jV + 1, _, (wrap .i64 (v00 + v0X)), (if v07 > vO then v07 else vO), false, rfl, htlP, lx_wr hx01 hl0W, h, rfl⟩
 replace h := ct h
 refine kL [] (h70 _ _ _ _ _ _ _ _ _ _ _ _ _ _ _ _ ?_ (sb h))
 rintro v2A h
 refine kc h ?_ ?_ <;> intro h
 conv => whnf
 exact ⟨tlP.length, nls, tlP, jV + 1, _, (wrap .i64 (v00 + v0X)), (if v07 > vO then v07 else vO), false, rfl, htlP, lx_wr hx01 hl0W, h, rfl⟩
 conv => whnf
 exact ⟨tlP.length, nls, tlP, jV + 1, _, (wrap .i64 (v00 + v0X)), (if v07 > vO then v07 else vO), true, rfl, htlP, lx_wr hx01 hl0W, h, rfl⟩
 rintro _ ⟨v0I, v0A, qU, h, rfl⟩
 replace h := b09 _ h
 obtain ⟨R0J, h, a0J, b0J⟩ := sc h
 refine kX (fun σ => ∃ q02, R0J (.inr q02) ∧ σ = ⟨[pT 10, (11, iD v0I), (12, iD v0A), (13, bD qU), (16, bD q02)], [eV (.s 10) [ci op8, .str nm9, .str toA, .isl .str nsB, ci v6, ci loC, ci hiG, .int .u8 sepH, ci kI, ci nJ, .str sK, .isl .fld fM, .isl .two prsN, .isl .lens ks5]]⟩) ?_ ?_
 refine kc h ?_ ?_ <;> intro h
 conv => whnf
 exact ⟨false, ss h, rfl⟩
 refine kc h ?_ ?_ <;> intro h
 conv => whnf
 exact ⟨false, ss h, rfl⟩
 conv => whnf
 exact ⟨true, ss h, rfl⟩
 rintro _ ⟨q02, h, rfl⟩
 replace h := b0J _ h
 obtain ⟨R0K, h, a0K, b0K⟩ := sc h
 refine kX (fun σ => ∃ q0L, R0K (.inr q0L) ∧ σ = ⟨[pT 10, (12, iD v0A), (13, bD qU), (16, bD q02), (70, bD q0L)], [eV (.s 10) [ci op8, .str nm9, .str toA, .isl .str nsB, ci v6, ci loC, ci hiG, .int .u8 sepH, ci kI, ci nJ, .str sK, .isl .fld fM, .isl .two prsN, .isl .lens ks5]]⟩) ?_ ?_
 refine kL [] (h325 _ _ ?_ (sb h))
 rintro op2B nm2C to2D ns2E n2F lo2G hi2H sep2I k2J n2K s2L f2M prs2N ks2O h
 refine kL [] (h94 _ _ _ _ _ _ _ _ _ _ _ _ _ _ _ _ ?_ (sb h))
 rintro v2P h
 refine kc h ?_ ?_ <;> intro h
 conv => whnf
 exact ⟨false, ss h, rfl⟩
 refine kL [] (h94 _ _ _ _ _ _ _ _ _ _ _ _ _ _ _ _ ?_ (sb h))
 rintro v2Q h
 refine kc h ?_ ?_ <;> intro h
 conv => whnf
 exact ⟨false, ss h, rfl⟩
 conv => whnf
 exact ⟨true, ss h, rfl⟩
 rintro _ ⟨q0L, h, rfl⟩
 replace h := b0K _ h
 obtain ⟨R0M, h, a0M, b0M⟩ := sc h
 refine kX (fun σ => ∃ q0N, R0M (.inr q0N) ∧ σ = ⟨[pT 10, (13, bD qU), (16, bD q02), (77, bD q0N)], [eV (.s 10) [ci op8, .str nm9, .str toA, .isl .str nsB, ci v6, ci loC, ci hiG, .int .u8 sepH, ci kI, ci nJ, .str sK, .isl .fld fM, .isl .two prsN, .isl .lens ks5]]⟩) ?_ ?_
 cases q0L
 replace h := cf h
 conv => whnf
 exact ⟨false, ss h, rfl⟩
 replace h := ct h
 refine kL [] (h95 _ _ _ _ _ _ _ _ _ _ _ _ _ _ _ _ ?_ (sb h))
 rintro v2R h
 refine kc h ?_ ?_ <;> intro h
 conv => whnf
 exact ⟨false, ss h, rfl⟩
 conv => whnf
 exact ⟨true, ss h, rfl⟩
 rintro _ ⟨q0N, h, rfl⟩
 replace h := b0M _ h
 obtain ⟨R0O, h, a0O, b0O⟩ := sc h
 refine kX (fun σ => ∃ q0Y, R0O (.inr q0Y) ∧ σ = ⟨[(87, bD q0Y)], []⟩) ?_ ?_
 cases q0N
 replace h := cf h
 conv => whnf
 exact ⟨false, ss h, rfl⟩
 replace h := ct h
 refine kL [] (h70 _ _ _ _ _ _ _ _ _ _ _ _ _ _ _ _ ?_ (sb h))
 rintro v2S h
 refine kc h ?_ ?_ <;> intro h
 cases qU
 replace h := cf h
 conv => whnf
 exact ⟨true, ss h, rfl⟩
 replace h := ct h
 cases q02
 replace h := cf h
 conv => whnf
 exact ⟨true, ss h, rfl⟩
 replace h := ct h
 conv => whnf
 exact ⟨false, ss h, rfl⟩
 cases qU
 replace h := cf h
 conv => whnf
 exact ⟨false, ss h, rfl⟩
 replace h := ct h
 cases q02
 replace h := cf h
 conv => whnf
 exact ⟨false, ss h, rfl⟩
 replace h := ct h
 conv => whnf
 exact ⟨true, ss h, rfl⟩
 rintro _ ⟨q0Y, h, rfl⟩
 replace h := b0O _ h
 exact kR [] (ND 0) (hQ _ (ss h))
 obtain ⟨R0D, h, a0D, b0D⟩ := sc h
 refine kX (fun σ => ∃ v0P v0E qW, R0D (.inr (v0P, v0E, qW)) ∧ σ = ⟨[pT 10, (11, iD v0P), (12, iD v0E), (13, bD qW)], [eV (.s 10) [ci op8, .str nm9, .str toA, .isl .str nsB, ci v6, ci loC, ci hiG, .int .u8 sepH, ci kI, ci nJ, .str sK, .isl .fld fM, .isl .two prsN, .isl .lens ks5]]⟩) ?_ ?_
 intro hl0Z
 refine kX (fun σ n => ∃ (rem03 : List Ln) (jY : Nat) (z : Int) (v04 : Int) (vQ : Int) (q0F : Bool), n = rem03.length ∧ ks5.drop jY = rem03 ∧ z = ((jY : Nat) : Int) ∧ sat (f305_L4 fuel rem03 jY v04 vQ q0F) R0D ∧ σ.keep [10, 11, 12, 13, 35, 36, 37] [(.s 10)] = ⟨[pT 10, (11, iD v04), (12, iD vQ), (13, bD q0F), (35, .c (.isl .lens ks5)), (36, iD ((ks5.length : Nat) : Int)), (37, iD z)], [eV (.s 10) [ci op8, .str nm9, .str toA, .isl .str nsB, ci v6, ci loC, ci hiG, .int .u8 sepH, ci kI, ci nJ, .str sK, .isl .fld fM, .isl .two prsN, .isl .lens ks5]]⟩) ⟨_, ks5, 0, _, (1 : Int), (0 : Int), true, rfl, rfl, rfl, h, rfl⟩ ?_
 rintro σ n ⟨rem03, jY, _, v04, vQ, q0F, rfl, hrem03, rfl, h, hσ⟩
 refine kk hσ ?_
 intro t0G (ht0G : t0G = decide (((jY : Nat) : Int) < ((ks5.length : Nat) : Int)))
 cases t0G
 obtain rfl := ll_nil hrem03 ht0G
 rw [f305_L4] at h
 conv => whnf
 exact ⟨v04, vQ, q0F, ss h, rfl⟩
 obtain ⟨x05, tlS, rfl, hx05, htlS⟩ := ll_cons hrem03 ht0G
 obtain ⟨op2T, nm2U, to2V, ns2W, n2X, lo2Y, hi2Z, sep30, ⟨k31, n32, s33, f34⟩, prs35, ks36⟩ := x05
 rw [f305_L4] at h
 conv => whnf
 refine ⟨lx_bd hx05, fun uu14 huu14 => ?_⟩
 obtain rfl := lx_eq hx05 huu14
 refine kL [] (h94 _ _ _ _ _ _ _ _ _ _ _ _ _ _ _ _ ?_ (sb h))
 rintro v10 h
 refine kL [] (h95 _ _ _ _ _ _ _ _ _ _ _ _ _ _ _ _ ?_ (sb h))
 rintro v08 h
 cases q0F
 replace h := cf h
 conv => whnf
 exact ⟨tlS.length, nls, tlS, jY + 1, _, (wrap .i64 (v04 + v10)), (if v08 > vQ then v08 else vQ), false, rfl, htlS, lx_wr hx05 hl0Z, h, rfl⟩
 replace h := ct h
 refine kL [] (h70 _ _ _ _ _ _ _ _ _ _ _ _ _ _ _ _ ?_ (sb h))
 rintro v37 h
 refine kc h ?_ ?_ <;> intro h
 conv => whnf
 exact ⟨tlS.length, nls, tlS, jY + 1, _, (wrap .i64 (v04 + v10)), (if v08 > vQ then v08 else vQ), false, rfl, htlS, lx_wr hx05 hl0Z, h, rfl⟩
 conv => whnf
 exact ⟨tlS.length, nls, tlS, jY + 1, _, (wrap .i64 (v04 + v10)), (if v08 > vQ then v08 else vQ), true, rfl, htlS, lx_wr hx05 hl0Z, h, rfl⟩
 rintro _ ⟨v0P, v0E, qW, h, rfl⟩
 replace h := b0D _ h
 obtain ⟨R0Q, h, a0Q, b0Q⟩ := sc h
 refine kX (fun σ => ∃ q06, R0Q (.inr q06) ∧ σ = ⟨[pT 10, (11, iD v0P), (12, iD v0E), (13, bD qW), (16, bD q06)], [eV (.s 10) [ci op8, .str nm9, .str toA, .isl .str nsB, ci v6, ci loC, ci hiG, .int .u8 sepH, ci kI, ci nJ, .str sK, .isl .fld fM, .isl .two prsN, .isl .lens ks5]]⟩) ?_ ?_
 refine kc h ?_ ?_ <;> intro h
 conv => whnf
 exact ⟨false, ss h, rfl⟩
 refine kc h ?_ ?_ <;> intro h
 conv => whnf
 exact ⟨false, ss h, rfl⟩
 conv => whnf
 exact ⟨true, ss h, rfl⟩
 rintro _ ⟨q06, h, rfl⟩
 replace h := b0Q _ h
 obtain ⟨R0R, h, a0R, b0R⟩ := sc h
 refine kX (fun σ => ∃ q0S, R0R (.inr q0S) ∧ σ = ⟨[pT 10, (12, iD v0E), (13, bD qW), (16, bD q06), (70, bD q0S)], [eV (.s 10) [ci op8, .str nm9, .str toA, .isl .str nsB, ci v6, ci loC, ci hiG, .int .u8 sepH, ci kI, ci nJ, .str sK, .isl .fld fM, .isl .two prsN, .isl .lens ks5]]⟩) ?_ ?_
 refine kL [] (h325 _ _ ?_ (sb h))
 rintro op38 nm39 to3A ns3B n3C lo3D hi3E sep3F k3G n3H s3I f3J prs3K ks3L h
 refine kL [] (h94 _ _ _ _ _ _ _ _ _ _ _ _ _ _ _ _ ?_ (sb h))
 rintro v3M h
 refine kc h ?_ ?_ <;> intro h
 conv => whnf
 exact ⟨false, ss h, rfl⟩
 refine kL [] (h94 _ _ _ _ _ _ _ _ _ _ _ _ _ _ _ _ ?_ (sb h))
 rintro v3N h
 refine kc h ?_ ?_ <;> intro h
 conv => whnf
 exact ⟨false, ss h, rfl⟩
 conv => whnf
 exact ⟨true, ss h, rfl⟩
 rintro _ ⟨q0S, h, rfl⟩
 replace h := b0R _ h
 obtain ⟨R0T, h, a0T, b0T⟩ := sc h
 refine kX (fun σ => ∃ q0U, R0T (.inr q0U) ∧ σ = ⟨[pT 10, (13, bD qW), (16, bD q06), (77, bD q0U)], [eV (.s 10) [ci op8, .str nm9, .str toA, .isl .str nsB, ci v6, ci loC, ci hiG, .int .u8 sepH, ci kI, ci nJ, .str sK, .isl .fld fM, .isl .two prsN, .isl .lens ks5]]⟩) ?_ ?_
 cases q0S
 replace h := cf h
 conv => whnf
 exact ⟨false, ss h, rfl⟩
 replace h := ct h
 refine kL [] (h95 _ _ _ _ _ _ _ _ _ _ _ _ _ _ _ _ ?_ (sb h))
 rintro v3O h
 refine kc h ?_ ?_ <;> intro h
 conv => whnf
 exact ⟨false, ss h, rfl⟩
 conv => whnf
 exact ⟨true, ss h, rfl⟩
 rintro _ ⟨q0U, h, rfl⟩
 replace h := b0T _ h
 obtain ⟨R0V, h, a0V, b0V⟩ := sc h
 refine kX (fun σ => ∃ q11, R0V (.inr q11) ∧ σ = ⟨[(87, bD q11)], []⟩) ?_ ?_
 cases q0U
 replace h := cf h
 conv => whnf
 exact ⟨false, ss h, rfl⟩
 replace h := ct h
 refine kL [] (h70 _ _ _ _ _ _ _ _ _ _ _ _ _ _ _ _ ?_ (sb h))
 rintro v3P h
 refine kc h ?_ ?_ <;> intro h
 cases qW
 replace h := cf h
 conv => whnf
 exact ⟨true, ss h, rfl⟩
 replace h := ct h
 cases q06
 replace h := cf h
 conv => whnf
 exact ⟨true, ss h, rfl⟩
 replace h := ct h
 conv => whnf
 exact ⟨false, ss h, rfl⟩
 cases qW
 replace h := cf h
 conv => whnf
 exact ⟨false, ss h, rfl⟩
 replace h := ct h
 cases q06
 replace h := cf h
 conv => whnf
 exact ⟨false, ss h, rfl⟩
 replace h := ct h
 conv => whnf
 exact ⟨true, ss h, rfl⟩
 rintro _ ⟨q11, h, rfl⟩
 replace h := b0V _ h
 exact kR [] (ND 0) (hQ _ (ss h))
end Go.Clap
