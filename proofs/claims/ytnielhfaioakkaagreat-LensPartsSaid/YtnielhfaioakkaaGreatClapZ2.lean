/- The checks of the small code against the loaded functions. -/
import Derived.Test.YtnielhfaioakkaaGreatClapZ1
set_option linter.unusedVariables false
set_option linter.unusedSimpArgs false
set_option maxHeartbeats 4000000
set_option maxRecDepth 100000
namespace Go.Clap
open Go.IntKind (wrap)
def f141c_L1 (wA : Int) (wB : Int) (wC : Int) (wE : Int) : Nat → Int → Int → Int → Int → Int → Option N4
 | 0, v5, v6, v7, v8, v9 => some (v6, v7, v8, v9)
 | gF + 1, v5, v6, v7, v8, v9 => caseI v5 [f141c_L1 wA wB wC wE gF (v5 + 1) (bOr .u64 v6 wA) v7 v8 v9, f141c_L1 wA wB wC wE gF (v5 + 1) v6 (bOr .u64 v7 wB) v8 v9, f141c_L1 wA wB wC wE gF (v5 + 1) v6 v7 (bOr .u64 v8 wC) v9, f141c_L1 wA wB wC wE gF (v5 + 1) v6 v7 v8 (bOr .u64 v9 wE)]
def f141c : N4 → Int → Int → Int → Int → Option N4
 | (w5, w6, w7, w8), v9, vA, vB, vC => grdP ((4 : Int) ≤ 9223372036854775807) (f141c_L1 w5 w6 w7 w8 ((4 : Int) - 0).toNat 0 v9 vA vB vC)
def C141c (O : Oracle TT) (m : N4 → Int → Int → Int → Int → Option N4) : Prop :=
 ∀ w5 w6 w7 w8 v9 vA vB vC (Q : N4 → Prop) (R : RR) (_ : ∀ vE vF vG vH, Q (vE, vF, vG, vH) → R (.tup []) [eV (.x 0) [.int .u64 vE, .int .u64 vF, .int .u64 vG, .int .u64 vH]]) (_ : sat (m (w5, w6, w7, w8) v9 vA vB vC) Q), O 141 [pX 0, .agg [.int .u64 w5, .int .u64 w6, .int .u64 w7, .int .u64 w8]] [eV (.x 0) [.int .u64 v9, .int .u64 vA, .int .u64 vB, .int .u64 vC]] R
def j141c : Fn TT := ⟨20, [], (sr [qo 3 (.box 3 1)] (sr [qo 5 (.mv (iC 0))] (.block 0 (.loop (.keep [0, 3, 5] [(.x 0), (.s 3)] (.aft (sr [qo 6 (.bin .lss .num 5 (iC 4))] (.seq (.cond 6 .skip (.exit 0)) (.seq (.block 1 (sr [qm 7 5,qm 4 7] (.drw [] (oR 12) [11] (List.range 11) [qm 8 0,qm 9 4,qo 10 (.nilck 8),qo 11 (.idxC 10 9 1 4),
 qo 12 (ld 11),qm 13 4,qo 14 (.idxC 3 13 1 4),qo 15 (ld 14),qo 16 (.bin .or .num 12 15),qo 17 (.nilck 8),qo 18 (.idxC 17 9 1 4),qp (.store 18 16 1)]))) (.reg [qo 19 (.bin .add .num 5 (iC 1)),qm 5 19])))) [.keep [0, 3, 5] [(.x 0), (.s 3)]]))))))⟩
theorem w141c {O : Oracle TT} : C141c (fun _ => vcF (S := SS) O j141c) f141c := by
 intro wF wG wH wI vR vS vT vU Q R hQ h
 unfold f141c at h
 refine ⟨nle rfl, rfl, ?_⟩
 obtain ⟨hNV, h⟩ := sat_grdP h
 refine kX (fun σ n => ∃ (f8 : Nat) (v7 : Int) (z : Int) (v9 : Int) (vA : Int) (vB : Int) (vC : Int), f8 = n ∧ f8 = (4 - v7).toNat ∧ 0 ≤ v7 ∧ v7 = z ∧ sat (f141c_L1 wF wG wH wI f8 v7 v9 vA vB vC) Q ∧ σ.keep [0, 3, 5] [(.x 0), (.s 3)] = ⟨[(0, pX 0), pT 3, (5, iD z)], [eV (.x 0) [.int .u64 v9, .int .u64 vA, .int .u64 vB, .int .u64 vC], eV (.s 3) [.int .u64 wF, .int .u64 wG, .int .u64 wH, .int .u64 wI]]⟩) ⟨_, _, 0, _, vR, vS, vT, vU, rfl, rfl, (by decide), rfl, h, rfl⟩ ?_
 rintro σ n ⟨f8, v7, _, v9, vA, vB, vC, rfl, hf8, hpf8, rfl, h, hσ⟩
 refine kk hσ ?_
 intro tE (htE : tE = decide (v7 < 4))
 cases tE
 obtain rfl := il_nil hf8 htE
 rw [f141c_L1] at h
 exact kR [] (ND 1) (hQ _ _ _ _ (ss h))
 obtain ⟨g5, rfl, hwg5, hpg5, hfg5⟩ := il_cons hf8 hpf8 htE hNV
 rw [f141c_L1] at h
 conv => whnf
 obtain ⟨hbj6, h⟩ := sat_caseI h
 refine ⟨hbj6, fun j6 hj6 => ?_⟩
 replace h := h j6 hj6
 replace hbj6 : (0 : Int) ≤ v7 ∧ v7 < 4 := hbj6
 have hcj6 : j6 = 0 ∨ j6 = 1 ∨ j6 = 2 ∨ j6 = 3 := by omega
 rcases hcj6 with rfl | rfl | rfl | rfl
 replace h := sat_j0 h
 conv => whnf
 refine ⟨⟨by omega, by omega⟩, fun jJ hjJ => ?_⟩
 obtain rfl : jJ = 0 := by omega
 conv => whnf
 refine ⟨⟨by omega, by omega⟩, fun jK hjK => ?_⟩
 obtain rfl : jK = 0 := by omega
 conv => whnf
 exact ⟨g5, nls, g5, v7 + 1, _, (bOr .u64 v9 wF), vA, vB, vC, rfl, hfg5, hpg5, hwg5.symm, h, rfl⟩
 replace h := sat_j1 h
 conv => whnf
 refine ⟨⟨by omega, by omega⟩, fun jL hjL => ?_⟩
 obtain rfl : jL = 1 := by omega
 conv => whnf
 refine ⟨⟨by omega, by omega⟩, fun jM hjM => ?_⟩
 obtain rfl : jM = 1 := by omega
 conv => whnf
 exact ⟨g5, nls, g5, v7 + 1, _, v9, (bOr .u64 vA wG), vB, vC, rfl, hfg5, hpg5, hwg5.symm, h, rfl⟩
 replace h := sat_j2 h
 conv => whnf
 refine ⟨⟨by omega, by omega⟩, fun jN hjN => ?_⟩
 obtain rfl : jN = 2 := by omega
 conv => whnf
 refine ⟨⟨by omega, by omega⟩, fun jO hjO => ?_⟩
 obtain rfl : jO = 2 := by omega
 conv => whnf
 exact ⟨g5, nls, g5, v7 + 1, _, v9, vA, (bOr .u64 vB wH), vC, rfl, hfg5, hpg5, hwg5.symm, h, rfl⟩
 replace h := sat_j3 h
 conv => whnf
 refine ⟨⟨by omega, by omega⟩, fun jP hjP => ?_⟩
 obtain rfl : jP = 3 := by omega
 conv => whnf
 refine ⟨⟨by omega, by omega⟩, fun jQ hjQ => ?_⟩
 obtain rfl : jQ = 3 := by omega
 conv => whnf
 exact ⟨g5, nls, g5, v7 + 1, _, v9, vA, vB, (bOr .u64 vC wI), rfl, hfg5, hpg5, hwg5.symm, h, rfl⟩
def f112_L2 (wA : Int) (wB : Int) (wC : Int) (wE : Int) : L4 → Nat → Int → Int → Int → Int → Option (Sum (N4) N4)
 | [], j5, v6, v7, v8, v9 => some (.inr (v6, v7, v8, v9))
 | ((wG, wH, wI, wJ)) :: tlF, j5, v6, v7, v8, v9 => (f140 ((j5 : Nat) : Int) wA wB wC wE).bind fun qK => cond qK ((f141c (wG, wH, wI, wJ) v6 v7 v8 v9).bind fun (vL, vM, vN, vO) => f112_L2 wA wB wC wE tlF (j5 + 1) vL vM vN vO) (f112_L2 wA wB wC wE tlF (j5 + 1) v6 v7 v8 v9)
def f112 : N4 → L4 → L4 → Bool → Int → Int → Int → Int → Int → Int → Int → Int → Option (N4)
 | (w5, w6, w7, w8), lF, l9, qG, vH, vI, vJ, vK, vL, vM, vN, vO => sbind (ο := Int × Int × Int × Int) (f112_L2 w5 w6 w7 w8 l9 0 (0 : Int) (0 : Int) (0 : Int) (0 : Int)) (fun (vA, vB, vC, vE) => some (vA, vB, vC, vE))
def C112 (O : Oracle TT) (m : N4 → L4 → L4 → Bool → Int → Int → Int → Int → Int → Int → Int → Int → Option (N4)) : Prop :=
 ∀ wH wI wJ wK l5 l6 q7 v8 v9 vA vB vC vE vF vG (Q : N4 → Prop) (R : RR) (_ : ∀ wL wM wN wO, Q (wL, wM, wN, wO) → R (.agg [.int .u64 wL, .int .u64 wM, .int .u64 wN, .int .u64 wO]) [eV (.x 0) [.isl .set4 l5, .isl .set4 l6, .bool q7, .int .u64 v8, .int .u64 v9, .int .u64 vA, .int .u64 vB, .int .u64 vC, .int .u64 vE, .int .u64 vF, .int .u64 vG]]) (_ : sat (m (wH, wI, wJ, wK) l5 l6 q7 v8 v9 vA vB vC vE vF vG) Q), O 112 [pX 0, .agg [.int .u64 wH, .int .u64 wI, .int .u64 wJ, .int .u64 wK]] [eV (.x 0) [.isl .set4 l5, .isl .set4 l6, .bool q7, .int .u64 v8, .int .u64 v9, .int .u64 vA, .int .u64 vB, .int .u64 vC, .int .u64 vE, .int .u64 vF, .int .u64 vG]] R
def j112 : Fn TT := ⟨27, [.cell 4 4 true], (sr [qo 3 (.box 3 1),qo 4 (.alloc 4 [.int .u64 0, .int .u64 0, .int .u64 0, .int .u64 0])] (sr [qo 5 (.alloc 5 [.int .u64 0, .int .u64 0, .int .u64 0, .int .u64 0])] (.cut [4, 5] [(.s 4), (.s 5), (.x 0)] (sr [qm 7 0,qo 8 (.nilck 7),qo 9 (.fa 8 1),qo 10 (ld 9),qo 11 (.len false 10),
 qo 12 (.mv (iC 0))] (.block 0 (.loop (.keep [0, 3, 4, 5, 11, 12] [(.x 0), (.s 3), (.s 4), (.s 5)] (.aft (sr [qo 13 (.bin .lss .num 12 11)] (.seq (.cond 13 .skip (.exit 0)) (.seq (.block 1 (sr [qm 14 12,qm 6 14] (sr [qm 15 6,qo 16 (.call 16 140 [3, 15])] (.cond 16 (.reg [qm 17 0,qo 18 (.nilck 17),qo 19 (.fa 18 1),qo 20 (ld 19),
 qm 21 6,qo 22 (.idxA 20 21 4),qo 23 (.load 22 4 true),qo 24 (.call 24 141 [5, 23])]) .skip)))) (.reg [qo 25 (.bin .add .num 12 (iC 1)),qm 12 25])))) [.keep [0, 3, 4, 5, 11, 12] [(.x 0), (.s 3), (.s 4), (.s 5)]]))))) (sr [qo 26 (.load 5 4 true),qp (.store 4 26 4)] .ret))))⟩
theorem w112 {O : Oracle TT} (h140 : C140 O f140) (h141c : C141c O f141c) : C112 (fun _ => vcF (S := SS) O j112) f112 := by
 intro wN wO wP wQ lS l9 qU vV vW vY vZ v00 v01 v02 v03 Q R hQ h
 unfold f112 at h
 refine ⟨nle rfl, rfl, ?_⟩
 obtain ⟨RB, h, aB, bB⟩ := sc h
 refine kX (fun σ => ∃ vJ vK vL vM, RB (.inr (vJ, vK, vL, vM)) ∧ σ = ⟨[pT 4, pT 5], [eV (.s 4) [.int .u64 0, .int .u64 0, .int .u64 0, .int .u64 0], eV (.s 5) [.int .u64 vJ, .int .u64 vK, .int .u64 vL, .int .u64 vM], eV (.x 0) [.isl .set4 lS, .isl .set4 l9, .bool qU, .int .u64 vV, .int .u64 vW, .int .u64 vY, .int .u64 vZ, .int .u64 v00, .int .u64 v01, .int .u64 v02, .int .u64 v03]]⟩) ?_ ?_
 intro hl04
 refine kX (fun σ n => ∃ (rem5 : L4) (j6 : Nat) (z : Int) (vC : Int) (vE : Int) (vG : Int) (vH : Int), n = rem5.length ∧ l9.drop j6 = rem5 ∧ z = ((j6 : Nat) : Int) ∧ sat (f112_L2 wN wO wP wQ rem5 j6 vC vE vG vH) RB ∧ σ.keep [0, 3, 4, 5, 11, 12] [(.x 0), (.s 3), (.s 4), (.s 5)] = ⟨[(0, pX 0), pT 3, pT 4, pT 5, (11, iD ((l9.length : Nat) : Int)), (12, iD z)], [eV (.x 0) [.isl .set4 lS, .isl .set4 l9, .bool qU, .int .u64 vV, .int .u64 vW, .int .u64 vY, .int .u64 vZ, .int .u64 v00, .int .u64 v01, .int .u64 v02, .int .u64 v03], eV (.s 3) [.int .u64 wN, .int .u64 wO, .int .u64 wP, .int .u64 wQ], eV (.s 4) [.int .u64 0, .int .u64 0, .int .u64 0, .int .u64 0], eV (.s 5) [.int .u64 vC, .int .u64 vE, .int .u64 vG, .int .u64 vH]]⟩) ⟨_, l9, 0, _, (0 : Int), (0 : Int), (0 : Int), (0 : Int), rfl, rfl, rfl, h, rfl⟩ ?_
 rintro σ n ⟨rem5, j6, _, vC, vE, vG, vH, rfl, hrem5, rfl, h, hσ⟩
 refine kk hσ ?_
 intro tI (htI : tI = decide (((j6 : Nat) : Int) < ((l9.length : Nat) : Int)))
 cases tI
 obtain rfl := ll_nil hrem5 htI
 rw [f112_L2] at h
 conv => whnf
 exact ⟨vC, vE, vG, vH, ss h, rfl⟩
 obtain ⟨xA, tl8, rfl, hxA, htl8⟩ := ll_cons hrem5 htI
 obtain ⟨w0B, w0C, w0D, w0E⟩ := xA
 rw [f112_L2] at h
 refine kL [(.s 3)] (h140 _ _ _ _ _ _ _ ?_ (sb h))
 rintro q06 h
 cases q06
 replace h := cf h
 conv => whnf
 exact ⟨tl8.length, nls, tl8, j6 + 1, _, vC, vE, vG, vH, rfl, htl8, lx_wr hxA hl04, h, rfl⟩
 replace h := ct h
 conv => whnf
 refine ⟨lx_bd hxA, fun uu05 huu05 => ?_⟩
 obtain rfl := lx_eq hxA huu05
 refine kL [(.s 5)] (h141c _ _ _ _ _ _ _ _ _ _ ?_ (sb h))
 rintro v07 v08 v09 v0A h
 conv => whnf
 exact ⟨tl8.length, nls, tl8, j6 + 1, _, v07, v08, v09, v0A, rfl, htl8, lx_wr hxA hl04, h, rfl⟩
 rintro _ ⟨vJ, vK, vL, vM, h, rfl⟩
 replace h := bB _ h
 exact kR [] (ND 1) (hQ _ _ _ _ (ss h))
def f113_L2 (w7 : Int) (w8 : Int) (w9 : Int) (wA : Int) (vB : Int) (vC : Int) (vE : Int) (vF : Int) (q5 : Bool) : Nat → Int → Option (Sum (Bool × Bool) (Unit))
 | 0, v6 => some (.inr ())
 | gG + 1, v6 => caseI v6 [cond ((bAnd .u64 w7 vB) != 0) (lft (some (true, q5))) (f113_L2 w7 w8 w9 wA vB vC vE vF q5 gG (v6 + 1)), cond ((bAnd .u64 w8 vC) != 0) (lft (some (true, q5))) (f113_L2 w7 w8 w9 wA vB vC vE vF q5 gG (v6 + 1)), cond ((bAnd .u64 w9 vE) != 0) (lft (some (true, q5))) (f113_L2 w7 w8 w9 wA vB vC vE vF q5 gG (v6 + 1)), cond ((bAnd .u64 wA vF) != 0) (lft (some (true, q5))) (f113_L2 w7 w8 w9 wA vB vC vE vF q5 gG (v6 + 1))]
def f113 : N4 → L4 → L4 → Bool → Int → Int → Int → Int → Int → Int → Int → Int → Option (Bool × Bool)
 | (w5, w6, w7, w8), lH, lI, q9, vJ, vK, vL, vM, vB, vC, vE, vF => sbind (ο := Bool) ((f140 (0 : Int) w5 w6 w7 w8).bind fun qG => cond qG (cond q9 (lft (some (true, true))) (some (.inr false))) (some (.inr q9))) (fun qA => sbind (ο := Unit) (grdP ((4 : Int) ≤ 9223372036854775807) (f113_L2 w5 w6 w7 w8 vB vC vE vF qA ((4 : Int) - 0).toNat 0)) (fun () => some (false, qA)))
def C113 (O : Oracle TT) (m : N4 → L4 → L4 → Bool → Int → Int → Int → Int → Int → Int → Int → Int → Option (Bool × Bool)) : Prop :=
 ∀ wG wH wI wJ l5 l6 qK v7 v8 v9 vA vB vC vE vF (Q : (Bool × Bool) → Prop) (R : RR) (_ : ∀ qL qM, Q (qL, qM) → R (bD qL) [eV (.x 0) [.isl .set4 l5, .isl .set4 l6, .bool qM, .int .u64 v7, .int .u64 v8, .int .u64 v9, .int .u64 vA, .int .u64 vB, .int .u64 vC, .int .u64 vE, .int .u64 vF]]) (_ : sat (m (wG, wH, wI, wJ) l5 l6 qK v7 v8 v9 vA vB vC vE vF) Q), O 113 [pX 0, .agg [.int .u64 wG, .int .u64 wH, .int .u64 wI, .int .u64 wJ]] [eV (.x 0) [.isl .set4 l5, .isl .set4 l6, .bool qK, .int .u64 v7, .int .u64 v8, .int .u64 v9, .int .u64 vA, .int .u64 vB, .int .u64 vC, .int .u64 vE, .int .u64 vF]] R
def j113 : Fn TT := ⟨30, [.t 4], (sr [qo 3 (.box 3 1),qm 4 bF] (.cut [0, 3] [(.x 0), (.s 3)] (sr [qo 6 (.call 6 140 [3, (iC 0)]),qm 7 6,qg 7 8 (.mv 0),qg 7 9 (.nilck 8),qg 7 10 (.fa 9 2),qg 7 11 (.fa 10 0),qg 7 12 (ld 11),qo 13 (.pick 7 12 bF)] (.cond 13 (sr [qm 4 bT] .ret) .skip)) (.cut [] [(.x 0)] (.seq
 (.reg [qo 14 (.mv (iC 0))]) (.block 0 (.loop (.keep [0, 3, 14] [(.x 0), (.s 3)] (.aft (sr [qo 15 (.bin .lss .num 14 (iC 4))] (.seq (.cond 15 .skip (.exit 0)) (.seq (.block 1 (sr [qm 16 14,qm 5 16] (.seq (.drw [] (oR 12) [] (List.range 12) [qm 17 5,qo 18 (.idxC 3 17 1 4),qo 19 (ld 18),qm 20 0,qm 21 5,qo 22 (.nilck 20),
 qo 23 (.fa 22 2),qo 24 (.fa 23 5),qo 25 (.idxC 24 21 1 4),qo 26 (ld 25),qo 27 (.bin .and .num 19 26),qo 28 (.bin .neq .num 27 (.c (.int .u64 0)))]) (.cond 28 (sr [qm 4 bT] .ret) .skip)))) (.reg [qo 29 (.bin .add .num 14 (iC 1)),qm 14 29])))) [.keep [0, 3, 14] [(.x 0), (.s 3)]]))))) (sr [qm 4 bF] .ret))))⟩
theorem w113 {O : Oracle TT} (h140 : C140 O f140) : C113 (fun _ => vcF (S := SS) O j113) f113 := by
 intro wJ wK wL wM lN lO qV vP vQ vS vU vE vG vH vI Q R hQ h
 unfold f113 at h
 refine ⟨nle rfl, rfl, ?_⟩
 obtain ⟨RB, h, aB, bB⟩ := sc h
 refine kX (fun σ => ∃ qA, RB (.inr qA) ∧ σ = ⟨[(0, pX 0), pT 3], [eV (.x 0) [.isl .set4 lN, .isl .set4 lO, .bool qA, .int .u64 vP, .int .u64 vQ, .int .u64 vS, .int .u64 vU, .int .u64 vE, .int .u64 vG, .int .u64 vH, .int .u64 vI], eV (.s 3) [.int .u64 wJ, .int .u64 wK, .int .u64 wL, .int .u64 wM]]⟩) ?_ ?_
 refine kL [(.s 3)] (h140 _ _ _ _ _ _ _ ?_ (sb h))
 rintro q01 h
 cases q01
 replace h := cf h
 conv => whnf
 exact ⟨qV, ss h, rfl⟩
 replace h := ct h
 cases qV
 replace h := cf h
 conv => whnf
 exact ⟨false, ss h, rfl⟩
 replace h := ct h
 replace h := sat_lft aB h
 exact kR [] (ND 1) (hQ _ _ (ss h))
 rintro _ ⟨qA, h, rfl⟩
 replace h := bB _ h
 obtain ⟨R8, h, a8, b8⟩ := sc h
 refine kX (fun σ => R8 (.inr ()) ∧ σ = ⟨[], [eV (.x 0) [.isl .set4 lN, .isl .set4 lO, .bool qA, .int .u64 vP, .int .u64 vQ, .int .u64 vS, .int .u64 vU, .int .u64 vE, .int .u64 vG, .int .u64 vH, .int .u64 vI]]⟩) ?_ ?_
 obtain ⟨hN02, h⟩ := sat_grdP h
 refine kX (fun σ n => ∃ (f9 : Nat) (v7 : Int) (z : Int), f9 = n ∧ f9 = (4 - v7).toNat ∧ 0 ≤ v7 ∧ v7 = z ∧ sat (f113_L2 wJ wK wL wM vE vG vH vI qA f9 v7) R8 ∧ σ.keep [0, 3, 14] [(.x 0), (.s 3)] = ⟨[(0, pX 0), pT 3, (14, iD z)], [eV (.x 0) [.isl .set4 lN, .isl .set4 lO, .bool qA, .int .u64 vP, .int .u64 vQ, .int .u64 vS, .int .u64 vU, .int .u64 vE, .int .u64 vG, .int .u64 vH, .int .u64 vI], eV (.s 3) [.int .u64 wJ, .int .u64 wK, .int .u64 wL, .int .u64 wM]]⟩) ⟨_, _, 0, _, rfl, rfl, (by decide), rfl, h, rfl⟩ ?_
 rintro σ n ⟨f9, v7, _, rfl, hf9, hpf9, rfl, h, hσ⟩
 refine kk hσ ?_
 intro tC (htC : tC = decide (v7 < 4))
 cases tC
 obtain rfl := il_nil hf9 htC
 rw [f113_L2] at h
 conv => whnf
 exact ⟨ss h, rfl⟩
 obtain ⟨g5, rfl, hwg5, hpg5, hfg5⟩ := il_cons hf9 hpf9 htC hN02
 rw [f113_L2] at h
 conv => whnf
 obtain ⟨hbj6, h⟩ := sat_caseI h
 refine ⟨hbj6, fun j6 hj6 => ?_⟩
 replace h := h j6 hj6
 replace hbj6 : (0 : Int) ≤ v7 ∧ v7 < 4 := hbj6
 have hcj6 : j6 = 0 ∨ j6 = 1 ∨ j6 = 2 ∨ j6 = 3 := by omega
 rcases hcj6 with rfl | rfl | rfl | rfl
 replace h := sat_j0 h
 conv => whnf
 refine ⟨⟨by omega, by omega⟩, fun jW hjW => ?_⟩
 obtain rfl : jW = 0 := by omega
 refine kc h ?_ ?_ <;> intro h
 conv => whnf
 exact ⟨g5, nls, g5, v7 + 1, _, rfl, hfg5, hpg5, hwg5.symm, h, rfl⟩
 replace h := sat_lft a8 h
 exact kR [] (ND 1) (hQ _ _ (ss h))
 replace h := sat_j1 h
 conv => whnf
 refine ⟨⟨by omega, by omega⟩, fun jY hjY => ?_⟩
 obtain rfl : jY = 1 := by omega
 refine kc h ?_ ?_ <;> intro h
 conv => whnf
 exact ⟨g5, nls, g5, v7 + 1, _, rfl, hfg5, hpg5, hwg5.symm, h, rfl⟩
 replace h := sat_lft a8 h
 exact kR [] (ND 1) (hQ _ _ (ss h))
 replace h := sat_j2 h
 conv => whnf
 refine ⟨⟨by omega, by omega⟩, fun jZ hjZ => ?_⟩
 obtain rfl : jZ = 2 := by omega
 refine kc h ?_ ?_ <;> intro h
 conv => whnf
 exact ⟨g5, nls, g5, v7 + 1, _, rfl, hfg5, hpg5, hwg5.symm, h, rfl⟩
 replace h := sat_lft a8 h
 exact kR [] (ND 1) (hQ _ _ (ss h))
 replace h := sat_j3 h
 conv => whnf
 refine ⟨⟨by omega, by omega⟩, fun j00 hj00 => ?_⟩
 obtain rfl : j00 = 3 := by omega
 refine kc h ?_ ?_ <;> intro h
 conv => whnf
 exact ⟨g5, nls, g5, v7 + 1, _, rfl, hfg5, hpg5, hwg5.symm, h, rfl⟩
 replace h := sat_lft a8 h
 exact kR [] (ND 1) (hQ _ _ (ss h))
 rintro _ ⟨h, rfl⟩
 replace h := b8 _ h
 exact kR [] (ND 1) (hQ _ _ (ss h))
def f86_L146 (l6 : L4) (v5 : Int) : Nat → Int → Int → Int → Int → Int → Option (Sum (Sum (Sum (Sum (Sum ((List LI) × (List Bool) × Int) ((List LI) × (List Bool))) (Bool × (List (N4 × Int)) × L4 × (List LI) × (List Bool))) ((List (N4 × Int)) × L4 × LI)) ((List (N4 × Int)) × L4 × LI)) N4)
 | 0, v7, v8, v9, vA, vB => some (.inr (v8, v9, vA, vB))
 | gC + 1, v7, v8, v9, vA, vB => caseI v7 [grdP ((0 : Int) ≤ v5 ∧ v5 < 256) (getN l6 v5.toNat fun uuE => match uuE with | (wF, wM, wN, wO) => f86_L146 l6 v5 gC (v7 + 1) (bAnd .u64 v8 wF) v9 vA vB), grdP ((0 : Int) ≤ v5 ∧ v5 < 256) (getN l6 v5.toNat fun uuG => match uuG with | (wP, wH, wQ, wR) => f86_L146 l6 v5 gC (v7 + 1) v8 (bAnd .u64 v9 wH) vA vB), grdP ((0 : Int) ≤ v5 ∧ v5 < 256) (getN l6 v5.toNat fun uuI => match uuI with | (wS, wT, wJ, wU) => f86_L146 l6 v5 gC (v7 + 1) v8 v9 (bAnd .u64 vA wJ) vB), grdP ((0 : Int) ≤ v5 ∧ v5 < 256) (getN l6 v5.toNat fun uuK => match uuK with | (wV, wW, wY, wL) => f86_L146 l6 v5 gC (v7 + 1) v8 v9 vA (bAnd .u64 vB wL))]
def f86_L142 (lU : L4) (wV : Int) (wW : Int) (wY : Int) (wZ : Int) : Nat → Int → (List (N4 × Int)) → L4 → LI → Option (Sum (Sum (Sum ((List LI) × (List Bool) × Int) ((List LI) × (List Bool))) (Bool × (List (N4 × Int)) × L4 × (List LI) × (List Bool))) ((List (N4 × Int)) × L4 × LI))
 | 0, vB, lE, lC, lG => some (.inr (lE, lC, lG))
 | g00 + 1, vB, lE, lC, lG => sbind (τ := Sum (Sum (Sum ((List LI) × (List Bool) × Int) ((List LI) × (List Bool))) (Bool × (List (N4 × Int)) × L4 × (List LI) × (List Bool))) ((List (N4 × Int)) × L4 × LI)) (ο := (List (N4 × Int)) × L4 × LI) (sbind (τ := Sum (Sum (Sum (Sum ((List LI) × (List Bool) × Int) ((List LI) × (List Bool))) (Bool × (List (N4 × Int)) × L4 × (List LI) × (List Bool))) ((List (N4 × Int)) × L4 × LI)) ((List (N4 × Int)) × L4 × LI)) (ο := Int × Int × Int × Int) (grdP ((4 : Int) ≤ 9223372036854775807) (f86_L146 lU vB ((4 : Int) - 0).toNat 0 wV wW wY wZ)) (fun (vH, vM, vO, vP) => match mget lE (vH, vM, vO, vP) with | none => grdP ((mget lE (vH, vM, vO, vP)).isNone = true) (grdP (lC.length + ([(vH, vM, vO, vP)] : L4).length ≤ 68719476736) (cond (decide ((((lC.length + ([(vH, vM, vO, vP)] : L4).length) : Nat) : Int) > 400)) (lft (lft (lft (lft (some ([], [], 2)))))) (grdP ((0 : Int) ≤ vB ∧ vB < 256) (getN lG vB.toNat fun h05 => some (.inr ((lE ++ [((vH, vM, vO, vP), (wrap .i16 ((lC.length : Nat) : Int)))]), (lC ++ ([(vH, vM, vO, vP)] : L4)), (lG.set vB.toNat (wrap .i16 ((lC.length : Nat) : Int))))))))) | some v01 => grdP ((0 : Int) ≤ vB ∧ vB < 256) (getN lG vB.toNat fun h06 => some (.inr (lE, lC, (lG.set vB.toNat v01)))))) (fun (l02, l03, l04) => f86_L142 lU wV wW wY wZ g00 (vB + 1) l02 l03 l04)
def f86_L110 (l7 : L4) (l8 : L4) (v9 : Int) (vA : Int) (vB : Int) (vC : Int) (vE : Int) (vF : Int) (vG : Int) (vH : Int) (lM : L4) : Nat → (List (N4 × Int)) → L4 → (List LI) → (List Bool) → Int → Bool → Option (Sum ((List LI) × (List Bool) × Int) ((List LI) × (List Bool)))
 | 0, _, _, _, _, _, _ => none
 | gP + 1, lQ, l6, lI, lJ, v5, qN => cond (decide (v5 < ((l6.length : Nat) : Int))) (sbind (ο := Bool × (List (N4 × Int)) × L4 × (List LI) × (List Bool)) (grdP ((0 : Int) ≤ v5 ∧ v5 < ((l6.length : Nat) : Int)) (getN l6 (0 + v5.toNat) fun uuR => match uuR with | (wS, wT, wU, wV) => (f112 (wS, wT, wU, wV) l7 l8 qN v9 vA vB vC vE vF vG vH).bind fun ((wW, wY, wZ, w00)) => sbind (ο := (List (N4 × Int)) × L4 × LI) (grdP ((256 : Int) ≤ 9223372036854775807) (f86_L142 lM wW wY wZ w00 ((256 : Int) - 0).toNat 0 lQ l6 (List.replicate 256 (0 : Int)))) (fun (l01, lK, lL) => grdP (lL.length = 256) (grdP (lI.length + ([lL] : List LI).length ≤ 68719476736) (grdP ((0 : Int) ≤ v5 ∧ v5 < ((lK.length : Nat) : Int)) (getN lK (0 + v5.toNat) fun uu02 => match uu02 with | (w03, w04, w05, w06) => (f113 (w03, w04, w05, w06) l7 l8 qN v9 vA vB vC vE vF vG vH).bind fun (qO, q07) => grdP (lJ.length + ([qO] : List Bool).length ≤ 68719476736) (some (.inr (q07, l01, lK, (lI ++ ([lL] : List LI)), (lJ ++ ([qO] : List Bool))))))))))) (fun (q08, l09, l0A, l0B, l0C) => f86_L110 l7 l8 v9 vA vB vC vE vF vG vH lM gP l09 l0A l0B l0C (wrap .i64 (v5 + 1)) q08)) (some (.inr (lI, lJ)))
def f86 (fuel : Nat) : BA → Option ((List LI) × (List Bool) × Int)
 | sN => (f109 fuel sN).bind fun (l9, lA, qB, vC, vF, vG, vH, vI, vJ, vK, vL, vM) => cond (vM != 0) (some ([], [], vM)) ((f110b (0 : Int) (0 : Int) (0 : Int) (0 : Int) (0 : Int)).bind fun (v5, v6, v7, v8) => grdP ((mget ([] : List (N4 × Int)) (v5, v6, v7, v8)).isNone = true) ((f111 l9 lA qB vC vF vG vH vI vJ vK vL).bind fun lO => sbind (ο := (List LI) × (List Bool)) (f86_L110 l9 lA vC vF vG vH vI vJ vK vL lO fuel (([] : List (N4 × Int)) ++ [((v5, v6, v7, v8), 0)]) ([(v5, v6, v7, v8)] : L4) [] [] (0 : Int) qB) (fun (lP, lQ) => some (lP, lQ, 0))))
def C86 (O : Oracle TT) (m : BA → Option ((List LI) × (List Bool) × Int)) : Prop :=
 ∀ s5 (Q : ((List LI) × (List Bool) × Int) → Prop) (R : RR) (_ : ∀ l6 l7 v8, Q (l6, l7, v8) → R (.tup [.agg [.isl .a16 l6, .isl .bool l7], iD v8]) []) (_ : sat (m s5) Q), O 86 [sD s5] [] R
def j86 : Fn TT := ⟨109, [.cell 2 2 true, .t 3], (sr [qo 2 (.alloc 2 [.isl .a16 [], .isl .bool []]),qo 3 (.mv (iC 0))] (sr [qm 20 0,qo 21 (.call 21 109 [20]),qm 19 21,qo 22 (.ext 19 0),qo 23 (.ext 19 1),
 qo 4 (.alloc 4 [.isl .set4 [], .isl .set4 [], .bool false, .int .u64 0, .int .u64 0, .int .u64 0, .int .u64 0, .int .u64 0, .int .u64 0, .int .u64 0, .int .u64 0]),qp (.store 4 22 11),qm 5 23] (.seq (sr [qm 24 5,qo 25 (.bin .neq .num 24 (iC 0))] (.cond 25 (sr [qo 26 (.build [.isl .a16 [], .isl .bool []] []),qm 27 5,qp (.store 2 26 2),qm 3 27] .ret)
 .skip)) (sr [qo 6 (.alloc 6 [.int .u64 0, .int .u64 0, .int .u64 0, .int .u64 0])] (sr [qo 28 (.call 28 110 [6, (iC 0)])] (sr [qo 29 (.mkmap 29 .set4 .i16),qo 30 (.load 6 4 true),qp (.mapadd 4 29 30 (.c (.int .i16 0))),qm 31 29,qm 7 31] (sr [qo 32 (.load 6 4 true),qo 33 (.bslice 33 .set4 [32]),qm 8 33] (.seq
 (.reg [qo 9 (.alloc 9 [.nils, .nils])]) (sr [qo 34 (.call 34 111 [4]),qm 10 34] (.cut [2, 9] [(.s 2), (.s 9), (.sub (.sub (.s 9) 600) 0), (.sub (.sub (.s 9) 600) 1)] (sr [qo 11 (.mv (iC 0))] (.block 0 (.pre [.own 8 0 .set4 (.sub (.sub (.s 8) 600) 0), .ownc (.s 9) 0 .a16 (.sub (.sub (.s 9) 600) 0), .ownc (.s 9) 1 .bool (.sub (.sub (.s 9) 600) 1)]
 (.loop (.keep [2, 4, 7, 8, 9, 10, 11] [(.s 2), (.s 4), (.s 29), (.sub (.sub (.s 8) 600) 0), (.s 9), (.sub (.s 34) 0), (.sub (.sub (.s 9) 600) 0), (.sub (.sub (.s 9) 600) 1)] (.aft (.seq (sr [qm 35 11,qm 36 8,qo 37 (.len false 36),qo 38 (.bin .lss .num 35 37)] (.cond 38 .skip (.exit 0)))
 (.cut [2, 4, 7, 8, 9, 10, 11] [(.s 2), (.s 4), (.s 29), (.sub (.sub (.s 8) 601) 0), (.s 9), (.sub (.s 34) 0), (.s 96), (.s 106)] (.block 1 (sr [qo 12 (.allocR 12 .i16 256 (0 : Int))] (sr [qm 41 8,qm 42 11,qo 43 (.idxA 41 42 4),qo 44 (.load 43 4 true),qo 45 (.call 45 112 [4, 44]),qo 13 (.alloc 13 [.int .u64 0, .int .u64 0, .int .u64 0, .int .u64 0]),
 qp (.store 13 45 4)] (.cut [2, 4, 7, 8, 9, 10, 11, 12] [(.s 2), (.s 4), (.s 29), (.sub (.sub (.s 8) 601) 0), (.s 9), (.sub (.s 34) 0), (.s 12), (.sub (.sub (.s 9) 600) 0), (.sub (.sub (.s 9) 600) 1)] (sr [qo 46 (.mv (iC 0))] (.block 2 (.pre [.own 8 0 .set4 (.sub (.sub (.s 8) 601) 0)]
 (.loop (.keep [2, 4, 7, 8, 9, 10, 11, 12, 13, 46] [(.s 2), (.s 4), (.s 29), (.sub (.sub (.s 8) 601) 0), (.s 9), (.sub (.s 34) 0), (.s 12), (.s 13), (.sub (.sub (.s 9) 600) 0), (.sub (.sub (.s 9) 600) 1)] (.aft (sr [qo 47 (.bin .lss .num 46 (iC 256))] (.seq (.cond 47 .skip (.exit 2))
 (.cut [2, 4, 7, 8, 9, 10, 11, 12, 13, 46] [(.s 2), (.s 4), (.s 29), (.sub (.sub (.s 8) 1515) 0), (.s 9), (.sub (.s 34) 0), (.s 12), (.s 13), (.sub (.sub (.s 9) 600) 0), (.sub (.sub (.s 9) 600) 1)] (.aft (.block 3 (sr [qm 48 46,qm 14 48] (sr [qo 49 (.load 13 4 true),qo 15 (.alloc 15 [.int .u64 0, .int .u64 0, .int .u64 0, .int .u64 0]),qp (.store 15 49 4)]
 (.cut [2, 4, 7, 8, 9, 10, 11, 12, 13, 14, 15, 46] [(.s 2), (.s 4), (.s 29), (.sub (.sub (.s 8) 601) 0), (.s 9), (.sub (.s 34) 0), (.s 12), (.s 13), (.s 15), (.sub (.sub (.s 9) 600) 0), (.sub (.sub (.s 9) 600) 1)] (sr [qo 50 (.mv (iC 0))] (.block 4
 (.loop (.keep [2, 4, 7, 8, 9, 10, 11, 12, 13, 14, 15, 46, 50] [(.s 2), (.s 4), (.s 29), (.sub (.sub (.s 8) 601) 0), (.s 9), (.sub (.s 34) 0), (.s 12), (.s 13), (.s 15), (.sub (.sub (.s 9) 600) 0), (.sub (.sub (.s 9) 600) 1)] (.aft (sr [qo 51 (.bin .lss .num 50 (iC 4))] (.seq (.cond 51 .skip (.exit 4)) (.seq (.block 5 (sr [qm 52 50,qm 16 52]
 (.drw [] (oR 13) [12] (List.range 12) [qm 53 16,qo 54 (.idxC 15 53 1 4),qo 55 (ld 54),qm 56 10,qm 57 14,qm 58 16,qo 59 (.nilck 56),qo 60 (.idxR 59 57 4 256),qo 61 (.idxC 60 58 1 4),qo 62 (ld 61),qo 63 (.bin .and .num 55 62),qo 64 (.idxC 15 53 1 4),qp (.store 64 63 1)]))) (.reg [qo 65 (.bin .add .num 50 (iC 1)),
 qm 50 65])))) [.keep [2, 4, 7, 8, 9, 10, 11, 12, 13, 14, 15, 46, 50] [(.s 2), (.s 4), (.s 29), (.sub (.sub (.s 8) 601) 0), (.s 9), (.sub (.s 34) 0), (.s 12), (.s 13), (.s 15), (.sub (.sub (.s 9) 600) 0), (.sub (.sub (.s 9) 600) 1)]]))))) (sr [qm 67 7,qo 68 (.load 15 4 true),qo 69 (.mapget 4 67 68 (.int .i16 0) true),qm 66 69,qo 70 (.ext 66 0),qo 71 (.ext 66 1),
 qm 17 70,qm 18 71] (.seq (sr [qm 72 18,qo 73 (.un .not 72)] (.cond 73 (sr [qm 74 8,qo 75 (.len false 74),qo 76 (.conv .i16 75),qm 17 76] (sr [qm 77 7,qo 78 (.load 15 4 true),qm 79 17,qp (.mapadd 4 77 78 79)] (sr [qm 80 8,qo 81 (.load 15 4 true),qo 82 (.bsl .set4 [81]),
 qo 83 (.app 83 .set4 68719476736 80 82),qm 8 83] (sr [qm 84 8,qo 85 (.len false 84),qo 86 (.bin .gtr .num 85 (iC 400))] (.cond 86 (sr [qo 87 (.build [.isl .a16 [], .isl .bool []] []),qp (.store 2 87 2),qo 3 (.mv (iC 2))] .ret) .skip))))) .skip)) (.reg [qm 88 14,qm 89 17,qo 90 (.idxR 12 88 1 256),
 qp (.store 90 89 1)]))))))) [.own 8 0 .set4 (.sub (.sub (.s 8) 1515) 0)]) (.reg [qo 91 (.bin .add .num 46 (iC 1)),qm 46 91])))) [.keep [2, 4, 7, 8, 9, 10, 11, 12, 13, 46] [(.s 2), (.s 4), (.s 29), (.sub (.sub (.s 8) 1515) 0), (.s 9), (.sub (.s 34) 0), (.s 12), (.s 13), (.sub (.sub (.s 9) 600) 0), (.sub (.sub (.s 9) 600) 1)], .own 8 0 .set4 (.sub (.sub (.s 8) 601) 0)])))))) (.seq
 (.reg [qo 92 (.fa 9 0),qo 93 (ld 92),qo 94 (.loadR 12 256),qo 95 (.bslR .a16 94),qo 96 (.app 96 .a16 68719476736 93 95),qo 97 (.fa 9 0),qp (.store 97 96 1)]) (.drw [(.s 4), (.sub (.sub (.s 9) 600) 1)] (oR 11) [10] [0, 1, 2, 3, 4, 5, 9] [qo 98 (.fa 9 1),qo 99 (ld 98),qm 100 8,qm 101 11,qo 102 (.idxA 100 101 4),qo 103 (.load 102 4 true),
 qo 104 (.call 104 113 [4, 103]),qo 105 (.bsl .bool [104]),qo 106 (.app 106 .bool 68719476736 99 105),qo 107 (.fa 9 1),qp (.store 107 106 1)])))))) (.reg [qm 39 11,qo 40 (.bin .add .num 39 (iC 1)),
 qm 11 40]))) [.keep [2, 4, 7, 8, 9, 10, 11] [(.s 2), (.s 4), (.s 29), (.sub (.sub (.s 8) 601) 0), (.s 9), (.sub (.s 34) 0), (.s 96), (.s 106)], .own 8 0 .set4 (.sub (.sub (.s 8) 600) 0), .ownc (.s 9) 0 .a16 (.sub (.sub (.s 9) 600) 0), .ownc (.s 9) 1 .bool (.sub (.sub (.s 9) 600) 1)])))))) (sr [qo 108 (.load 9 2 true),qp (.store 2 108 2),qo 3 (.mv (iC 0))]
 (.pre [.frzc (.s 2) 0 .a16, .frzc (.s 2) 1 .bool] .ret))))))))))))⟩
theorem w86 {O : Oracle TT} (fuel : Nat) (h109 : C109 O (f109 fuel)) (h110b : C110b O f110b) (h111 : C111 O f111) (h112 : C112 O f112) (h113 : C113 O f113) : C86 (fun _ => vcF (S := SS) O j86) (f86 fuel) := by
 intro s2Q Q R hQ h
 unfold f86 at h
 refine ⟨nle rfl, rfl, ?_⟩
 refine kL [] (h109 _ _ _ ?_ (sb h))
 rintro l00 l01 q2H v02 v03 v04 v05 v06 v07 v08 v09 v2R h
 refine kc h ?_ ?_ <;> intro h
 refine kL [(.s 6)] (h110b _ _ _ _ _ _ _ ?_ (sb h))
 rintro v1K v1L v1M v1N h
 conv => whnf
 obtain ⟨hb1P, h⟩ := sat_grdP h
 refine ⟨(v1K, v1L, v1M, v1N), 0, rfl, rfl, mfind_none mfind_set4 (by first | exact hb1P | exact absurd hb1P Bool.false_ne_true), ?_⟩
 refine kL [(.s 4)] (h111 _ _ _ _ _ _ _ _ _ _ _ _ _ ?_ (sb h))
 rintro lU h
 obtain ⟨R0L, h, a0L, b0L⟩ := sc h
 refine kX (fun σ => ∃ (l1B : List LI) (l1C : List Bool) (n1Q : Nat) (n1R : Nat), n1Q = l1B.length ∧ n1R = l1C.length ∧ R0L (.inr (l1B, l1C)) ∧ σ = ⟨[pT 2, pT 9], [eV (.s 2) [.isl .a16 [], .isl .bool []], eV (.s 9) [.osl (.sub (.sub (.s 9) 600) 0) 0 n1Q, .osl (.sub (.sub (.s 9) 600) 1) 0 n1R], (.sub (.sub (.s 9) 600) 0, (eR .a16 l1B)), (.sub (.sub (.s 9) 600) 1, (eR .bool l1C))]⟩) ?_ ?_
 refine kX (fun σ n => ∃ (f1D : Nat) (l1E : List (N4 × Int)) (l0S : L4) (lC : List LI) (lG : List Bool) (vV : Int) (q0A : Bool) (n1S : Nat) (n1T : Nat) (n1U : Nat), f1D = n ∧ n1S = l0S.length ∧ n1T = lC.length ∧ n1U = lG.length ∧ sat (f86_L110 l00 l01 v02 v03 v04 v05 v06 v07 v08 v09 lU f1D l1E l0S lC lG vV q0A) R0L ∧ σ.keep [2, 4, 7, 8, 9, 10, 11] [(.s 2), (.s 4), (.s 29), (.sub (.sub (.s 8) 600) 0), (.s 9), (.sub (.s 34) 0), (.sub (.sub (.s 9) 600) 0), (.sub (.sub (.s 9) 600) 1)] = ⟨[pT 2, pT 4, (7, .c (.mapp (.s 29))), (8, .c (.osl (.sub (.sub (.s 8) 600) 0) 0 n1S)), pT 9, (10, .c (.ptr (.sub (.s 34) 0) 0 0)), (11, iD vV)], [eV (.s 2) [.isl .a16 [], .isl .bool []], eV (.s 4) [.isl .set4 l00, .isl .set4 l01, .bool q0A, .int .u64 v02, .int .u64 v03, .int .u64 v04, .int .u64 v05, .int .u64 v06, .int .u64 v07, .int .u64 v08, .int .u64 v09], (.s 29, some (.map .set4 .i16 l1E)), (.sub (.sub (.s 8) 600) 0, (eR .set4 l0S)), eV (.s 9) [.osl (.sub (.sub (.s 9) 600) 0) 0 n1T, .osl (.sub (.sub (.s 9) 600) 1) 0 n1U], (.sub (.s 34) 0, (eR .set4 lU)), (.sub (.sub (.s 9) 600) 0, (eR .a16 lC)), (.sub (.sub (.s 9) 600) 1, (eR .bool lG))]⟩) ⟨_, _, (([] : List (N4 × Int)) ++ [((v1K, v1L, v1M, v1N), 0)]), ([(v1K, v1L, v1M, v1N)] : L4), [], [], (0 : Int), q2H, _, _, _, rfl, LN, LN, LN, h, rfl⟩ ?_
 rintro σ n ⟨f1D, l1E, l0S, lC, lG, vV, q0A, _, _, _, rfl, rfl, rfl, rfl, h, hσ⟩
 refine kk hσ ?_
 rcases f1D with _ | g1V
 rw [f86_L110] at h; exact nn h
 rw [f86_L110] at h
 intro hl2S
 refine kc h ?_ ?_ <;> intro h
 conv => whnf
 exact ⟨lC, lG, _, _, LN, LN, ss h, rfl⟩
 obtain ⟨R0T, h, a0T, b0T⟩ := sc h
 refine kX (fun σ => ∃ (q1F : Bool) (l1G : List (N4 × Int)) (l0U : L4) (l0V : List LI) (l0W : List Bool) (n1W : Nat) (n1X : Nat) (n1Y : Nat), n1W = l0U.length ∧ n1X = l0V.length ∧ n1Y = l0W.length ∧ R0T (.inr (q1F, l1G, l0U, l0V, l0W)) ∧ σ = ⟨[pT 2, pT 4, (7, .c (.mapp (.s 29))), (8, .c (.osl (.sub (.sub (.s 8) 601) 0) 0 n1W)), pT 9, (10, .c (.ptr (.sub (.s 34) 0) 0 0)), (11, iD vV)], [eV (.s 2) [.isl .a16 [], .isl .bool []], eV (.s 4) [.isl .set4 l00, .isl .set4 l01, .bool q1F, .int .u64 v02, .int .u64 v03, .int .u64 v04, .int .u64 v05, .int .u64 v06, .int .u64 v07, .int .u64 v08, .int .u64 v09], (.s 29, some (.map .set4 .i16 l1G)), (.sub (.sub (.s 8) 601) 0, (eR .set4 l0U)), eV (.s 9) [.osl (.s 96) 0 n1X, .osl (.s 106) 0 n1Y], (.sub (.s 34) 0, (eR .set4 lU)), (.s 96, (eR .a16 l0V)), (.s 106, (eR .bool l0W))]⟩) ?_ ?_
 refine kp h fun hb2T h => ?_
 refine kg (sat_getN h) fun uu1Z huu1Z h => ?_
 obtain ⟨w2U, w2V, w2W, w2X⟩ := uu1Z
 refine kL [(.s 4)] (h112 _ _ _ _ _ _ _ _ _ _ _ _ _ _ _ _ _ ?_ (sb h))
 rintro w0M w0N w0O w0P h
 obtain ⟨R0Q, h, a0Q, b0Q⟩ := sc h
 refine kX (fun σ => ∃ (l1H : List (N4 × Int)) (l0X : L4) (l0Y : LI) (n20 : Nat), n20 = l0X.length ∧ R0Q (.inr (l1H, l0X, l0Y)) ∧ σ = ⟨[pT 2, pT 4, (7, .c (.mapp (.s 29))), (8, .c (.osl (.sub (.sub (.s 8) 601) 0) 0 n20)), pT 9, (10, .c (.ptr (.sub (.s 34) 0) 0 0)), (11, iD vV), pT 12], [eV (.s 2) [.isl .a16 [], .isl .bool []], eV (.s 4) [.isl .set4 l00, .isl .set4 l01, .bool q0A, .int .u64 v02, .int .u64 v03, .int .u64 v04, .int .u64 v05, .int .u64 v06, .int .u64 v07, .int .u64 v08, .int .u64 v09], (.s 29, some (.map .set4 .i16 l1H)), (.sub (.sub (.s 8) 601) 0, (eR .set4 l0X)), eV (.s 9) [.osl (.sub (.sub (.s 9) 600) 0) 0 lC.length, .osl (.sub (.sub (.s 9) 600) 1) 0 lG.length], (.sub (.s 34) 0, (eR .set4 lU)), (.s 12, (eR .i16 l0Y)), (.sub (.sub (.s 9) 600) 0, (eR .a16 lC)), (.sub (.sub (.s 9) 600) 1, (eR .bool lG))]⟩) ?_ ?_
 obtain ⟨hN2I, h⟩ := sat_grdP h
 refine kX (fun σ n => ∃ (fW : Nat) (vH : Int) (z : Int) (lY : List (N4 × Int)) (lM : L4) (l0B : LI) (n21 : Nat), fW = n ∧ fW = (256 - vH).toNat ∧ 0 ≤ vH ∧ vH = z ∧ n21 = lM.length ∧ sat (f86_L142 lU w0M w0N w0O w0P fW vH lY lM l0B) R0Q ∧ σ.keep [2, 4, 7, 8, 9, 10, 11, 12, 13, 46] [(.s 2), (.s 4), (.s 29), (.sub (.sub (.s 8) 601) 0), (.s 9), (.sub (.s 34) 0), (.s 12), (.s 13), (.sub (.sub (.s 9) 600) 0), (.sub (.sub (.s 9) 600) 1)] = ⟨[pT 2, pT 4, (7, .c (.mapp (.s 29))), (8, .c (.osl (.sub (.sub (.s 8) 601) 0) 0 n21)), pT 9, (10, .c (.ptr (.sub (.s 34) 0) 0 0)), (11, iD vV), pT 12, pT 13, (46, iD z)], [eV (.s 2) [.isl .a16 [], .isl .bool []], eV (.s 4) [.isl .set4 l00, .isl .set4 l01, .bool q0A, .int .u64 v02, .int .u64 v03, .int .u64 v04, .int .u64 v05, .int .u64 v06, .int .u64 v07, .int .u64 v08, .int .u64 v09], (.s 29, some (.map .set4 .i16 lY)), (.sub (.sub (.s 8) 601) 0, (eR .set4 lM)), eV (.s 9) [.osl (.sub (.sub (.s 9) 600) 0) 0 lC.length, .osl (.sub (.sub (.s 9) 600) 1) 0 lG.length], (.sub (.s 34) 0, (eR .set4 lU)), (.s 12, (eR .i16 l0B)), eV (.s 13) [.int .u64 w0M, .int .u64 w0N, .int .u64 w0O, .int .u64 w0P], (.sub (.sub (.s 9) 600) 0, (eR .a16 lC)), (.sub (.sub (.s 9) 600) 1, (eR .bool lG))]⟩) ⟨_, _, 0, _, l1E, l0S, (List.replicate 256 (0 : Int)), _, rfl, rfl, (by decide), rfl, LN, h, rfl⟩ ?_
 rintro σ n ⟨fW, vH, _, lY, lM, l0B, _, rfl, hfW, hpfW, rfl, rfl, h, hσ⟩
 refine kk hσ ?_
 intro t0Z (ht0Z : t0Z = decide (vH < 256))
 cases t0Z
 obtain rfl := il_nil hfW ht0Z
 rw [f86_L142] at h
 conv => whnf
 exact ⟨lY, lM, l0B, _, LN, ss h, rfl⟩
 obtain ⟨g0C, rfl, hwg0C, hpg0C, hfg0C⟩ := il_cons hfW hpfW ht0Z hN2I
 rw [f86_L142] at h
 obtain ⟨R17, h, a17, b17⟩ := sc h
 refine kX (fun σ => ∃ (l1I : List (N4 × Int)) (l18 : L4) (l1J : LI) (n22 : Nat), n22 = l18.length ∧ R17 (.inr (l1I, l18, l1J)) ∧ σ = ⟨[pT 2, pT 4, (7, .c (.mapp (.s 29))), (8, .c (.osl (.sub (.sub (.s 8) 1515) 0) 0 n22)), pT 9, (10, .c (.ptr (.sub (.s 34) 0) 0 0)), (11, iD vV), pT 12, pT 13, (46, iD vH)], [eV (.s 2) [.isl .a16 [], .isl .bool []], eV (.s 4) [.isl .set4 l00, .isl .set4 l01, .bool q0A, .int .u64 v02, .int .u64 v03, .int .u64 v04, .int .u64 v05, .int .u64 v06, .int .u64 v07, .int .u64 v08, .int .u64 v09], (.s 29, some (.map .set4 .i16 l1I)), (.sub (.sub (.s 8) 1515) 0, (eR .set4 l18)), eV (.s 9) [.osl (.sub (.sub (.s 9) 600) 0) 0 lC.length, .osl (.sub (.sub (.s 9) 600) 1) 0 lG.length], (.sub (.s 34) 0, (eR .set4 lU)), (.s 12, (eR .i16 l1J)), eV (.s 13) [.int .u64 w0M, .int .u64 w0N, .int .u64 w0O, .int .u64 w0P], (.sub (.sub (.s 9) 600) 0, (eR .a16 lC)), (.sub (.sub (.s 9) 600) 1, (eR .bool lG))]⟩) ?_ ?_
 obtain ⟨R19, h, a19, b19⟩ := sc h
 refine kX (fun σ => ∃ v0D v0E v0F v0G, R19 (.inr (v0D, v0E, v0F, v0G)) ∧ σ = ⟨[pT 2, pT 4, (7, .c (.mapp (.s 29))), (8, .c (.osl (.sub (.sub (.s 8) 601) 0) 0 lM.length)), pT 9, (10, .c (.ptr (.sub (.s 34) 0) 0 0)), (11, iD vV), pT 12, pT 13, (14, iD vH), pT 15, (46, iD vH)], [eV (.s 2) [.isl .a16 [], .isl .bool []], eV (.s 4) [.isl .set4 l00, .isl .set4 l01, .bool q0A, .int .u64 v02, .int .u64 v03, .int .u64 v04, .int .u64 v05, .int .u64 v06, .int .u64 v07, .int .u64 v08, .int .u64 v09], (.s 29, some (.map .set4 .i16 lY)), (.sub (.sub (.s 8) 601) 0, (eR .set4 lM)), eV (.s 9) [.osl (.sub (.sub (.s 9) 600) 0) 0 lC.length, .osl (.sub (.sub (.s 9) 600) 1) 0 lG.length], (.sub (.s 34) 0, (eR .set4 lU)), (.s 12, (eR .i16 l0B)), eV (.s 13) [.int .u64 w0M, .int .u64 w0N, .int .u64 w0O, .int .u64 w0P], eV (.s 15) [.int .u64 v0D, .int .u64 v0E, .int .u64 v0F, .int .u64 v0G], (.sub (.sub (.s 9) 600) 0, (eR .a16 lC)), (.sub (.sub (.s 9) 600) 1, (eR .bool lG))]⟩) ?_ ?_
 obtain ⟨hN2J, h⟩ := sat_grdP h
 refine kX (fun σ n => ∃ (fZ : Nat) (vP : Int) (z : Int) (v0H : Int) (v0I : Int) (v0J : Int) (v0K : Int), fZ = n ∧ fZ = (4 - vP).toNat ∧ 0 ≤ vP ∧ vP = z ∧ sat (f86_L146 lU vH fZ vP v0H v0I v0J v0K) R19 ∧ σ.keep [2, 4, 7, 8, 9, 10, 11, 12, 13, 14, 15, 46, 50] [(.s 2), (.s 4), (.s 29), (.sub (.sub (.s 8) 601) 0), (.s 9), (.sub (.s 34) 0), (.s 12), (.s 13), (.s 15), (.sub (.sub (.s 9) 600) 0), (.sub (.sub (.s 9) 600) 1)] = ⟨[pT 2, pT 4, (7, .c (.mapp (.s 29))), (8, .c (.osl (.sub (.sub (.s 8) 601) 0) 0 lM.length)), pT 9, (10, .c (.ptr (.sub (.s 34) 0) 0 0)), (11, iD vV), pT 12, pT 13, (14, iD vH), pT 15, (46, iD vH), (50, iD z)], [eV (.s 2) [.isl .a16 [], .isl .bool []], eV (.s 4) [.isl .set4 l00, .isl .set4 l01, .bool q0A, .int .u64 v02, .int .u64 v03, .int .u64 v04, .int .u64 v05, .int .u64 v06, .int .u64 v07, .int .u64 v08, .int .u64 v09], (.s 29, some (.map .set4 .i16 lY)), (.sub (.sub (.s 8) 601) 0, (eR .set4 lM)), eV (.s 9) [.osl (.sub (.sub (.s 9) 600) 0) 0 lC.length, .osl (.sub (.sub (.s 9) 600) 1) 0 lG.length], (.sub (.s 34) 0, (eR .set4 lU)), (.s 12, (eR .i16 l0B)), eV (.s 13) [.int .u64 w0M, .int .u64 w0N, .int .u64 w0O, .int .u64 w0P], eV (.s 15) [.int .u64 v0H, .int .u64 v0I, .int .u64 v0J, .int .u64 v0K], (.sub (.sub (.s 9) 600) 0, (eR .a16 lC)), (.sub (.sub (.s 9) 600) 1, (eR .bool lG))]⟩) ⟨_, _, 0, _, w0M, w0N, w0O, w0P, rfl, rfl, (by decide), rfl, h, rfl⟩ ?_
 rintro σ n ⟨fZ, vP, _, v0H, v0I, v0J, v0K, rfl, hfZ, hpfZ, rfl, h, hσ⟩
 refine kk hσ ?_
 intro t1A (ht1A : t1A = decide (vP < 4))
 cases t1A
 obtain rfl := il_nil hfZ ht1A
 rw [f86_L146] at h
 conv => whnf
 exact ⟨v0H, v0I, v0J, v0K, ss h, rfl⟩
 obtain ⟨gB, rfl, hwgB, hpgB, hfgB⟩ := il_cons hfZ hpfZ ht1A hN2J
 rw [f86_L146] at h
 conv => whnf
 obtain ⟨hbjO, h⟩ := sat_caseI h
 refine ⟨hbjO, fun jO hjO => ?_⟩
 replace h := h jO hjO
 replace hbjO : (0 : Int) ≤ vP ∧ vP < 4 := hbjO
 have hcjO : jO = 0 ∨ jO = 1 ∨ jO = 2 ∨ jO = 3 := by omega
 rcases hcjO with rfl | rfl | rfl | rfl
 replace h := sat_j0 h
 refine kp h fun hb2Y h => ?_
 conv => whnf
 refine ⟨⟨by omega, by omega⟩, fun j23 hj23 => ?_⟩
 obtain rfl : j23 = 0 := by omega
 refine kg (sat_getN h) fun uu24 huu24 h => ?_
 obtain ⟨w2K, w2Z, w30, w31⟩ := uu24
 conv => whnf
 refine ⟨⟨by omega, by omega⟩, fun j25 hj25 => ?_⟩
 obtain rfl : j25 = 0 := by omega
 conv => whnf
 exact ⟨gB, nls, gB, vP + 1, _, (bAnd .u64 v0H w2K), v0I, v0J, v0K, rfl, hfgB, hpgB, hwgB.symm, h, rfl⟩
 replace h := sat_j1 h
 refine kp h fun hb32 h => ?_
 conv => whnf
 refine ⟨⟨by omega, by omega⟩, fun j26 hj26 => ?_⟩
 obtain rfl : j26 = 1 := by omega
 refine kg (sat_getN h) fun uu27 huu27 h => ?_
 obtain ⟨w33, w2L, w35, w36⟩ := uu27
 conv => whnf
 refine ⟨⟨by omega, by omega⟩, fun j28 hj28 => ?_⟩
 obtain rfl : j28 = 1 := by omega
 conv => whnf
 exact ⟨gB, nls, gB, vP + 1, _, v0H, (bAnd .u64 v0I w2L), v0J, v0K, rfl, hfgB, hpgB, hwgB.symm, h, rfl⟩
 replace h := sat_j2 h
 refine kp h fun hb37 h => ?_
 conv => whnf
 refine ⟨⟨by omega, by omega⟩, fun j29 hj29 => ?_⟩
 obtain rfl : j29 = 2 := by omega
 refine kg (sat_getN h) fun uu2A huu2A h => ?_
 obtain ⟨w39, w3A, w2M, w3B⟩ := uu2A
 conv => whnf
 refine ⟨⟨by omega, by omega⟩, fun j2B hj2B => ?_⟩
 obtain rfl : j2B = 2 := by omega
 conv => whnf
 exact ⟨gB, nls, gB, vP + 1, _, v0H, v0I, (bAnd .u64 v0J w2M), v0K, rfl, hfgB, hpgB, hwgB.symm, h, rfl⟩
 replace h := sat_j3 h
 refine kp h fun hb3C h => ?_
 conv => whnf
 refine ⟨⟨by omega, by omega⟩, fun j2C hj2C => ?_⟩
 obtain rfl : j2C = 3 := by omega
 refine kg (sat_getN h) fun uu2D huu2D h => ?_
 obtain ⟨w3D, w3E, w3F, w2N⟩ := uu2D
 conv => whnf
 refine ⟨⟨by omega, by omega⟩, fun j2E hj2E => ?_⟩
 obtain rfl : j2E = 3 := by omega
 conv => whnf
 exact ⟨gB, nls, gB, vP + 1, _, v0H, v0I, v0J, (bAnd .u64 v0K w2N), rfl, hfgB, hpgB, hwgB.symm, h, rfl⟩
 rintro _ ⟨v0D, v0E, v0F, v0G, h, rfl⟩
 replace h := b19 _ h
 try dsimp only at h
 obtain ⟨fm0R, hfm0R⟩ : ∃ q, q = mget lY (v0D, v0E, v0F, v0G) := ⟨_, rfl⟩
 rw [← hfm0R] at h
 conv => whnf
 refine ⟨(v0D, v0E, v0F, v0G), fm0R, rfl, (by rw [hfm0R]; exact mfind_set4 _ _), ?_⟩
 rcases fm0R with _ | v2F
 rintro _ rfl
 intro hl3G
 conv => whnf
 obtain ⟨hb3H, h⟩ := sat_grdP h
 refine ⟨(v0D, v0E, v0F, v0G), (wrap .i16 ((lM.length : Nat) : Int)), rfl, rfl, mfind_none mfind_set4 (by rw [← hfm0R]; rfl), ?_⟩
 conv => whnf
 refine ⟨LN, rfl, ?_⟩
 conv => whnf
 refine ⟨rfl, ?_⟩
 refine kp h fun hb3I h => ?_
 intro hl3J
 refine kc h ?_ ?_ <;> intro h
 refine kp h fun hb3K h => ?_
 refine kg (sat_getN h) fun h3L huu3M h => ?_
 refine ⟨(wrap .i16 ((lM.length : Nat) : Int)), rfl, ?_⟩
 conv => whnf
 exact ⟨(lY ++ [((v0D, v0E, v0F, v0G), (wrap .i16 ((lM.length : Nat) : Int)))]), (lM ++ ([(v0D, v0E, v0F, v0G)] : L4)), (l0B.set vH.toNat (wrap .i16 ((lM.length : Nat) : Int))), _, LN, ss h, rfl⟩
 replace h := sat_lft a17 h
 replace h := sat_lft a0Q h
 replace h := sat_lft a0T h
 replace h := sat_lft a0L h
 exact kR [] (ND 0) (hQ _ _ _ (ss h))
 rintro _ rfl
 refine kp h fun hb3N h => ?_
 refine kg (sat_getN h) fun h3O huu3P h => ?_
 refine ⟨v2F, rfl, ?_⟩
 conv => whnf
 exact ⟨lY, lM, (l0B.set vH.toNat v2F), _, LN, ss h, rfl⟩
 rintro _ ⟨l1I, l18, l1J, _, rfl, h, rfl⟩
 replace h := b17 _ h
 conv => whnf
 exact ⟨g0C, nls, g0C, vH + 1, _, l1I, l18, l1J, _, rfl, hfg0C, hpg0C, hwg0C.symm, LN, h, rfl⟩
 rintro _ ⟨l1H, l0X, l0Y, _, rfl, h, rfl⟩
 replace h := b0Q _ h
 conv => whnf
 obtain ⟨hb1O, h⟩ := sat_grdP h
 refine ⟨⟨by rw [hb1O]; decide, by rw [hb1O]; rfl⟩, ?_⟩
 conv => whnf
 refine ⟨l0Y, unA16_of hb1O, ?_⟩
 conv => whnf
 refine ⟨LN, rfl, ?_⟩
 conv => whnf
 refine ⟨rfl, ?_⟩
 refine kp h fun hb3Q h => ?_
 refine kp h fun hb3R h => ?_
 refine kg (sat_getN h) fun uu2G huu2G h => ?_
 obtain ⟨w3S, w3T, w3U, w3V⟩ := uu2G
 refine kL [(.s 4)] (h113 _ _ _ _ _ _ _ _ _ _ _ _ _ _ _ _ _ ?_ (sb h))
 rintro q2O q2P h
 conv => whnf
 refine ⟨LN, rfl, ?_⟩
 conv => whnf
 refine ⟨rfl, ?_⟩
 refine kp h fun hb3W h => ?_
 conv => whnf
 exact ⟨q2P, l1H, l0X, (lC ++ ([l0Y] : List LI)), (lG ++ ([q2O] : List Bool)), _, _, _, LN, LN, LN, ss h, rfl⟩
 rintro _ ⟨q1F, l1G, l0U, l0V, l0W, _, _, _, rfl, rfl, rfl, h, rfl⟩
 replace h := b0T _ h
 conv => whnf
 exact ⟨g1V, nls, g1V, l1G, l0U, l0V, l0W, (wrap .i64 (vV + 1)), q1F, _, _, _, rfl, LN, LN, LN, h, rfl⟩
 rintro _ ⟨l1B, l1C, _, _, rfl, rfl, h, rfl⟩
 replace h := b0L _ h
 conv => whnf
 refine ⟨LN, ?_⟩
 conv => whnf
 refine ⟨LN, ?_⟩
 exact kR [] (ND 0) (hQ _ _ _ (ss h))
 exact kR [] (ND 0) (hQ _ _ _ (ss h))
def f160 (fuel : Nat) : BA → Option (Int)
 | s5 => (f86 fuel s5).bind fun (l7, l8, v6) => some v6
def C160 (O : Oracle TT) (m : BA → Option (Int)) : Prop :=
 ∀ s5 (Q : Int → Prop) (R : RR) (_ : ∀ v6, Q v6 → R (iD v6) []) (_ : sat (m s5) Q), O 160 [sD s5] [] R
def j160 : Fn TT := ⟨11, [.t 2], (sr [qo 2 (.mv (iC 0))] (sr [qm 6 0,qo 7 (.call 7 86 [6]),qm 5 7,qo 8 (.ext 5 0),qo 9 (.ext 5 1),qo 3 (.alloc 3 [.isl .a16 [], .isl .bool []]),qp (.store 3 8 2),qm 4 9] (sr [qm 10 4,qm 2 10] .ret)))⟩
theorem w160 {O : Oracle TT} (fuel : Nat) (h86 : C86 O (f86 fuel)) : C160 (fun _ => vcF (S := SS) O j160) (f160 fuel) := by
 intro s5 Q R hQ h
 unfold f160 at h
 refine ⟨nle rfl, rfl, ?_⟩
 refine kL [] (h86 _ _ _ ?_ (sb h))
 rintro l6 l7 v8 h
 exact kR [] (ND 0) (hQ _ (ss h))
def f52 : Int → Option (Int)
 | v0 => cond (decide (v0 < 0)) (some (wrap .i64 (((-1) : Int) - (bAnd .i64 v0 9223372036854775807)))) (some v0)
def C52 (O : Oracle TT) (m : Int → Option (Int)) : Prop :=
 ∀ v0 (Q : Int → Prop) (R : RR) (_ : ∀ v5, Q v5 → R (iD v5) []) (_ : sat (m v0) Q), O 52 [iD v0] [] R
def j52 : Fn TT := ⟨9, [.t 2], (sr [qo 2 (.mv (iC 0))] (.seq (sr [qm 3 0,qo 4 (.bin .lss .num 3 (iC 0))] (.cond 4 (sr [qm 5 0,qo 6 (.bin .and .num 5 (iC 9223372036854775807)),qo 7 (.bin .sub .num (iC (-1)) 6),qm 2 7] .ret) .skip)) (sr [qm 8 0,qm 2 8] .ret)))⟩
theorem w52 {O : Oracle TT} : C52 (fun _ => vcF (S := SS) O j52) f52 := by
 intro v0 Q R hQ h
 unfold f52 at h
 refine ⟨nle rfl, rfl, ?_⟩
 refine kc h ?_ ?_ <;> intro h
 exact kR [] (ND 0) (hQ _ (ss h))
 exact kR [] (ND 0) (hQ _ (ss h))
def f59 : Int → Option (Bool)
 | v0 => cond (v0 != v0) (some true) (some false)
def C59 (O : Oracle TT) (m : Int → Option (Bool)) : Prop :=
 ∀ v0 (Q : Bool → Prop) (R : RR) (_ : ∀ q5, Q q5 → R (bD q5) []) (_ : sat (m v0) Q), O 59 [iD v0] [] R
def j59 : Fn TT := ⟨6, [.t 2], (sr [qm 2 bF] (sr [qm 3 0,qm 4 0,qo 5 (.bin .neq .num 3 4),qm 2 5] .ret))⟩
theorem w59 {O : Oracle TT} : C59 (fun _ => vcF (S := SS) O j59) f59 := by
 intro v0 Q R hQ h
 unfold f59 at h
 refine ⟨nle rfl, rfl, ?_⟩
 refine kc h ?_ ?_ <;> intro h
 exact kR [] (ND 0) (hQ _ (ss h))
 exact kR [] (ND 0) (hQ _ (ss h))
def f38 : Int → Int → Option (Int)
 | v0, v5 => (f59 v0).bind fun q7 => (f59 v5).bind fun q6 => cond q7 (cond q6 (some 0) (some (-1))) (cond q6 (some 1) (cond (decide (v0 < v5)) (some (-1)) (cond (decide (v0 > v5)) (some 1) (some 0))))
def C38 (O : Oracle TT) (m : Int → Int → Option (Int)) : Prop :=
 ∀ v0 v5 (Q : Int → Prop) (R : RR) (_ : ∀ v6, Q v6 → R (iD v6) []) (_ : sat (m v0 v5) Q), O 38 [iD v0, iD v5] [] R
def j38 : Fn TT := ⟨20, [.t 4], (sr [qo 4 (.mv (iC 0))] (sr [qm 7 0,qo 8 (.call 8 59 [7]),qm 5 8] (sr [qm 9 1,qo 10 (.call 10 59 [9]),qm 6 10] (.seq (sr [qm 11 5] (.cond 11 (.seq (sr [qm 12 6] (.cond 12 (sr [qo 4 (.mv (iC 0))] .ret) .skip)) (sr [qo 4 (.mv (iC (-1)))] .ret)) .skip)) (.seq
 (sr [qm 13 6] (.cond 13 (sr [qo 4 (.mv (iC 1))] .ret) .skip)) (.seq (sr [qm 14 0,qm 15 1,qo 16 (.bin .lss .num 14 15)] (.cond 16 (sr [qo 4 (.mv (iC (-1)))] .ret) .skip)) (.seq (sr [qm 17 0,qm 18 1,qo 19 (.bin .gtr .num 17 18)] (.cond 19 (sr [qo 4 (.mv (iC 1))] .ret) .skip)) (sr [qo 4 (.mv (iC 0))]
 .ret))))))))⟩
theorem w38 {O : Oracle TT} (h59 : C59 O f59) : C38 (fun _ => vcF (S := SS) O j38) f38 := by
 intro v6 v7 Q R hQ h
 unfold f38 at h
 refine ⟨nle rfl, rfl, ?_⟩
 refine kL [] (h59 _ _ _ ?_ (sb h))
 rintro q5 h
 refine kL [] (h59 _ _ _ ?_ (sb h))
 rintro q0 h
 cases q5
 replace h := cf h
 cases q0
 replace h := cf h
 refine kc h ?_ ?_ <;> intro h
 refine kc h ?_ ?_ <;> intro h
 exact kR [] (ND 0) (hQ _ (ss h))
 exact kR [] (ND 0) (hQ _ (ss h))
 exact kR [] (ND 0) (hQ _ (ss h))
 replace h := ct h
 exact kR [] (ND 0) (hQ _ (ss h))
 replace h := ct h
 cases q0
 replace h := cf h
 exact kR [] (ND 0) (hQ _ (ss h))
 replace h := ct h
 exact kR [] (ND 0) (hQ _ (ss h))
def f78 : BA → BA → Option (Int)
 | s3, s4 => some (Lib.compareBytes s3.data.toList s4.data.toList)
def C78 (O : Oracle TT) (m : BA → BA → Option (Int)) : Prop :=
 ∀ s5 s6 (Q : Int → Prop) (R : RR) (_ : ∀ v7, Q v7 → R (iD v7) []) (_ : sat (m s5 s6) Q), O 78 [sD s5, sD s6] [] R
def j78 : Fn TT := ⟨8, [.t 4], (sr [qo 4 (.mv (iC 0))] (sr [qm 5 0,qm 6 1,qo 7 (.xcmp 5 6),qm 4 7] .ret))⟩
theorem w78 {O : Oracle TT} : C78 (fun _ => vcF (S := SS) O j78) f78 := by
 intro s3 s4 Q R hQ h
 unfold f78 at h
 refine ⟨nle rfl, rfl, ?_⟩
 exact kR [] (ND 0) (hQ _ (ss h))
def f54 : BA → BA → Option (Int)
 | s5, s6 => (f78 s5 s6).bind fun v7 => some v7
def C54 (O : Oracle TT) (m : BA → BA → Option (Int)) : Prop :=
 ∀ s5 s6 (Q : Int → Prop) (R : RR) (_ : ∀ v7, Q v7 → R (iD v7) []) (_ : sat (m s5 s6) Q), O 54 [sD s5, sD s6] [] R
def j54 : Fn TT := ⟨8, [.t 4], (sr [qo 4 (.mv (iC 0))] (sr [qm 5 0,qm 6 1,qo 7 (.call 7 78 [5, 6]),qm 4 7] .ret))⟩
theorem w54 {O : Oracle TT} (h78 : C78 O f78) : C54 (fun _ => vcF (S := SS) O j54) f54 := by
 intro s5 s6 Q R hQ h
 unfold f54 at h
 refine ⟨nle rfl, rfl, ?_⟩
 refine kL [] (h78 _ _ _ _ ?_ (sb h))
 rintro v7 h
 exact kR [] (ND 0) (hQ _ (ss h))
def f53_L2 : LI → Nat → Option (Sum (Int) (Unit))
 | [], j0 => some (.inr ())
 | v5 :: tl6, j0 => cond (v5 != 0) (lft (some v5)) (f53_L2 tl6 (j0 + 1))
def f53 : LI → Option (Int)
 | l0 => sbind (ο := Unit) (f53_L2 l0 0) (fun () => some 0)
def C53 (O : Oracle TT) (m : LI → Option (Int)) : Prop :=
 ∀ l0 (Q : Int → Prop) (R : RR) (_ : ∀ v5, Q v5 → R (iD v5) []) (_ : sat (m l0) Q), O 53 [.c (.isl .int l0)] [] R
def j53 : Fn TT := ⟨18, [.t 2], (sr [qo 2 (.mv (iC 0))] (sr [qo 3 (.mv (iC 0))] (.cut [3] [] (sr [qm 6 0,qo 7 (.len false 6),qo 8 (.mv (iC 0))] (.block 0 (.loop (.keep [3, 6, 7, 8] [] (.aft (sr [qo 9 (.bin .lss .num 8 7)] (.seq (.cond 9 .skip (.exit 0)) (.seq (.block 1 (sr [qo 10 (.idxA 6 8 1),qo 11 (ld 10),qm 5 11] (.seq
 (.reg [qm 12 5,qm 13 3,qo 14 (.bin .neq .num 12 13)]) (.cond 14 (sr [qm 15 5,qm 2 15] .ret) .skip)))) (.reg [qo 16 (.bin .add .num 8 (iC 1)),qm 8 16])))) [.keep [3, 6, 7, 8] []]))))) (sr [qm 17 3,qm 2 17] .ret))))⟩
theorem w53 {O : Oracle TT} : C53 (fun _ => vcF (S := SS) O j53) f53 := by
 intro l9 Q R hQ h
 unfold f53 at h
 refine ⟨nle rfl, rfl, ?_⟩
 obtain ⟨R6, h, a6, b6⟩ := sc h
 refine kX (fun σ => R6 (.inr ()) ∧ σ = ⟨[(3, iD 0)], []⟩) ?_ ?_
 intro hlG
 refine kX (fun σ n => ∃ (rem5 : LI) (j8 : Nat) (z : Int), n = rem5.length ∧ l9.drop j8 = rem5 ∧ z = ((j8 : Nat) : Int) ∧ sat (f53_L2 rem5 j8) R6 ∧ σ.keep [3, 6, 7, 8] [] = ⟨[(3, iD 0), (6, .c (.isl .int l9)), (7, iD ((l9.length : Nat) : Int)), (8, iD z)], []⟩) ⟨_, l9, 0, _, rfl, rfl, rfl, h, rfl⟩ ?_
 rintro σ n ⟨rem5, j8, _, rfl, hrem5, rfl, h, hσ⟩
 refine kk hσ ?_
 intro tA (htA : tA = decide (((j8 : Nat) : Int) < ((l9.length : Nat) : Int)))
 cases tA
 obtain rfl := ll_nil hrem5 htA
 rw [f53_L2] at h
 conv => whnf
 exact ⟨ss h, rfl⟩
 obtain ⟨vH, tlB, rfl, hxC, htlB⟩ := ll_cons hrem5 htA
 rw [f53_L2] at h
 conv => whnf
 refine ⟨lx_bd hxC, fun uuE huuE => ?_⟩
 obtain rfl := lx_eq hxC huuE
 refine kc h ?_ ?_ <;> intro h
 conv => whnf
 exact ⟨tlB.length, nls, tlB, j8 + 1, _, rfl, htlB, lx_wr hxC hlG, h, rfl⟩
 replace h := sat_lft a6 h
 exact kR [] (ND 0) (hQ _ (ss h))
 rintro _ ⟨h, rfl⟩
 replace h := b6 _ h
 exact kR [] (ND 0) (hQ _ (ss h))
def b34 (self55 : FV → FV → Option (Int)) : V → V → Option (Int)
 | .mk k5 n6 s9 fA, .mk kB n7 sC fF => sbind (ο := Int × Int) (cond (k5 == 3) ((f52 n6).bind fun vG => (f52 n7).bind fun vH => some (.inr (vG, vH))) (some (.inr (n6, n7)))) (fun (vI, vJ) => (f38 k5 kB).bind fun vK => (f38 vI vJ).bind fun vM => (f54 s9 sC).bind fun vN => (f53 ([vK, vM, vN] : LI)).bind fun v8 => cond (v8 != 0) (some v8) ((self55 fA fF).bind fun vO => some vO))
def f55_L2 (self56 : (BA × V) → (BA × V) → Option (Int)) (l6 : FV) : FV → Nat → Option (Sum (Int) (Unit))
 | [], j5 => some (.inr ())
 | ((a8, .mk k9 nA sB fC)) :: tlF, j5 => cond (decide (((j5 : Nat) : Int) ≥ ((l6.length : Nat) : Int))) (lft (some 1)) (getL l6 ((j5 : Nat) : Int) fun uuG => match uuG with | (aH, .mk kI nJ sK fM) => (self56 (a8, (V.mk k9 nA sB fC)) (aH, (V.mk kI nJ sK fM))).bind fun v7 => cond (v7 != 0) (lft (some v7)) (f55_L2 self56 l6 tlF (j5 + 1)))
def b55 (self56 : (BA × V) → (BA × V) → Option (Int)) : FV → FV → Option (Int)
 | l0, l3 => sbind (ο := Unit) (f55_L2 self56 l3 l0 0) (fun () => cond (decide (((l0.length : Nat) : Int) < ((l3.length : Nat) : Int))) (some (-1)) (some 0))
def b56 (self34 : V → V → Option (Int)) : (BA × V) → (BA × V) → Option (Int)
 | (a5, .mk k6 n7 s8 f9), (aA, .mk kB nC sF fG) => (f54 a5 aA).bind fun vH => (self34 (V.mk k6 n7 s8 f9) (V.mk kB nC sF fG)).bind fun vI => (f53 ([vH, vI] : LI)).bind fun vJ => some vJ
def S34 : Nat → (V → V → Option (Int)) × (FV → FV → Option (Int)) × ((BA × V) → (BA × V) → Option (Int))
 | 0 => (fun _ _ => none, fun _ _ => none, fun _ _ => none)
 | n + 1 => (b34 (S34 n).2.1, b55 (S34 n).2.2, b56 (S34 n).1)
def f34 (n : Nat) : V → V → Option (Int) := (S34 n).1
def f55 (n : Nat) : FV → FV → Option (Int) := (S34 n).2.1
def f56 (n : Nat) : (BA × V) → (BA × V) → Option (Int) := (S34 n).2.2
def C34 (O : Oracle TT) (m : V → V → Option (Int)) : Prop :=
 ∀ k5 n6 s7 f8 k9 nA sB fC (Q : Int → Prop) (R : RR) (_ : ∀ vF, Q vF → R (iD vF) []) (_ : sat (m (V.mk k5 n6 s7 f8) (V.mk k9 nA sB fC)) Q), O 34 [.agg [ci k5, ci n6, .str s7, .isl .fld f8], .agg [ci k9, ci nA, .str sB, .isl .fld fC]] [] R
def j34 : Fn TT := ⟨42, [.t 4], (sr [qo 2 (.box 2 0),qo 3 (.box 3 1),qo 4 (.mv (iC 0))] (.seq (.drw [] (oR 6) [] (List.range 6) [qo 8 (.fa 2 1),qo 9 (ld 8),qo 10 (.fa 3 1),qo 11 (ld 10),qm 5 9,qm 6 11]) (.cut [2, 3, 5, 6] [(.s 2), (.s 3)] (sr [qo 12 (.fa 2 0),qo 13 (ld 12),qo 14 (.bin .eql .num 13 (iC 3))] (.cond 14
 (.reg [qm 15 5,qo 16 (.call 16 52 [15]),qm 17 6,qo 18 (.call 18 52 [17]),qm 5 16,qm 6 18]) .skip)) (.seq (.drw [] (ol [0, 1, 2, 3, 5, 6, 8, 9, 10, 11, 4, 7, 12, 13, 14, 15]) [] [0, 1, 2, 3, 5, 6, 8, 9, 10, 11, 15] [qo 19 (.fa 2 0),qo 20 (ld 19),qo 21 (.fa 3 0),qo 22 (ld 21),qo 23 (.call 23 38 [20, 22]),qm 24 5,qm 25 6,
 qo 26 (.call 26 38 [24, 25]),qo 27 (.fa 2 2),qo 28 (ld 27),qo 29 (.fa 3 2),qo 30 (ld 29),qo 31 (.call 31 54 [28, 30]),qo 32 (.bsl .int [23, 26, 31]),qo 33 (.call 33 53 [32]),qm 7 33]) (.seq (sr [qm 34 7,qo 35 (.bin .neq .num 34 (iC 0))] (.cond 35 (sr [qm 36 7,qm 4 36] .ret) .skip)) (sr [qo 37 (.fa 2 3),
 qo 38 (ld 37),qo 39 (.fa 3 3),qo 40 (ld 39),qo 41 (.call 41 55 [38, 40, (.c (.fn 56 []))]),qm 4 41] .ret))))))⟩
def C55 (O : Oracle TT) (m : FV → FV → Option (Int)) : Prop :=
 ∀ l0 l5 (Q : Int → Prop) (R : RR) (_ : ∀ v6, Q v6 → R (iD v6) []) (_ : sat (m l0 l5) Q), O 55 [.c (.isl .fld l0), .c (.isl .fld l5), .c (.fn 56 [])] [] R
def j55 : Fn TT := ⟨39, [.t 6], (sr [qo 6 (.mv (iC 0))] (.cut [0, 1] [] (sr [qm 11 0,qo 12 (.len false 11),qo 13 (.mv (iC 0))] (.block 0 (.loop (.keep [0, 1, 2, 11, 12, 13] [] (.aft (sr [qo 14 (.bin .lss .num 13 12)] (.seq (.cond 14 .skip (.exit 0)) (.seq (.block 1 (sr [qm 15 13,qo 16 (.idxA 11 13 5),qo 17 (.load 16 5 true),
 qo 8 (.alloc 8 zFd),qm 7 15,qp (.store 8 17 5)] (.seq (sr [qm 18 7,qm 19 1,qo 20 (.len false 19),qo 21 (.bin .geq .num 18 20)] (.cond 21 (sr [qo 6 (.mv (iC 1))] .ret) .skip)) (sr [qm 22 1,qm 23 7,qo 24 (.idxA 22 23 5),qo 25 (.load 24 5 true),qo 9 (.alloc 9 zFd),qp (.store 9 25 5)] (sr [qm 26 2,
 qo 27 (.load 8 5 true),qo 28 (.load 9 5 true),qo 29 (.callv 29 26 [27, 28]),qm 10 29] (sr [qm 30 10,qo 31 (.bin .neq .num 30 (iC 0))] (.cond 31 (sr [qm 32 10,qm 6 32] .ret) .skip))))))) (.reg [qo 33 (.bin .add .num 13 (iC 1)),qm 13 33])))) [.keep [0, 1, 2, 11, 12, 13] []]))))) (.seq (sr [qm 34 0,qo 35 (.len false 34),
 qm 36 1,qo 37 (.len false 36),qo 38 (.bin .lss .num 35 37)] (.cond 38 (sr [qo 6 (.mv (iC (-1)))] .ret) .skip)) (sr [qo 6 (.mv (iC 0))] .ret))))⟩
def C56 (O : Oracle TT) (m : (BA × V) → (BA × V) → Option (Int)) : Prop :=
 ∀ a5 k6 n7 s8 f9 aA kB nC sF fG (Q : Int → Prop) (R : RR) (_ : ∀ vH, Q vH → R (iD vH) []) (_ : sat (m (a5, (V.mk k6 n7 s8 f9)) (aA, (V.mk kB nC sF fG))) Q), O 56 [.agg [.str a5, ci k6, ci n7, .str s8, .isl .fld f9], .agg [.str aA, ci kB, ci nC, .str sF, .isl .fld fG]] [] R
def j56 : Fn TT := ⟨17, [.t 4], (sr [qo 2 (.box 2 0),qo 3 (.box 3 1),qo 4 (.mv (iC 0))] (.seq (.drw [] (ol [0, 1, 2, 3, 5, 6, 7, 8, 4, 9, 10, 11, 12]) [] [0, 1, 2, 3, 5, 6, 7, 8, 12] [qo 5 (.fa 2 0),qo 6 (ld 5),qo 7 (.fa 3 0),qo 8 (ld 7),qo 9 (.call 9 54 [6, 8]),qo 10 (.fa 2 1),qo 11 (.load 10 4 true),qo 12 (.fa 3 1),qo 13 (.load 12 4 true),
 qo 14 (.call 14 34 [11, 13]),qo 15 (.bsl .int [9, 14]),qo 16 (.call 16 53 [15]),qm 4 16]) .ret))⟩
theorem w34 {O : Oracle TT} (self55 : FV → FV → Option (Int)) (h52 : C52 O f52) (h38 : C38 O f38) (h54 : C54 O f54) (h53 : C53 O f53) (h55 : C55 O self55) : C34 (fun _ => vcF (S := SS) O j34) (b34 self55) := by
 intro kA n8 sB fC kF n9 sG fH Q R hQ h
 unfold b34 at h
 refine ⟨nle rfl, rfl, ?_⟩
 obtain ⟨R5, h, a5, hrR5⟩ := sc h
 refine kX (fun σ => ∃ v6 v7, R5 (.inr (v6, v7)) ∧ σ = ⟨[pT 2, pT 3, (5, iD v6), (6, iD v7)], [eV (.s 2) [ci kA, ci n8, .str sB, .isl .fld fC], eV (.s 3) [ci kF, ci n9, .str sG, .isl .fld fH]]⟩) ?_ ?_
 refine kc h ?_ ?_ <;> intro h
 conv => whnf
 exact ⟨n8, n9, ss h, rfl⟩
 refine kL [] (h52 _ _ _ ?_ (sb h))
 rintro vI h
 refine kL [] (h52 _ _ _ ?_ (sb h))
 rintro vJ h
 conv => whnf
 exact ⟨vI, vJ, ss h, rfl⟩
 rintro _ ⟨v6, v7, h, rfl⟩
 replace h := hrR5 _ h
 refine kL [] (h38 _ _ _ _ ?_ (sb h))
 rintro vK h
 refine kL [] (h38 _ _ _ _ ?_ (sb h))
 rintro vM h
 refine kL [] (h54 _ _ _ _ ?_ (sb h))
 rintro vN h
 refine kL [] (h53 _ _ _ ?_ (sb h))
 rintro vO h
 refine kc h ?_ ?_ <;> intro h
 refine kL [] (h55 _ _ _ _ ?_ (sb h))
 rintro vP h
 exact kR [] (ND 0) (hQ _ (ss h))
 exact kR [] (ND 0) (hQ _ (ss h))
theorem w55 {O : Oracle TT} (self56 : (BA × V) → (BA × V) → Option (Int)) (h56 : C56 O self56) : C55 (fun _ => vcF (S := SS) O j55) (b55 self56) := by
 intro l5 lF Q R hQ h
 unfold b55 at h
 refine ⟨nle rfl, rfl, ?_⟩
 obtain ⟨R6, h, a6, hrR6⟩ := sc h
 refine kX (fun σ => R6 (.inr ()) ∧ σ = ⟨[(0, .c (.isl .fld l5)), (1, .c (.isl .fld lF))], []⟩) ?_ ?_
 intro hlI
 refine kX (fun σ n => ∃ (rem8 : FV) (j9 : Nat) (z : Int), n = rem8.length ∧ l5.drop j9 = rem8 ∧ z = ((j9 : Nat) : Int) ∧ sat (f55_L2 self56 lF rem8 j9) R6 ∧ σ.keep [0, 1, 2, 11, 12, 13] [] = ⟨[(0, .c (.isl .fld l5)), (1, .c (.isl .fld lF)), (2, .c (.fn 56 [])), (11, .c (.isl .fld l5)), (12, iD ((l5.length : Nat) : Int)), (13, iD z)], []⟩) ⟨_, l5, 0, _, rfl, rfl, rfl, h, rfl⟩ ?_
 rintro σ n ⟨rem8, j9, _, rfl, hrem8, rfl, h, hσ⟩
 refine kk hσ ?_
 intro tA (htA : tA = decide (((j9 : Nat) : Int) < ((l5.length : Nat) : Int)))
 cases tA
 obtain rfl := ll_nil hrem8 htA
 rw [f55_L2] at h
 conv => whnf
 exact ⟨ss h, rfl⟩
 obtain ⟨xB, tlC, rfl, hxB, htlC⟩ := ll_cons hrem8 htA
 obtain ⟨aJ, ⟨kK, nM, sN, fO⟩⟩ := xB
 rw [f55_L2] at h
 conv => whnf
 refine ⟨lx_bd hxB, fun uuG huuG => ?_⟩
 obtain rfl := lx_eq hxB huuG
 intro hlP
 refine kc h ?_ ?_ <;> intro h
 refine kg (sat_getL h) fun uuH huuH h => ?_
 obtain ⟨aQ, ⟨kS, nT, sU, fV⟩⟩ := uuH
 refine kL [] (h56 _ _ _ _ _ _ _ _ _ _ _ _ ?_ (sb h))
 rintro vW h
 refine kc h ?_ ?_ <;> intro h
 conv => whnf
 exact ⟨tlC.length, nls, tlC, j9 + 1, _, rfl, htlC, lx_wr hxB hlI, h, rfl⟩
 replace h := sat_lft a6 h
 exact kR [] (ND 0) (hQ _ (ss h))
 replace h := sat_lft a6 h
 exact kR [] (ND 0) (hQ _ (ss h))
 rintro _ ⟨h, rfl⟩
 replace h := hrR6 _ h
 intro hlY
 intro hlZ
 refine kc h ?_ ?_ <;> intro h
 exact kR [] (ND 0) (hQ _ (ss h))
 exact kR [] (ND 0) (hQ _ (ss h))
theorem w56 {O : Oracle TT} (self34 : V → V → Option (Int)) (h34 : C34 O self34) (h54 : C54 O f54) (h53 : C53 O f53) : C56 (fun _ => vcF (S := SS) O j56) (b56 self34) := by
 intro a5 k6 n7 s8 f9 aA kB nC sF fG Q R hQ h
 unfold b56 at h
 refine ⟨nle rfl, rfl, ?_⟩
 refine kL [] (h54 _ _ _ _ ?_ (sb h))
 rintro vH h
 refine kL [] (h34 _ _ _ _ _ _ _ _ _ _ ?_ (sb h))
 rintro vI h
 refine kL [] (h53 _ _ _ ?_ (sb h))
 rintro vJ h
 exact kR [] (ND 0) (hQ _ (ss h))
theorem cg34 {P : Program} {fid : Nat → FuncId} (mx : MX P) (k34 : KF P fid 34 j34) (k55 : KF P fid 55 j55) (k56 : KF P fid 56 j56) (h52 : C52 (SP P fid) f52) (h38 : C38 (SP P fid) f38) (h54 : C54 (SP P fid) f54) (h53 : C53 (SP P fid) f53) : ∀ n, C34 (SP P fid) (f34 n) ∧ C55 (SP P fid) (f55 n) ∧ C56 (SP P fid) (f56 n) := by
 intro n
 induction n with
 | zero => exact ⟨fun a0 a5 a6 a7 a8 a9 aA aB Q R hQ h => (sat_none h).elim, fun a0 a5 Q R hQ h => (sat_none h).elim, fun a0 a5 a6 a7 a8 a9 aA aB aC aD Q R hQ h => (sat_none h).elim⟩
 | succ n ih =>
  obtain ⟨ih0, ih5, ih6⟩ := ih
  exact ⟨fun a0 a5 a6 a7 a8 a9 aA aB Q R hQ h => spec_of_vc mx k34 (w34 (f55 n) h52 h38 h54 h53 ih5 a0 a5 a6 a7 a8 a9 aA aB Q R hQ h), fun a0 a5 Q R hQ h => spec_of_vc mx k55 (w55 (f56 n) ih6 a0 a5 Q R hQ h), fun a0 a5 a6 a7 a8 a9 aA aB aC aD Q R hQ h => spec_of_vc mx k56 (w56 (f34 n) ih0 h54 h53 a0 a5 a6 a7 a8 a9 aA aB aC aD Q R hQ h)⟩
theorem c34 {P : Program} {fid : Nat → FuncId} (mx : MX P) (k34 : KF P fid 34 j34) (k55 : KF P fid 55 j55) (k56 : KF P fid 56 j56) (h52 : C52 (SP P fid) f52) (h38 : C38 (SP P fid) f38) (h54 : C54 (SP P fid) f54) (h53 : C53 (SP P fid) f53) : ∀ n, C34 (SP P fid) (f34 n) := fun n => (cg34 mx k34 k55 k56 h52 h38 h54 h53 n).1
def f11 (fuel : Nat) : V → V → Option (Bool)
 | .mk k5 n6 s7 f8, .mk k9 nA sB fC => (f34 fuel (V.mk k5 n6 s7 f8) (V.mk k9 nA sB fC)).bind fun vF => cond (vF == 0) (some true) (some false)
def C11 (O : Oracle TT) (m : V → V → Option (Bool)) : Prop :=
 ∀ k5 n6 s7 f8 k9 nA sB fC (Q : Bool → Prop) (R : RR) (_ : ∀ qF, Q qF → R (bD qF) []) (_ : sat (m (V.mk k5 n6 s7 f8) (V.mk k9 nA sB fC)) Q), O 11 [.agg [ci k5, ci n6, .str s7, .isl .fld f8], .agg [ci k9, ci nA, .str sB, .isl .fld fC]] [] R
def j11 : Fn TT := ⟨9, [.t 4], (sr [qo 2 (.box 2 0),qo 3 (.box 3 1),qm 4 bF] (sr [qo 5 (.load 2 4 true),qo 6 (.load 3 4 true),qo 7 (.call 7 34 [5, 6]),qo 8 (.bin .eql .num 7 (iC 0)),qm 4 8] .ret))⟩
theorem w11 {O : Oracle TT} (fuel : Nat) (h34 : C34 O (f34 fuel)) : C11 (fun _ => vcF (S := SS) O j11) (f11 fuel) := by
 intro k5 n6 s7 f8 k9 nA sB fC Q R hQ h
 unfold f11 at h
 refine ⟨nle rfl, rfl, ?_⟩
 refine kL [] (h34 _ _ _ _ _ _ _ _ _ _ ?_ (sb h))
 rintro vF h
 refine kc h ?_ ?_ <;> intro h
 exact kR [] (ND 0) (hQ _ (ss h))
 exact kR [] (ND 0) (hQ _ (ss h))
def f75_L2 (self75 : V → Option (Int)) : FV → Nat → Int → Option (Sum (Int) (Int))
 | [], j6, v5 => some (.inr v5)
 | ((aF, .mk k7 n8 s9 fA)) :: tlB, j6, v5 => (self75 (V.mk k7 n8 s9 fA)).bind fun vC => f75_L2 self75 tlB (j6 + 1) (wrap .i64 (v5 + vC))
def b75 (self75 : V → Option (Int)) : V → Option (Int)
 | .mk k7 n8 s9 f5 => sbind (ο := Int) (f75_L2 self75 f5 0 (1 : Int)) (fun v6 => some v6)
def f75 : Nat → V → Option (Int)
 | 0 => fun _ => none
 | n + 1 => b75 (f75 n)
def C75 (O : Oracle TT) (m : V → Option (Int)) : Prop :=
 ∀ k5 n6 s7 f8 (Q : Int → Prop) (R : RR) (_ : ∀ v9, Q v9 → R (iD v9) []) (_ : sat (m (V.mk k5 n6 s7 f8)) Q), O 75 [.agg [ci k5, ci n6, .str s7, .isl .fld f8]] [] R
def j75 : Fn TT := ⟨20, [.t 2], (sr [qo 1 (.box 1 0),qo 2 (.mv (iC 0))] (sr [qo 3 (.mv (iC 1))] (.cut [3] [] (sr [qo 6 (.fa 1 3),qo 7 (ld 6),qo 8 (.len false 7),qo 9 (.mv (iC 0))] (.block 0 (.loop (.keep [3, 7, 8, 9] [] (.aft (sr [qo 10 (.bin .lss .num 9 8)] (.seq (.cond 10 .skip (.exit 0)) (.seq (.block 1 (sr [qo 11 (.idxA 7 9 5),
 qo 12 (.load 11 5 true),qo 5 (.alloc 5 zFd),qp (.store 5 12 5)] (.reg [qm 13 3,qo 14 (.fa 5 1),qo 15 (.load 14 4 true),qo 16 (.call 16 75 [15]),qo 17 (.bin .add .num 13 16),qm 3 17]))) (.reg [qo 18 (.bin .add .num 9 (iC 1)),qm 9 18])))) [.keep [3, 7, 8, 9] []]))))) (sr [qm 19 3,qm 2 19] .ret))))⟩
theorem w75 {O : Oracle TT} (self75 : V → Option (Int)) (h75 : C75 O self75) : C75 (fun _ => vcF (S := SS) O j75) (b75 self75) := by
 intro kK nM sN f8 Q R hQ h
 unfold b75 at h
 refine ⟨nle rfl, rfl, ?_⟩
 obtain ⟨R9, h, a9, hrR9⟩ := sc h
 refine kX (fun σ => ∃ vG, R9 (.inr vG) ∧ σ = ⟨[(3, iD vG)], []⟩) ?_ ?_
 intro hlI
 refine kX (fun σ n => ∃ (rem5 : FV) (j6 : Nat) (z : Int) (vA : Int), n = rem5.length ∧ f8.drop j6 = rem5 ∧ z = ((j6 : Nat) : Int) ∧ sat (f75_L2 self75 rem5 j6 vA) R9 ∧ σ.keep [3, 7, 8, 9] [] = ⟨[(3, iD vA), (7, .c (.isl .fld f8)), (8, iD ((f8.length : Nat) : Int)), (9, iD z)], []⟩) ⟨_, f8, 0, _, (1 : Int), rfl, rfl, rfl, h, rfl⟩ ?_
 rintro σ n ⟨rem5, j6, _, vA, rfl, hrem5, rfl, h, hσ⟩
 refine kk hσ ?_
 intro tB (htB : tB = decide (((j6 : Nat) : Int) < ((f8.length : Nat) : Int)))
 cases tB
 obtain rfl := ll_nil hrem5 htB
 rw [f75_L2] at h
 conv => whnf
 exact ⟨vA, ss h, rfl⟩
 obtain ⟨xC, tlF, rfl, hxC, htlF⟩ := ll_cons hrem5 htB
 obtain ⟨aO, ⟨kP, nQ, sS, fT⟩⟩ := xC
 rw [f75_L2] at h
 conv => whnf
 refine ⟨lx_bd hxC, fun uuH huuH => ?_⟩
 obtain rfl := lx_eq hxC huuH
 refine kL [] (h75 _ _ _ _ _ _ ?_ (sb h))
 rintro vJ h
 conv => whnf
 exact ⟨tlF.length, nls, tlF, j6 + 1, _, (wrap .i64 (vA + vJ)), rfl, htlF, lx_wr hxC hlI, h, rfl⟩
 rintro _ ⟨vG, h, rfl⟩
 replace h := hrR9 _ h
 exact kR [] (ND 0) (hQ _ (ss h))
theorem cg75 {P : Program} {fid : Nat → FuncId} (mx : MX P) (k75 : KF P fid 75 j75) : ∀ n, C75 (SP P fid) (f75 n) := by
 intro n
 induction n with
 | zero => exact fun a0 a5 a6 a7 Q R hQ h => (sat_none h).elim
 | succ n ih =>
  have ih0 := ih
  exact fun a0 a5 a6 a7 Q R hQ h => spec_of_vc mx k75 (w75 (f75 n) ih0 a0 a5 a6 a7 Q R hQ h)
theorem c75 {P : Program} {fid : Nat → FuncId} (mx : MX P) (k75 : KF P fid 75 j75) : ∀ n, C75 (SP P fid) (f75 n) := fun n => (cg75 mx k75 n)
def f76_L2 (self76 : V → Option (Int)) : FV → Nat → Int → Option (Sum (Int) (Int))
 | [], j6, v5 => some (.inr v5)
 | ((aF, .mk k8 n9 sA fB)) :: tlC, j6, v5 => (self76 (V.mk k8 n9 sA fB)).bind fun v7 => f76_L2 self76 tlC (j6 + 1) (if v7 > v5 then v7 else v5)
def b76 (self76 : V → Option (Int)) : V → Option (Int)
 | .mk k7 n8 s9 f5 => sbind (ο := Int) (f76_L2 self76 f5 0 (0 : Int)) (fun v6 => some (wrap .i64 (v6 + 1)))
def f76 : Nat → V → Option (Int)
 | 0 => fun _ => none
 | n + 1 => b76 (f76 n)
def C76 (O : Oracle TT) (m : V → Option (Int)) : Prop :=
 ∀ k5 n6 s7 f8 (Q : Int → Prop) (R : RR) (_ : ∀ v9, Q v9 → R (iD v9) []) (_ : sat (m (V.mk k5 n6 s7 f8)) Q), O 76 [.agg [ci k5, ci n6, .str s7, .isl .fld f8]] [] R
def j76 : Fn TT := ⟨21, [.t 2], (sr [qo 1 (.box 1 0),qo 2 (.mv (iC 0))] (sr [qo 3 (.mv (iC 0))] (.cut [3] [] (sr [qo 6 (.fa 1 3),qo 7 (ld 6),qo 8 (.len false 7),qo 9 (.mv (iC 0))] (.block 0 (.loop (.keep [3, 7, 8, 9] [] (.aft (sr [qo 10 (.bin .lss .num 9 8)] (.seq (.cond 10 .skip (.exit 0)) (.seq (.block 1 (sr [qo 11 (.idxA 7 9 5),
 qo 12 (.load 11 5 true),qo 5 (.alloc 5 zFd),qp (.store 5 12 5)] (.reg [qm 13 3,qo 14 (.fa 5 1),qo 15 (.load 14 4 true),qo 16 (.call 16 76 [15]),qo 17 (.mx [13, 16]),qm 3 17]))) (.reg [qo 18 (.bin .add .num 9 (iC 1)),qm 9 18])))) [.keep [3, 7, 8, 9] []]))))) (sr [qm 19 3,qo 20 (.bin .add .num 19 (iC 1)),qm 2 20] .ret))))⟩
theorem w76 {O : Oracle TT} (self76 : V → Option (Int)) (h76 : C76 O self76) : C76 (fun _ => vcF (S := SS) O j76) (b76 self76) := by
 intro kK nM sN f9 Q R hQ h
 unfold b76 at h
 refine ⟨nle rfl, rfl, ?_⟩
 obtain ⟨RA, h, aA, hrRA⟩ := sc h
 refine kX (fun σ => ∃ vG, RA (.inr vG) ∧ σ = ⟨[(3, iD vG)], []⟩) ?_ ?_
 intro hlJ
 refine kX (fun σ n => ∃ (rem5 : FV) (j6 : Nat) (z : Int) (v8 : Int), n = rem5.length ∧ f9.drop j6 = rem5 ∧ z = ((j6 : Nat) : Int) ∧ sat (f76_L2 self76 rem5 j6 v8) RA ∧ σ.keep [3, 7, 8, 9] [] = ⟨[(3, iD v8), (7, .c (.isl .fld f9)), (8, iD ((f9.length : Nat) : Int)), (9, iD z)], []⟩) ⟨_, f9, 0, _, (0 : Int), rfl, rfl, rfl, h, rfl⟩ ?_
 rintro σ n ⟨rem5, j6, _, v8, rfl, hrem5, rfl, h, hσ⟩
 refine kk hσ ?_
 intro tB (htB : tB = decide (((j6 : Nat) : Int) < ((f9.length : Nat) : Int)))
 cases tB
 obtain rfl := ll_nil hrem5 htB
 rw [f76_L2] at h
 conv => whnf
 exact ⟨v8, ss h, rfl⟩
 obtain ⟨xC, tlF, rfl, hxC, htlF⟩ := ll_cons hrem5 htB
 obtain ⟨aO, ⟨kP, nQ, sS, fT⟩⟩ := xC
 rw [f76_L2] at h
 conv => whnf
 refine ⟨lx_bd hxC, fun uuH huuH => ?_⟩
 obtain rfl := lx_eq hxC huuH
 refine kL [] (h76 _ _ _ _ _ _ ?_ (sb h))
 rintro vI h
 conv => whnf
 exact ⟨tlF.length, nls, tlF, j6 + 1, _, (if vI > v8 then vI else v8), rfl, htlF, lx_wr hxC hlJ, h, rfl⟩
 rintro _ ⟨vG, h, rfl⟩
 replace h := hrRA _ h
 exact kR [] (ND 0) (hQ _ (ss h))
theorem cg76 {P : Program} {fid : Nat → FuncId} (mx : MX P) (k76 : KF P fid 76 j76) : ∀ n, C76 (SP P fid) (f76 n) := by
 intro n
 induction n with
 | zero => exact fun a0 a5 a6 a7 Q R hQ h => (sat_none h).elim
 | succ n ih =>
  have ih0 := ih
  exact fun a0 a5 a6 a7 Q R hQ h => spec_of_vc mx k76 (w76 (f76 n) ih0 a0 a5 a6 a7 Q R hQ h)
theorem c76 {P : Program} {fid : Nat → FuncId} (mx : MX P) (k76 : KF P fid 76 j76) : ∀ n, C76 (SP P fid) (f76 n) := fun n => (cg76 mx k76 n)
def f127 : Int → Option (Bool)
 | v0 => cond (decide (v0 ≥ 0)) (cond (decide (v0 ≤ 5)) (some true) (cond (v0 == 11) (some true) (some false))) (cond (v0 == 11) (some true) (some false))
def C127 (O : Oracle TT) (m : Int → Option (Bool)) : Prop :=
 ∀ v0 (Q : Bool → Prop) (R : RR) (_ : ∀ q5, Q q5 → R (bD q5) []) (_ : sat (m v0) Q), O 127 [iD v0] [] R
def j127 : Fn TT := ⟨13, [.t 2], (sr [qm 2 bF] (sr [qm 3 0,qo 4 (.bin .geq .num 3 (iC 0)),qm 5 4,qg 5 6 (.mv 0),qg 5 7 (.bin .leq .num 6 (iC 5)),qo 8 (.pick 5 7 bF),qm 9 8,qf 9 10 (.mv 0),qf 9 11 (.bin .eql .num 10 (iC 11)),qo 12 (.pick 9 bT 11),qm 2 12] .ret))⟩
theorem w127 {O : Oracle TT} : C127 (fun _ => vcF (S := SS) O j127) f127 := by
 intro v0 Q R hQ h
 unfold f127 at h
 refine ⟨nle rfl, rfl, ?_⟩
 refine kc h ?_ ?_ <;> intro h
 refine kc h ?_ ?_ <;> intro h
 exact kR [] (ND 0) (hQ _ (ss h))
 exact kR [] (ND 0) (hQ _ (ss h))
 refine kc h ?_ ?_ <;> intro h
 refine kc h ?_ ?_ <;> intro h
 exact kR [] (ND 0) (hQ _ (ss h))
 exact kR [] (ND 0) (hQ _ (ss h))
 exact kR [] (ND 0) (hQ _ (ss h))
def f99 : V → Option (Bool)
 | .mk k5 n6 s7 f8 => sbind (ο := Bool) (cond (decide (k5 ≥ 1)) (cond (decide (k5 ≤ 4)) (some (.inr true)) (cond (k5 == 11) (some (.inr true)) (some (.inr false)))) (cond (k5 == 11) (some (.inr true)) (some (.inr false)))) (fun q9 => sbind (ο := Bool) (cond q9 (some (.inr false)) (cond (n6 != 0) (some (.inr true)) (some (.inr false)))) (fun qA => sbind (ο := Bool) (cond qA (some (.inr true)) (cond (k5 != 5) (cond (!(s7.toList == (⟨#[]⟩ : BA).toList)) (some (.inr true)) (some (.inr false))) (some (.inr false)))) (fun qB => sbind (ο := Bool) (cond qB (some (.inr true)) ((f127 k5).bind fun qC => cond qC (cond (decide (((f8.length : Nat) : Int) > 0)) (some (.inr true)) (some (.inr false))) (some (.inr false)))) (fun qF => some qF))))
def C99 (O : Oracle TT) (m : V → Option (Bool)) : Prop :=
 ∀ k5 n6 s7 f8 (Q : Bool → Prop) (R : RR) (_ : ∀ q9, Q q9 → R (bD q9) []) (_ : sat (m (V.mk k5 n6 s7 f8)) Q), O 99 [.agg [ci k5, ci n6, .str s7, .isl .fld f8]] [] R
def j99 : Fn TT := ⟨45, [.t 2], (sr [qo 1 (.box 1 0),qm 2 bF] (.cut [1, 3] [(.s 1)] (.reg [qo 4 (.fa 1 0),qo 5 (ld 4),qo 6 (.bin .geq .num 5 (iC 1)),qm 7 6,qg 7 8 (.fa 1 0),qg 7 9 (ld 8),qg 7 10 (.bin .leq .num 9 (iC 4)),qo 11 (.pick 7 10 bF),qm 12 11,qf 12 13 (.fa 1 0),qf 12 14 (ld 13),
 qf 12 15 (.bin .eql .num 14 (iC 11)),qo 16 (.pick 12 bT 15),qm 3 16]) (.seq (.regc [([qm 17 3,qo 18 (.un .not 17),qm 19 18,qg 19 20 (.fa 1 1),qg 19 21 (ld 20),qg 19 22 (.bin .neq .num 21 (iC 0)),qo 23 (.pick 19 22 bF)], [1, 23], [(.s 1)]), ([qm 24 23,qf 24 25 (.fa 1 0),qf 24 26 (ld 25),qf 24 27 (.bin .neq .num 26 (iC 5)),qf 24 28 (.mv 27),
 qg 28 29 (.fa 1 2),qg 28 30 (ld 29),qg 28 31 (.bin .neq .str 30 sE),qf 24 32 (.pick 28 31 bF),qo 33 (.pick 24 bT 32)], [1, 33], [(.s 1)]), ([qm 34 33,qf 34 35 (.fa 1 0),qf 34 36 (ld 35),qf 34 37 (.call 37 127 [36]),qf 34 38 (.mv 37),qg 38 39 (.fa 1 3),qg 38 40 (ld 39),qg 38 41 (.len false 40),qg 38 42 (.bin .gtr .num 41 (iC 0)),
 qf 34 43 (.pick 38 42 bF),qo 44 (.pick 34 bT 43)], [44], [])] [qm 2 44]) .ret)))⟩
theorem w99 {O : Oracle TT} (h127 : C127 O f127) : C99 (fun _ => vcF (S := SS) O j99) f99 := by
 intro kG nH sI fJ Q R hQ h
 unfold f99 at h
 refine ⟨nle rfl, rfl, ?_⟩
 obtain ⟨R5, h, a5, b5⟩ := sc h
 refine kX (fun σ => ∃ q6, R5 (.inr q6) ∧ σ = ⟨[pT 1, (3, bD q6)], [eV (.s 1) [ci kG, ci nH, .str sI, .isl .fld fJ]]⟩) ?_ ?_
 refine kc h ?_ ?_ <;> intro h
 refine kc h ?_ ?_ <;> intro h
 conv => whnf
 exact ⟨false, ss h, rfl⟩
 conv => whnf
 exact ⟨true, ss h, rfl⟩
 refine kc h ?_ ?_ <;> intro h
 refine kc h ?_ ?_ <;> intro h
 conv => whnf
 exact ⟨false, ss h, rfl⟩
 conv => whnf
 exact ⟨true, ss h, rfl⟩
 conv => whnf
 exact ⟨true, ss h, rfl⟩
 rintro _ ⟨q6, h, rfl⟩
 replace h := b5 _ h
 obtain ⟨R8, h, a8, b8⟩ := sc h
 refine kX (fun σ => ∃ q9, R8 (.inr q9) ∧ σ = ⟨[pT 1, (23, bD q9)], [eV (.s 1) [ci kG, ci nH, .str sI, .isl .fld fJ]]⟩) ?_ ?_
 cases q6
 replace h := cf h
 refine kc h ?_ ?_ <;> intro h
 conv => whnf
 exact ⟨false, ss h, rfl⟩
 conv => whnf
 exact ⟨true, ss h, rfl⟩
 replace h := ct h
 conv => whnf
 exact ⟨false, ss h, rfl⟩
 rintro _ ⟨q9, h, rfl⟩
 replace h := b8 _ h
 obtain ⟨RA, h, aA, bA⟩ := sc h
 refine kX (fun σ => ∃ qB, RA (.inr qB) ∧ σ = ⟨[pT 1, (33, bD qB)], [eV (.s 1) [ci kG, ci nH, .str sI, .isl .fld fJ]]⟩) ?_ ?_
 cases q9
 replace h := cf h
 refine kc h ?_ ?_ <;> intro h
 conv => whnf
 exact ⟨false, ss h, rfl⟩
 refine kc h ?_ ?_ <;> intro h
 conv => whnf
 exact ⟨false, ss h, rfl⟩
 conv => whnf
 exact ⟨true, ss h, rfl⟩
 replace h := ct h
 conv => whnf
 exact ⟨true, ss h, rfl⟩
 rintro _ ⟨qB, h, rfl⟩
 replace h := bA _ h
 obtain ⟨RC, h, aC, bC⟩ := sc h
 refine kX (fun σ => ∃ qK, RC (.inr qK) ∧ σ = ⟨[(44, bD qK)], []⟩) ?_ ?_
 cases qB
 replace h := cf h
 refine kL [] (h127 _ _ _ ?_ (sb h))
 rintro qM h
 cases qM
 replace h := cf h
 conv => whnf
 exact ⟨false, ss h, rfl⟩
 replace h := ct h
 intro hlN
 refine kc h ?_ ?_ <;> intro h
 conv => whnf
 exact ⟨false, ss h, rfl⟩
 conv => whnf
 exact ⟨true, ss h, rfl⟩
 replace h := ct h
 conv => whnf
 exact ⟨true, ss h, rfl⟩
 rintro _ ⟨qK, h, rfl⟩
 replace h := bC _ h
 exact kR [] (ND 0) (hQ _ (ss h))
def f100 : V → Option (Bool)
 | .mk k6 n5 s7 f8 => cond (k6 == 1) (cond (n5 == 0) (some true) (cond (n5 == 1) (some true) (some false))) (cond (k6 == 2) (cond (decide (n5 ≥ (-9007199254740992))) (cond (decide (n5 ≤ 9007199254740992)) (some true) (some false)) (some false)) (cond (k6 == 4) (cond (decide (n5 ≥ 0)) (cond (decide (n5 ≤ 4194304)) (some true) (some false)) (some false)) (cond (k6 == 11) (cond (decide (n5 ≥ 0)) (cond (decide (n5 ≤ 9007199254740992)) (some true) (some false)) (some false)) (some true))))
def C100 (O : Oracle TT) (m : V → Option (Bool)) : Prop :=
 ∀ k5 n6 s7 f8 (Q : Bool → Prop) (R : RR) (_ : ∀ q9, Q q9 → R (bD q9) []) (_ : sat (m (V.mk k5 n6 s7 f8)) Q), O 100 [.agg [ci k5, ci n6, .str s7, .isl .fld f8]] [] R
def j100 : Fn TT := ⟨45, [.t 2], (sr [qo 1 (.box 1 0),qm 2 bF] (.seq (sr [qo 3 (.fa 1 0),qo 4 (ld 3)] (.block 0 (sr [qo 6 (.bin .eql .num 4 (iC 1)),qm 5 6] (.cond 5 (sr [qo 7 (.fa 1 1),qo 8 (ld 7),qo 9 (.bin .eql .num 8 (iC 0)),qm 10 9,qf 10 11 (.fa 1 1),qf 10 12 (ld 11),
 qf 10 13 (.bin .eql .num 12 (iC 1)),qo 14 (.pick 10 bT 13),qm 2 14] .ret) (sr [qo 16 (.bin .eql .num 4 (iC 2)),qm 15 16] (.cond 15 (sr [qo 17 (.fa 1 1),qo 18 (ld 17),qo 19 (.bin .geq .num 18 (iC (-9007199254740992))),qm 20 19,qg 20 21 (.fa 1 1),qg 20 22 (ld 21),qg 20 23 (.bin .leq .num 22 (iC 9007199254740992)),
 qo 24 (.pick 20 23 bF),qm 2 24] .ret) (sr [qo 26 (.bin .eql .num 4 (iC 4)),qm 25 26] (.cond 25 (sr [qo 27 (.fa 1 1),qo 28 (ld 27),qo 29 (.bin .geq .num 28 (iC 0)),qm 30 29,qg 30 31 (.fa 1 1),qg 30 32 (ld 31),qg 30 33 (.bin .leq .num 32 (iC 4194304)),qo 34 (.pick 30 33 bF),qm 2 34] .ret) (.seq
 (.reg [qo 36 (.bin .eql .num 4 (iC 11)),qm 35 36]) (.cond 35 (sr [qo 37 (.fa 1 1),qo 38 (ld 37),qo 39 (.bin .geq .num 38 (iC 0)),qm 40 39,qg 40 41 (.fa 1 1),qg 40 42 (ld 41),qg 40 43 (.bin .leq .num 42 (iC 9007199254740992)),qo 44 (.pick 40 43 bF),qm 2 44] .ret) .skip)))))))))) (sr [qm 2 bT] .ret)))⟩
theorem w100 {O : Oracle TT} : C100 (fun _ => vcF (S := SS) O j100) f100 := by
 intro k5 n6 s7 f8 Q R hQ h
 unfold f100 at h
 refine ⟨nle rfl, rfl, ?_⟩
 refine kc h ?_ ?_ <;> intro h
 refine kc h ?_ ?_ <;> intro h
 refine kc h ?_ ?_ <;> intro h
 refine kc h ?_ ?_ <;> intro h
 exact kR [] (ND 0) (hQ _ (ss h))
 refine kc h ?_ ?_ <;> intro h
 exact kR [] (ND 0) (hQ _ (ss h))
 refine kc h ?_ ?_ <;> intro h
 exact kR [] (ND 0) (hQ _ (ss h))
 exact kR [] (ND 0) (hQ _ (ss h))
 refine kc h ?_ ?_ <;> intro h
 exact kR [] (ND 0) (hQ _ (ss h))
 refine kc h ?_ ?_ <;> intro h
 exact kR [] (ND 0) (hQ _ (ss h))
 exact kR [] (ND 0) (hQ _ (ss h))
 refine kc h ?_ ?_ <;> intro h
 exact kR [] (ND 0) (hQ _ (ss h))
 refine kc h ?_ ?_ <;> intro h
 exact kR [] (ND 0) (hQ _ (ss h))
 exact kR [] (ND 0) (hQ _ (ss h))
 refine kc h ?_ ?_ <;> intro h
 refine kc h ?_ ?_ <;> intro h
 exact kR [] (ND 0) (hQ _ (ss h))
 exact kR [] (ND 0) (hQ _ (ss h))
 exact kR [] (ND 0) (hQ _ (ss h))
def f129_L2 (k6 : Int) (f7 : FV) : FV → Nat → Option (Sum (Int) (Unit))
 | [], j5 => some (.inr ())
 | ((a8, .mk kG nH sI fJ)) :: tl9, j5 => cond (k6 == 8) (cond (!(a8.toList == (⟨#[]⟩ : BA).toList)) (lft (some 3)) (cond (k6 == 8) (f129_L2 k6 f7 tl9 (j5 + 1)) (cond (decide ((a8.size : Int) > 4000)) (lft (some 2)) (cond (decide (((j5 : Nat) : Int) > 0)) (getL f7 (wrap .i64 (((j5 : Nat) : Int) - 1)) fun uuC => match uuC with | (aA, .mk kK nM sN fO) => cond ((Op.bytesLess a8.toList aA.toList || a8.toList == aA.toList)) (lft (some 9)) (f129_L2 k6 f7 tl9 (j5 + 1))) (f129_L2 k6 f7 tl9 (j5 + 1)))))) (cond (k6 == 8) (f129_L2 k6 f7 tl9 (j5 + 1)) (cond (decide ((a8.size : Int) > 4000)) (lft (some 2)) (cond (decide (((j5 : Nat) : Int) > 0)) (getL f7 (wrap .i64 (((j5 : Nat) : Int) - 1)) fun uuF => match uuF with | (aB, .mk kP nQ sS fT) => cond ((Op.bytesLess a8.toList aB.toList || a8.toList == aB.toList)) (lft (some 9)) (f129_L2 k6 f7 tl9 (j5 + 1))) (f129_L2 k6 f7 tl9 (j5 + 1)))))
def f129 : V → Option (Int)
 | .mk k6 n7 s8 f5 => sbind (ο := Unit) (f129_L2 k6 f5 f5 0) (fun () => some 0)
def C129 (O : Oracle TT) (m : V → Option (Int)) : Prop :=
 ∀ k5 n6 s7 f8 (Q : Int → Prop) (R : RR) (_ : ∀ v9, Q v9 → R (iD v9) []) (_ : sat (m (V.mk k5 n6 s7 f8)) Q), O 129 [.agg [ci k5, ci n6, .str s7, .isl .fld f8]] [] R
def j129 : Fn TT := ⟨47, [.t 2], (sr [qo 1 (.box 1 0),qo 2 (.mv (iC 0))] (.cut [] [] (sr [qo 5 (.fa 1 3),qo 6 (ld 5),qo 7 (.len false 6),qo 8 (.mv (iC 0))] (.block 0 (.loop (.keep [1, 6, 7, 8] [(.s 1)] (.aft (sr [qo 9 (.bin .lss .num 8 7)] (.seq (.cond 9 .skip (.exit 0)) (.seq (.block 1 (sr [qm 10 8,qo 11 (.idxA 6 8 5),
 qo 12 (.load 11 5 true),qo 4 (.alloc 4 zFd),qm 3 10,qp (.store 4 12 5)] (.block 2 (sr [qo 14 (.fa 1 0),qo 15 (ld 14),qo 16 (.bin .eql .num 15 (iC 8)),qm 17 16,qg 17 18 (.fa 4 0),qg 17 19 (ld 18),qg 17 20 (.bin .neq .str 19 sE),qo 21 (.pick 17 20 bF),qm 13 21] (.cond 13 (sr [qo 2 (.mv (iC 3))] .ret) (sr [qo 23 (.fa 1 0),
 qo 24 (ld 23),qo 25 (.bin .eql .num 24 (iC 8)),qm 22 25] (.cond 22 .skip (sr [qo 27 (.fa 4 0),qo 28 (ld 27),qo 29 (.len true 28),qo 30 (.bin .gtr .num 29 (iC 4000)),qm 26 30] (.cond 26 (sr [qo 2 (.mv (iC 2))] .ret) (.seq (.drw [] (oR 15) [] (List.range 15) [qm 32 3,qo 33 (.bin .gtr .num 32 (iC 0)),qm 34 33,
 qg 34 35 (.fa 4 0),qg 34 36 (ld 35),qg 34 37 (.fa 1 3),qg 34 38 (ld 37),qg 34 39 (.mv 3),qg 34 40 (.bin .sub .num 39 (iC 1)),qg 34 41 (.idxA 38 40 5),qg 34 42 (.fa 41 0),qg 34 43 (ld 42),qg 34 44 (.bin .leq .str 36 43),qo 45 (.pick 34 44 bF),qm 31 45]) (.cond 31 (sr [qo 2 (.mv (iC 9))] .ret) .skip)))))))))))
 (.reg [qo 46 (.bin .add .num 8 (iC 1)),qm 8 46])))) [.keep [1, 6, 7, 8] [(.s 1)]]))))) (sr [qo 2 (.mv (iC 0))] .ret)))⟩
theorem w129 {O : Oracle TT} : C129 (fun _ => vcF (S := SS) O j129) f129 := by
 intro kH nM sN fA Q R hQ h
 unfold f129 at h
 refine ⟨nle rfl, rfl, ?_⟩
 obtain ⟨R8, h, a8, b8⟩ := sc h
 refine kX (fun σ => R8 (.inr ()) ∧ σ = ⟨[], []⟩) ?_ ?_
 intro hlC
 refine kX (fun σ n => ∃ (remB : FV) (j6 : Nat) (z : Int), n = remB.length ∧ fA.drop j6 = remB ∧ z = ((j6 : Nat) : Int) ∧ sat (f129_L2 kH fA remB j6) R8 ∧ σ.keep [1, 6, 7, 8] [(.s 1)] = ⟨[pT 1, (6, .c (.isl .fld fA)), (7, iD ((fA.length : Nat) : Int)), (8, iD z)], [eV (.s 1) [ci kH, ci nM, .str sN, .isl .fld fA]]⟩) ⟨_, fA, 0, _, rfl, rfl, rfl, h, rfl⟩ ?_
 rintro σ n ⟨remB, j6, _, rfl, hremB, rfl, h, hσ⟩
 refine kk hσ ?_
 intro tG (htG : tG = decide (((j6 : Nat) : Int) < ((fA.length : Nat) : Int)))
 cases tG
 obtain rfl := ll_nil hremB htG
 rw [f129_L2] at h
 conv => whnf
 exact ⟨ss h, rfl⟩
 obtain ⟨x9, tl5, rfl, hx9, htl5⟩ := ll_cons hremB htG
 obtain ⟨aO, ⟨kP, nQ, sS, fU⟩⟩ := x9
 rw [f129_L2] at h
 conv => whnf
 refine ⟨lx_bd hx9, fun uuI huuI => ?_⟩
 obtain rfl := lx_eq hx9 huuI
 refine kc h ?_ ?_ <;> intro h
 refine kc h ?_ ?_ <;> intro h
 refine kc h ?_ ?_ <;> intro h
 refine kc h ?_ ?_ <;> intro h
 conv => whnf
 exact ⟨tl5.length, nls, tl5, j6 + 1, _, rfl, htl5, lx_wr hx9 hlC, h, rfl⟩
 refine kg (sat_getL h) fun uuJ huuJ h => ?_
 obtain ⟨aV, ⟨kW, nY, sZ, f00⟩⟩ := uuJ
 refine kc h ?_ ?_ <;> intro h
 conv => whnf
 exact ⟨tl5.length, nls, tl5, j6 + 1, _, rfl, htl5, lx_wr hx9 hlC, h, rfl⟩
 replace h := sat_lft a8 h
 exact kR [] (ND 0) (hQ _ (ss h))
 replace h := sat_lft a8 h
 exact kR [] (ND 0) (hQ _ (ss h))
 conv => whnf
 exact ⟨tl5.length, nls, tl5, j6 + 1, _, rfl, htl5, lx_wr hx9 hlC, h, rfl⟩
 refine kc h ?_ ?_ <;> intro h
 refine kc h ?_ ?_ <;> intro h
 refine kc h ?_ ?_ <;> intro h
 refine kc h ?_ ?_ <;> intro h
 conv => whnf
 exact ⟨tl5.length, nls, tl5, j6 + 1, _, rfl, htl5, lx_wr hx9 hlC, h, rfl⟩
 refine kg (sat_getL h) fun uuK huuK h => ?_
 obtain ⟨a01, ⟨k02, n03, s04, f05⟩⟩ := uuK
 refine kc h ?_ ?_ <;> intro h
 conv => whnf
 exact ⟨tl5.length, nls, tl5, j6 + 1, _, rfl, htl5, lx_wr hx9 hlC, h, rfl⟩
 replace h := sat_lft a8 h
 exact kR [] (ND 0) (hQ _ (ss h))
 replace h := sat_lft a8 h
 exact kR [] (ND 0) (hQ _ (ss h))
 conv => whnf
 exact ⟨tl5.length, nls, tl5, j6 + 1, _, rfl, htl5, lx_wr hx9 hlC, h, rfl⟩
 replace h := sat_lft a8 h
 exact kR [] (ND 0) (hQ _ (ss h))
 rintro _ ⟨h, rfl⟩
 replace h := b8 _ h
 exact kR [] (ND 0) (hQ _ (ss h))
def f132_L2 : LI → Nat → Option (Sum (Bool) (Unit))
 | [], j5 => some (.inr ())
 | c0 :: tl6, j5 => sbind (ο := Bool) (cond (decide (c0 ≥ 97)) (cond (decide (c0 ≤ 122)) (some (.inr true)) (some (.inr false))) (some (.inr false))) (fun q7 => sbind (ο := Bool) (cond q7 (some (.inr true)) (cond (decide (c0 ≥ 48)) (cond (decide (c0 ≤ 57)) (some (.inr true)) (some (.inr false))) (some (.inr false)))) (fun q8 => sbind (ο := Bool) (cond q8 (some (.inr true)) (cond (c0 == 45) (some (.inr true)) (some (.inr false)))) (fun q9 => cond q9 (f132_L2 tl6 (j5 + 1)) (lft (some false)))))
def f132 : BA → Option (Bool)
 | s3 => cond (s3.toList == (⟨#[]⟩ : BA).toList) (some false) (cond (decide ((s3.size : Int) > 16)) (some false) (getB s3 0 fun c4 => cond (decide ((c4.toNat : Int) < 97)) (some false) (getB s3 0 fun c5 => cond (decide ((c5.toNat : Int) > 122)) (some false) (sbind (ο := Unit) (grdP ((s3.size : Nat) ≤ 9223372036854775807) (f132_L2 (bytesJ s3) 0)) (fun () => some true)))))
def C132 (O : Oracle TT) (m : BA → Option (Bool)) : Prop :=
 ∀ s5 (Q : Bool → Prop) (R : RR) (_ : ∀ q6, Q q6 → R (bD q6) []) (_ : sat (m s5) Q), O 132 [sD s5] [] R
def j132 : Fn TT := ⟨49, [.t 2], (sr [qm 2 bF] (.seq (sr [qm 5 0,qo 6 (.bin .eql .str 5 sE),qm 7 6,qf 7 8 (.mv 0),qf 7 9 (.len true 8),qf 7 10 (.bin .gtr .num 9 (iC 16)),qo 11 (.pick 7 bT 10),qm 12 11,qf 12 13 (.mv 0),qf 12 14 (.idxS 13 (iC 0)),qf 12 15 (.bin .lss .num 14 (.c (.int .u8 97))),qo 16 (.pick 12 bT 15),qm 17 16,
 qf 17 18 (.mv 0),qf 17 19 (.idxS 18 (iC 0)),qf 17 20 (.bin .gtr .num 19 (.c (.int .u8 122))),qo 21 (.pick 17 bT 20)] (.cond 21 (sr [qm 2 bF] .ret) .skip)) (.cut [] [] (sr [qm 22 0,qo 23 (.s2b 22),qo 24 (.len false 23),qo 25 (.mv (iC 0))] (.block 0 (.loop (.keep [23, 24, 25] [] (.aft (sr [qo 26 (.bin .lss .num 25 24)] (.seq (.cond 26 .skip (.exit 0))
 (.seq (.block 1 (sr [qo 27 (.idxA 23 25 1),qo 28 (ld 27),qm 4 28] (.seq (.regc [([qm 29 4,qo 30 (.bin .geq .num 29 (.c (.int .u8 97))),qm 31 30,qg 31 32 (.mv 4),qg 31 33 (.bin .leq .num 32 (.c (.int .u8 122))),qo 34 (.pick 31 33 bF)], [4, 23, 24, 25, 34], []), ([qm 35 34,qf 35 36 (.mv 4),qf 35 37 (.bin .geq .num 36 (.c (.int .u8 48))),
 qf 35 38 (.mv 37),qg 38 39 (.mv 4),qg 38 40 (.bin .leq .num 39 (.c (.int .u8 57))),qf 35 41 (.pick 38 40 bF),qo 42 (.pick 35 bT 41)], [4, 23, 24, 25, 42], []), ([qm 43 42,qf 43 44 (.mv 4),qf 43 45 (.bin .eql .num 44 (.c (.int .u8 45))),qo 46 (.pick 43 bT 45)], [23, 24, 25, 46], [])] [qo 47 (.un .not 46)]) (.cond 47 (sr [qm 2 bF] .ret) .skip))))
 (.reg [qo 48 (.bin .add .num 25 (iC 1)),qm 25 48])))) [.keep [23, 24, 25] []]))))) (sr [qm 2 bT] .ret))))⟩
theorem w132 {O : Oracle TT} : C132 (fun _ => vcF (S := SS) O j132) f132 := by
 intro s5 Q R hQ h
 unfold f132 at h
 refine ⟨nle rfl, rfl, ?_⟩
 refine kc h ?_ ?_ <;> intro h
 refine kc h ?_ ?_ <;> intro h
 refine kg (sat_getB h) fun cO hcO h => ?_
 refine kc h ?_ ?_ <;> intro h
 refine kg (sat_getB h) fun cP hcP h => ?_
 refine kc h ?_ ?_ <;> intro h
 obtain ⟨R9, h, a9, b9⟩ := sc h
 refine kX (fun σ => R9 (.inr ()) ∧ σ = ⟨[], []⟩) ?_ ?_
 refine kp h fun hbS h => ?_
 intro hlQ
 refine kX (fun σ n => ∃ (rem8 : LI) (j6 : Nat) (z : Int), n = rem8.length ∧ (bytesJ s5).drop j6 = rem8 ∧ z = ((j6 : Nat) : Int) ∧ sat (f132_L2 rem8 j6) R9 ∧ σ.keep [23, 24, 25] [] = ⟨[(23, .c (.isl .u8 (bytesJ s5))), (24, iD (((bytesJ s5).length : Nat) : Int)), (25, iD z)], []⟩) ⟨_, (bytesJ s5), 0, _, rfl, rfl, rfl, h, rfl⟩ ?_
 rintro σ n ⟨rem8, j6, _, rfl, hrem8, rfl, h, hσ⟩
 refine kk hσ ?_
 intro tA (htA : tA = decide (((j6 : Nat) : Int) < (((bytesJ s5).length : Nat) : Int)))
 cases tA
 obtain rfl := ll_nil hrem8 htA
 rw [f132_L2] at h
 conv => whnf
 exact ⟨ss h, rfl⟩
 obtain ⟨cM, tlB, rfl, hxL, htlB⟩ := ll_cons hrem8 htA
 rw [f132_L2] at h
 conv => whnf
 refine ⟨lx_bd hxL, fun uuN huuN => ?_⟩
 obtain rfl := lx_eq hxL huuN
 obtain ⟨RC, h, aC, bC⟩ := sc h
 refine kX (fun σ => ∃ qG, RC (.inr qG) ∧ σ = ⟨[(4, .c (.int .u8 cM)), (23, .c (.isl .u8 (bytesJ s5))), (24, iD (((bytesJ s5).length : Nat) : Int)), (25, iD ((j6 : Nat) : Int)), (34, bD qG)], []⟩) ?_ ?_
 refine kc h ?_ ?_ <;> intro h
 conv => whnf
 exact ⟨false, ss h, rfl⟩
 refine kc h ?_ ?_ <;> intro h
 conv => whnf
 exact ⟨false, ss h, rfl⟩
 conv => whnf
 exact ⟨true, ss h, rfl⟩
 rintro _ ⟨qG, h, rfl⟩
 replace h := bC _ h
 obtain ⟨RH, h, aH, bH⟩ := sc h
 refine kX (fun σ => ∃ qI, RH (.inr qI) ∧ σ = ⟨[(4, .c (.int .u8 cM)), (23, .c (.isl .u8 (bytesJ s5))), (24, iD (((bytesJ s5).length : Nat) : Int)), (25, iD ((j6 : Nat) : Int)), (42, bD qI)], []⟩) ?_ ?_
 cases qG
 replace h := cf h
 refine kc h ?_ ?_ <;> intro h
 conv => whnf
 exact ⟨false, ss h, rfl⟩
 refine kc h ?_ ?_ <;> intro h
 conv => whnf
 exact ⟨false, ss h, rfl⟩
 conv => whnf
 exact ⟨true, ss h, rfl⟩
 replace h := ct h
 conv => whnf
 exact ⟨true, ss h, rfl⟩
 rintro _ ⟨qI, h, rfl⟩
 replace h := bH _ h
 obtain ⟨RJ, h, aJ, bJ⟩ := sc h
 refine kX (fun σ => ∃ qK, RJ (.inr qK) ∧ σ = ⟨[(23, .c (.isl .u8 (bytesJ s5))), (24, iD (((bytesJ s5).length : Nat) : Int)), (25, iD ((j6 : Nat) : Int)), (46, bD qK)], []⟩) ?_ ?_
 cases qI
 replace h := cf h
 refine kc h ?_ ?_ <;> intro h
 conv => whnf
 exact ⟨false, ss h, rfl⟩
 conv => whnf
 exact ⟨true, ss h, rfl⟩
 replace h := ct h
 conv => whnf
 exact ⟨true, ss h, rfl⟩
 rintro _ ⟨qK, h, rfl⟩
 replace h := bJ _ h
 cases qK
 replace h := cf h
 replace h := sat_lft a9 h
 exact kR [] (ND 0) (hQ _ (ss h))
 replace h := ct h
 conv => whnf
 exact ⟨tlB.length, nls, tlB, j6 + 1, _, rfl, htlB, lx_wr hxL hlQ, h, rfl⟩
 rintro _ ⟨h, rfl⟩
 replace h := b9 _ h
 exact kR [] (ND 0) (hQ _ (ss h))
 exact kR [] (ND 0) (hQ _ (ss h))
 exact kR [] (ND 0) (hQ _ (ss h))
 exact kR [] (ND 0) (hQ _ (ss h))
 exact kR [] (ND 0) (hQ _ (ss h))
def f152 : (BA × V) → BA → Int → Int → BA → FV → Option (Bool)
 | (a5, .mk k7 n8 s9 fA), s6, vB, vC, sF, lG => cond (a5.toList == s6.toList) (some true) (some false)
def C152 (O : Oracle TT) (m : (BA × V) → BA → Int → Int → BA → FV → Option (Bool)) : Prop :=
 ∀ aA kB nC sF fG s5 v6 v7 s8 l9 (Q : Bool → Prop) (R : RR) (_ : ∀ qH, Q qH → R (bD qH) [eV (.x 0) [.str s5, ci v6, ci v7, .str s8, .isl .fld l9]]) (_ : sat (m (aA, (V.mk kB nC sF fG)) s5 v6 v7 s8 l9) Q), O 152 [.agg [.str aA, ci kB, ci nC, .str sF, .isl .fld fG], pX 0] [eV (.x 0) [.str s5, ci v6, ci v7, .str s8, .isl .fld l9]] R
def j152 : Fn TT := ⟨9, [.t 3], (sr [qo 2 (.box 2 0),qm 3 bF] (sr [qo 4 (.fa 2 0),qo 5 (ld 4),qo 6 (.fa 1 0),qo 7 (ld 6),qo 8 (.bin .eql .str 5 7),qm 3 8] .ret))⟩
theorem w152 {O : Oracle TT} : C152 (fun _ => vcF (S := SS) O j152) f152 := by
 intro a5 k6 n7 s8 f9 sA vB vC sF lG Q R hQ h
 unfold f152 at h
 refine ⟨nle rfl, rfl, ?_⟩
 refine kc h ?_ ?_ <;> intro h
 exact kR [] (ND 1) (hQ _ (ss h))
 exact kR [] (ND 1) (hQ _ (ss h))
def f163_L2 (s6 : BA) (v7 : Int) (v8 : Int) (s9 : BA) (lA : FV) : FV → Nat → Option (Sum (Int) (Unit))
 | [], j5 => some (.inr ())
 | ((aB, .mk kC nF sG fH)) :: tlI, j5 => (f152 (aB, (V.mk kC nF sG fH)) s6 v7 v8 s9 lA).bind fun qJ => cond qJ (lft (some ((j5 : Nat) : Int))) (f163_L2 s6 v7 v8 s9 lA tlI (j5 + 1))
def f163 : FV → BA → Int → Int → BA → FV → Option (Int)
 | l5, s6, v7, v8, s9, lA => sbind (ο := Unit) (f163_L2 s6 v7 v8 s9 lA l5 0) (fun () => some (-1))
def C163 (O : Oracle TT) (m : FV → BA → Int → Int → BA → FV → Option (Int)) : Prop :=
 ∀ lA s5 v6 v7 s8 l9 (Q : Int → Prop) (R : RR) (_ : ∀ vB, Q vB → R (iD vB) [eV (.x 0) [.str s5, ci v6, ci v7, .str s8, .isl .fld l9]]) (_ : sat (m lA s5 v6 v7 s8 l9) Q), O 163 [.c (.isl .fld lA), .c (.fn 152 [(.x 0)])] [eV (.x 0) [.str s5, ci v6, ci v7, .str s8, .isl .fld l9]] R
def j163 : Fn TT := ⟨19, [.t 4], (sr [qo 4 (.mv (iC 0))] (.cut [] [(.x 0)] (sr [qm 6 0,qo 7 (.len false 6),qo 8 (.mv (iC 0))] (.block 0 (.loop (.keep [0, 1, 7, 8] [(.x 0)] (.aft (sr [qo 9 (.bin .lss .num 8 7)] (.seq (.cond 9 .skip (.exit 0)) (.seq (.block 1 (sr [qm 10 8,qm 5 10] (sr [qm 11 1,qm 12 0,
 qm 13 5,qo 14 (.idxA 12 13 5),qo 15 (.load 14 5 true),qo 16 (.callv 16 11 [15])] (.cond 16 (sr [qm 17 5,qm 4 17] .ret) .skip)))) (.reg [qo 18 (.bin .add .num 8 (iC 1)),qm 8 18])))) [.keep [0, 1, 7, 8] [(.x 0)]]))))) (sr [qo 4 (.mv (iC (-1)))] .ret)))⟩
theorem w163 {O : Oracle TT} (h152 : C152 O f152) : C163 (fun _ => vcF (S := SS) O j163) f163 := by
 intro l9 sG vH vI sJ lK Q R hQ h
 unfold f163 at h
 refine ⟨nle rfl, rfl, ?_⟩
 obtain ⟨R6, h, a6, b6⟩ := sc h
 refine kX (fun σ => R6 (.inr ()) ∧ σ = ⟨[], [eV (.x 0) [.str sG, ci vH, ci vI, .str sJ, .isl .fld lK]]⟩) ?_ ?_
 intro hlN
 refine kX (fun σ n => ∃ (rem5 : FV) (j8 : Nat) (z : Int), n = rem5.length ∧ l9.drop j8 = rem5 ∧ z = ((j8 : Nat) : Int) ∧ sat (f163_L2 sG vH vI sJ lK rem5 j8) R6 ∧ σ.keep [0, 1, 7, 8] [(.x 0)] = ⟨[(0, .c (.isl .fld l9)), (1, .c (.fn 152 [(.x 0)])), (7, iD ((l9.length : Nat) : Int)), (8, iD z)], [eV (.x 0) [.str sG, ci vH, ci vI, .str sJ, .isl .fld lK]]⟩) ⟨_, l9, 0, _, rfl, rfl, rfl, h, rfl⟩ ?_
 rintro σ n ⟨rem5, j8, _, rfl, hrem5, rfl, h, hσ⟩
 refine kk hσ ?_
 intro tA (htA : tA = decide (((j8 : Nat) : Int) < ((l9.length : Nat) : Int)))
 cases tA
 obtain rfl := ll_nil hrem5 htA
 rw [f163_L2] at h
 conv => whnf
 exact ⟨ss h, rfl⟩
 obtain ⟨xB, tlC, rfl, hxB, htlC⟩ := ll_cons hrem5 htA
 obtain ⟨aP, ⟨kQ, nS, sU, fV⟩⟩ := xB
 rw [f163_L2] at h
 conv => whnf
 refine ⟨lx_bd hxB, fun uuM huuM => ?_⟩
 obtain rfl := lx_eq hxB huuM
 refine kL [(.x 0)] (h152 _ _ _ _ _ _ _ _ _ _ _ _ ?_ (sb h))
 rintro qO h
 cases qO
 replace h := cf h
 conv => whnf
 exact ⟨tlC.length, nls, tlC, j8 + 1, _, rfl, htlC, lx_wr hxB hlN, h, rfl⟩
 replace h := ct h
 replace h := sat_lft a6 h
 exact kR [] (ND 1) (hQ _ (ss h))
 rintro _ ⟨h, rfl⟩
 replace h := b6 _ h
 exact kR [] (ND 1) (hQ _ (ss h))
def f151 : FV → BA → Int → Int → BA → FV → Option (Bool)
 | l5, s6, v7, v8, s9, lA => (f163 l5 s6 v7 v8 s9 lA).bind fun vB => cond (decide (vB ≥ 0)) (some true) (some false)
def C151 (O : Oracle TT) (m : FV → BA → Int → Int → BA → FV → Option (Bool)) : Prop :=
 ∀ lA s5 v6 v7 s8 l9 (Q : Bool → Prop) (R : RR) (_ : ∀ qB, Q qB → R (bD qB) [eV (.x 0) [.str s5, ci v6, ci v7, .str s8, .isl .fld l9]]) (_ : sat (m lA s5 v6 v7 s8 l9) Q), O 151 [.c (.isl .fld lA), .c (.fn 152 [(.x 0)])] [eV (.x 0) [.str s5, ci v6, ci v7, .str s8, .isl .fld l9]] R
def j151 : Fn TT := ⟨9, [.t 4], (sr [qm 4 bF] (sr [qm 5 0,qm 6 1,qo 7 (.call 7 163 [5, 6]),qo 8 (.bin .geq .num 7 (iC 0)),qm 4 8] .ret))⟩
theorem w151 {O : Oracle TT} (h163 : C163 O f163) : C151 (fun _ => vcF (S := SS) O j151) f151 := by
 intro l5 s6 v7 v8 s9 lA Q R hQ h
 unfold f151 at h
 refine ⟨nle rfl, rfl, ?_⟩
 refine kL [(.x 0)] (h163 _ _ _ _ _ _ _ _ ?_ (sb h))
 rintro vB h
 refine kc h ?_ ?_ <;> intro h
 exact kR [] (ND 1) (hQ _ (ss h))
 exact kR [] (ND 1) (hQ _ (ss h))
def f128_L2 (l6 : FV) : FV → Nat → Option (Sum (Int) (Unit))
 | [], j5 => some (.inr ())
 | ((a7, .mk k8 n9 sA fB)) :: tlC, j5 => (f132 a7).bind fun qF => cond qF (grdP ((0 : Int) ≤ ((j5 : Nat) : Int) ∧ 0 ≤ ((j5 : Nat) : Int).toNat ∧ ((j5 : Nat) : Int).toNat ≤ l6.length) ((f151 ((l6.drop 0).take (((j5 : Nat) : Int).toNat - 0)) a7 k8 n9 sA fB).bind fun qG => cond qG (lft (some 5)) (f128_L2 l6 tlC (j5 + 1)))) (lft (some 15))
def f128 : FV → Option (Int)
 | l0 => sbind (ο := Unit) (f128_L2 l0 l0 0) (fun () => some 0)
def C128 (O : Oracle TT) (m : FV → Option (Int)) : Prop :=
 ∀ l0 (Q : Int → Prop) (R : RR) (_ : ∀ v5, Q v5 → R (iD v5) []) (_ : sat (m l0) Q), O 128 [.c (.isl .fld l0)] [] R
def j128 : Fn TT := ⟨22, [.t 2], (sr [qo 2 (.mv (iC 0))] (.cut [] [] (sr [qm 5 0,qo 6 (.len false 5),qo 7 (.mv (iC 0))] (.block 0 (.loop (.keep [0, 5, 6, 7] [] (.aft (sr [qo 8 (.bin .lss .num 7 6)] (.seq (.cond 8 .skip (.exit 0)) (.seq (.block 1 (sr [qm 9 7,qo 10 (.idxA 5 7 5),qo 11 (.load 10 5 true),qo 4 (.alloc 4 zFd),qm 3 9,
 qp (.store 4 11 5)] (.seq (sr [qo 12 (.fa 4 0),qo 13 (ld 12),qo 14 (.call 14 132 [13]),qo 15 (.un .not 14)] (.cond 15 (sr [qo 2 (.mv (iC 15))] .ret) .skip)) (sr [qm 16 0,qm 17 3,qo 18 (.slc 5 16 none (some 17)),qo 19 (.mkf 152 [4]),qo 20 (.call 20 151 [18, 19])] (.cond 20 (sr [qo 2 (.mv (iC 5))] .ret) .skip)))))
 (.reg [qo 21 (.bin .add .num 7 (iC 1)),qm 7 21])))) [.keep [0, 5, 6, 7] []]))))) (sr [qo 2 (.mv (iC 0))] .ret)))⟩
theorem w128 {O : Oracle TT} (h132 : C132 O f132) (h151 : C151 O f151) : C128 (fun _ => vcF (S := SS) O j128) f128 := by
 intro l5 Q R hQ h
 unfold f128 at h
 refine ⟨nle rfl, rfl, ?_⟩
 obtain ⟨R6, h, a6, b6⟩ := sc h
 refine kX (fun σ => R6 (.inr ()) ∧ σ = ⟨[], []⟩) ?_ ?_
 intro hlH
 refine kX (fun σ n => ∃ (rem8 : FV) (j9 : Nat) (z : Int), n = rem8.length ∧ l5.drop j9 = rem8 ∧ z = ((j9 : Nat) : Int) ∧ sat (f128_L2 l5 rem8 j9) R6 ∧ σ.keep [0, 5, 6, 7] [] = ⟨[(0, .c (.isl .fld l5)), (5, .c (.isl .fld l5)), (6, iD ((l5.length : Nat) : Int)), (7, iD z)], []⟩) ⟨_, l5, 0, _, rfl, rfl, rfl, h, rfl⟩ ?_
 rintro σ n ⟨rem8, j9, _, rfl, hrem8, rfl, h, hσ⟩
 refine kk hσ ?_
 intro tA (htA : tA = decide (((j9 : Nat) : Int) < ((l5.length : Nat) : Int)))
 cases tA
 obtain rfl := ll_nil hrem8 htA
 rw [f128_L2] at h
 conv => whnf
 exact ⟨ss h, rfl⟩
 obtain ⟨xB, tlC, rfl, hxB, htlC⟩ := ll_cons hrem8 htA
 obtain ⟨aN, ⟨kO, nP, sQ, fS⟩⟩ := xB
 rw [f128_L2] at h
 conv => whnf
 refine ⟨lx_bd hxB, fun uuG huuG => ?_⟩
 obtain rfl := lx_eq hxB huuG
 refine kL [] (h132 _ _ _ ?_ (sb h))
 rintro qI h
 cases qI
 replace h := cf h
 replace h := sat_lft a6 h
 exact kR [] (ND 0) (hQ _ (ss h))
 replace h := ct h
 conv => whnf
 obtain ⟨⟨hbJ, hbK⟩, h⟩ := sat_grdP h
 refine ⟨hbJ, ?_⟩
 conv => whnf
 refine ⟨hbK, ?_⟩
 refine kL [(.s 4)] (h151 _ _ _ _ _ _ _ _ ?_ (sb h))
 rintro qM h
 cases qM
 replace h := cf h
 conv => whnf
 exact ⟨tlC.length, nls, tlC, j9 + 1, _, rfl, htlC, lx_wr hxB hlH, h, rfl⟩
 replace h := ct h
 replace h := sat_lft a6 h
 exact kR [] (ND 0) (hQ _ (ss h))
 rintro _ ⟨h, rfl⟩
 replace h := b6 _ h
 exact kR [] (ND 0) (hQ _ (ss h))
def f101 : V → Option (Int)
 | .mk k6 n8 s7 f5 => cond (k6 == 5) (cond (decide ((s7.size : Int) > 4000)) (some 2) (some 0)) (cond (k6 == 6) (cond (decide (((f5.length : Nat) : Int) > 24)) (some 2) ((f128 f5).bind fun v9 => some v9)) (cond (k6 == 7) (cond (((f5.length : Nat) : Int) != 1) (some 3) ((f128 f5).bind fun vA => some vA)) (cond (k6 == 8) (cond (decide (((f5.length : Nat) : Int) > 200)) (some 2) ((f129 (V.mk k6 n8 s7 f5)).bind fun vB => some vB)) (cond (k6 == 9) (cond (decide (((f5.length : Nat) : Int) > 200)) (some 2) ((f129 (V.mk k6 n8 s7 f5)).bind fun vC => some vC)) (some 0)))))
def C101 (O : Oracle TT) (m : V → Option (Int)) : Prop :=
 ∀ k5 n6 s7 f8 (Q : Int → Prop) (R : RR) (_ : ∀ v9, Q v9 → R (iD v9) []) (_ : sat (m (V.mk k5 n6 s7 f8)) Q), O 101 [.agg [ci k5, ci n6, .str s7, .isl .fld f8]] [] R
def j101 : Fn TT := ⟨38, [.t 2], (sr [qo 1 (.box 1 0),qo 2 (.mv (iC 0))] (.seq (sr [qo 3 (.fa 1 0),qo 4 (ld 3)] (.block 0 (sr [qo 6 (.bin .eql .num 4 (iC 5)),qm 5 6] (.cond 5 (sr [qo 7 (.fa 1 2),qo 8 (ld 7),qo 9 (.len true 8),qo 10 (.bin .gtr .num 9 (iC 4000))] (.cond 10 (sr [qo 2 (.mv (iC 2))] .ret) .skip))
 (sr [qo 12 (.bin .eql .num 4 (iC 6)),qm 11 12] (.cond 11 (.seq (sr [qo 13 (.fa 1 3),qo 14 (ld 13),qo 15 (.len false 14),qo 16 (.bin .gtr .num 15 (iC 24))] (.cond 16 (sr [qo 2 (.mv (iC 2))] .ret) .skip)) (sr [qo 17 (.fa 1 3),qo 18 (ld 17),qo 19 (.call 19 128 [18]),qm 2 19] .ret)) (.seq
 (.reg [qo 21 (.bin .eql .num 4 (iC 7)),qm 20 21]) (.cond 20 (.seq (sr [qo 22 (.fa 1 3),qo 23 (ld 22),qo 24 (.len false 23),qo 25 (.bin .neq .num 24 (iC 1))] (.cond 25 (sr [qo 2 (.mv (iC 3))] .ret) .skip)) (sr [qo 26 (.fa 1 3),qo 27 (ld 26),qo 28 (.call 28 128 [27]),qm 2 28] .ret)) (.seq (.seq
 (.reg [qo 30 (.bin .eql .num 4 (iC 8)),qm 29 30]) (.cond 29 .skip (.reg [qo 31 (.bin .eql .num 4 (iC 9)),qm 29 31]))) (.cond 29 (.seq (sr [qo 32 (.fa 1 3),qo 33 (ld 32),qo 34 (.len false 33),qo 35 (.bin .gtr .num 34 (iC 200))] (.cond 35 (sr [qo 2 (.mv (iC 2))] .ret) .skip)) (sr [qo 36 (.load 1 4 true),qo 37 (.call 37 129 [36]),qm 2 37]
 .ret)) .skip)))))))))) (sr [qo 2 (.mv (iC 0))] .ret)))⟩
theorem w101 {O : Oracle TT} (h129 : C129 O f129) (h128 : C128 O f128) : C101 (fun _ => vcF (S := SS) O j101) f101 := by
 intro k5 n6 s8 f9 Q R hQ h
 unfold f101 at h
 refine ⟨nle rfl, rfl, ?_⟩
 refine kc h ?_ ?_ <;> intro h
 refine kc h ?_ ?_ <;> intro h
 refine kc h ?_ ?_ <;> intro h
 refine kc h ?_ ?_ <;> intro h
 refine kc h ?_ ?_ <;> intro h
 exact kR [] (ND 0) (hQ _ (ss h))
 intro hlA
 refine kc h ?_ ?_ <;> intro h
 refine kL [] (h129 _ _ _ _ _ _ ?_ (sb h))
 rintro vB h
 exact kR [] (ND 0) (hQ _ (ss h))
 exact kR [] (ND 0) (hQ _ (ss h))
 intro hlC
 refine kc h ?_ ?_ <;> intro h
 refine kL [] (h129 _ _ _ _ _ _ ?_ (sb h))
 rintro vF h
 exact kR [] (ND 0) (hQ _ (ss h))
 exact kR [] (ND 0) (hQ _ (ss h))
 intro hlG
 refine kc h ?_ ?_ <;> intro h
 refine kL [] (h128 _ _ _ ?_ (sb h))
 rintro vH h
 exact kR [] (ND 0) (hQ _ (ss h))
 exact kR [] (ND 0) (hQ _ (ss h))
 intro hlI
 refine kc h ?_ ?_ <;> intro h
 refine kL [] (h128 _ _ _ ?_ (sb h))
 rintro vJ h
 exact kR [] (ND 0) (hQ _ (ss h))
 exact kR [] (ND 0) (hQ _ (ss h))
 refine kc h ?_ ?_ <;> intro h
 exact kR [] (ND 0) (hQ _ (ss h))
 exact kR [] (ND 0) (hQ _ (ss h))
def f77_L2 (self77 : V → Bool → Option (Int)) : FV → Nat → Option (Sum (Int) (Unit))
 | [], j5 => some (.inr ())
 | ((aC, .mk k7 n8 s9 fA)) :: tlB, j5 => (self77 (V.mk k7 n8 s9 fA) false).bind fun v6 => cond (v6 != 0) (lft (some v6)) (f77_L2 self77 tlB (j5 + 1))
def b77 (self77 : V → Bool → Option (Int)) : V → Bool → Option (Int)
 | .mk k5 n7 s8 f6, qA => sbind (ο := Bool) (cond (decide (k5 < 0)) (some (.inr true)) (cond (decide (k5 ≥ 12)) (some (.inr true)) (some (.inr false)))) (fun qB => sbind (ο := Bool) (cond qB (some (.inr true)) (cond (k5 == 10) (some (.inr true)) (some (.inr false)))) (fun qC => sbind (ο := Bool) (cond qC (some (.inr true)) (cond (k5 == 11) (cond qA (some (.inr false)) (some (.inr true))) (some (.inr false)))) (fun qF => sbind (ο := Bool) (cond qF (some (.inr true)) ((f99 (V.mk k5 n7 s8 f6)).bind fun qG => some (.inr qG))) (fun qH => cond qH (some 3) ((f100 (V.mk k5 n7 s8 f6)).bind fun qI => cond qI ((f101 (V.mk k5 n7 s8 f6)).bind fun v9 => cond (v9 != 0) (some v9) (sbind (ο := Unit) (f77_L2 self77 f6 0) (fun () => some 0))) (some 11))))))
def f77 : Nat → V → Bool → Option (Int)
 | 0 => fun _ _ => none
 | n + 1 => b77 (f77 n)
def C77 (O : Oracle TT) (m : V → Bool → Option (Int)) : Prop :=
 ∀ k5 n6 s7 f8 q9 (Q : Int → Prop) (R : RR) (_ : ∀ vA, Q vA → R (iD vA) []) (_ : sat (m (V.mk k5 n6 s7 f8) q9) Q), O 77 [.agg [ci k5, ci n6, .str s7, .isl .fld f8], bD q9] [] R
def j77 : Fn TT := ⟨59, [.t 4], (sr [qo 2 (.box 2 0),qo 4 (.mv (iC 0))] (.seq (.block 0 (.seq (.regc [([qo 10 (.fa 2 0),qo 11 (ld 10),qo 12 (.bin .lss .num 11 (iC 0)),qm 13 12,qf 13 14 (.fa 2 0),qf 13 15 (ld 14),qf 13 16 (.bin .geq .num 15 (iC 12)),qo 17 (.pick 13 bT 16)], [1, 2, 17], [(.s 2)]), ([qm 18 17,qf 18 19 (.fa 2 0),
 qf 18 20 (ld 19),qf 18 21 (.bin .eql .num 20 (iC 10)),qo 22 (.pick 18 bT 21)], [1, 2, 22], [(.s 2)]), ([qm 23 22,qf 23 24 (.fa 2 0),qf 23 25 (ld 24),qf 23 26 (.bin .eql .num 25 (iC 11)),qf 23 27 (.mv 26),qg 27 28 (.mv 1),qg 27 29 (.un .not 28),qf 23 30 (.pick 27 29 bF),qo 31 (.pick 23 bT 30)], [2, 31], [(.s 2)]), ([qm 32 31,qf 32 33 (.load 2 4 true),
 qf 32 34 (.call 34 99 [33]),qo 35 (.pick 32 bT 34)], [2, 35], [(.s 2)])] [qm 9 35]) (.cond 9 (sr [qo 4 (.mv (iC 3))] .ret) (sr [qo 37 (.load 2 4 true),qo 38 (.call 38 100 [37]),qo 39 (.un .not 38),qm 36 39] (.cond 36 (sr [qo 4 (.mv (iC 11))] .ret) .skip))))) (.seq (sr [qo 40 (.load 2 4 true),qo 41 (.call 41 101 [40]),qm 5 41] (.seq
 (.reg [qm 42 5,qo 43 (.bin .neq .num 42 (iC 0))]) (.cond 43 (sr [qm 44 5,qm 4 44] .ret) .skip))) (.cut [] [] (sr [qo 45 (.fa 2 3),qo 46 (ld 45),qo 47 (.len false 46),qo 48 (.mv (iC 0))] (.block 1 (.loop (.keep [46, 47, 48] [] (.aft (sr [qo 49 (.bin .lss .num 48 47)] (.seq (.cond 49 .skip (.exit 1)) (.seq (.block 2 (.seq
 (.reg [qo 50 (.idxA 46 48 5),qo 51 (.load 50 5 true),qo 7 (.alloc 7 zFd),qp (.store 7 51 5)]) (sr [qo 52 (.fa 7 1),qo 53 (.load 52 4 true),qo 54 (.call 54 77 [53, bF]),qm 8 54] (sr [qm 55 8,qo 56 (.bin .neq .num 55 (iC 0))] (.cond 56 (sr [qm 57 8,qm 4 57] .ret) .skip))))) (.reg [qo 58 (.bin .add .num 48 (iC 1)),
 qm 48 58])))) [.keep [46, 47, 48] []]))))) (sr [qo 4 (.mv (iC 0))] .ret)))))⟩
theorem w77 {O : Oracle TT} (self77 : V → Bool → Option (Int)) (h77 : C77 O self77) (h99 : C99 O f99) (h100 : C100 O f100) (h101 : C101 O f101) : C77 (fun _ => vcF (S := SS) O j77) (b77 self77) := by
 intro kC nF sG f5 qS Q R hQ h
 unfold b77 at h
 refine ⟨nle rfl, rfl, ?_⟩
 obtain ⟨RH, h, aH, hrRH⟩ := sc h
 refine kX (fun σ => ∃ qI, RH (.inr qI) ∧ σ = ⟨[(1, bD qS), pT 2, (17, bD qI)], [eV (.s 2) [ci kC, ci nF, .str sG, .isl .fld f5]]⟩) ?_ ?_
 refine kc h ?_ ?_ <;> intro h
 refine kc h ?_ ?_ <;> intro h
 conv => whnf
 exact ⟨false, ss h, rfl⟩
 conv => whnf
 exact ⟨true, ss h, rfl⟩
 conv => whnf
 exact ⟨true, ss h, rfl⟩
 rintro _ ⟨qI, h, rfl⟩
 replace h := hrRH _ h
 obtain ⟨RJ, h, aJ, hrRJ⟩ := sc h
 refine kX (fun σ => ∃ qK, RJ (.inr qK) ∧ σ = ⟨[(1, bD qS), pT 2, (22, bD qK)], [eV (.s 2) [ci kC, ci nF, .str sG, .isl .fld f5]]⟩) ?_ ?_
 cases qI
 replace h := cf h
 refine kc h ?_ ?_ <;> intro h
 conv => whnf
 exact ⟨false, ss h, rfl⟩
 conv => whnf
 exact ⟨true, ss h, rfl⟩
 replace h := ct h
 conv => whnf
 exact ⟨true, ss h, rfl⟩
 rintro _ ⟨qK, h, rfl⟩
 replace h := hrRJ _ h
 obtain ⟨RM, h, aM, hrRM⟩ := sc h
 refine kX (fun σ => ∃ qN, RM (.inr qN) ∧ σ = ⟨[pT 2, (31, bD qN)], [eV (.s 2) [ci kC, ci nF, .str sG, .isl .fld f5]]⟩) ?_ ?_
 cases qK
 replace h := cf h
 refine kc h ?_ ?_ <;> intro h
 conv => whnf
 exact ⟨false, ss h, rfl⟩
 cases qS
 replace h := cf h
 conv => whnf
 exact ⟨true, ss h, rfl⟩
 replace h := ct h
 conv => whnf
 exact ⟨false, ss h, rfl⟩
 replace h := ct h
 conv => whnf
 exact ⟨true, ss h, rfl⟩
 rintro _ ⟨qN, h, rfl⟩
 replace h := hrRM _ h
 obtain ⟨RO, h, aO, hrRO⟩ := sc h
 refine kX (fun σ => ∃ qP, RO (.inr qP) ∧ σ = ⟨[pT 2, (35, bD qP)], [eV (.s 2) [ci kC, ci nF, .str sG, .isl .fld f5]]⟩) ?_ ?_
 cases qN
 replace h := cf h
 refine kL [] (h99 _ _ _ _ _ _ ?_ (sb h))
 rintro qU h
 conv => whnf
 exact ⟨qU, ss h, rfl⟩
 replace h := ct h
 conv => whnf
 exact ⟨true, ss h, rfl⟩
 rintro _ ⟨qP, h, rfl⟩
 replace h := hrRO _ h
 cases qP
 replace h := cf h
 refine kL [] (h100 _ _ _ _ _ _ ?_ (sb h))
 rintro qV h
 cases qV
 replace h := cf h
 exact kR [] (ND 0) (hQ _ (ss h))
 replace h := ct h
 refine kL [] (h101 _ _ _ _ _ _ ?_ (sb h))
 rintro vY h
 refine kc h ?_ ?_ <;> intro h
 obtain ⟨R8, h, a8, hrR8⟩ := sc h
 refine kX (fun σ => R8 (.inr ()) ∧ σ = ⟨[], []⟩) ?_ ?_
 intro hlW
 refine kX (fun σ n => ∃ (rem6 : FV) (j9 : Nat) (z : Int), n = rem6.length ∧ f5.drop j9 = rem6 ∧ z = ((j9 : Nat) : Int) ∧ sat (f77_L2 self77 rem6 j9) R8 ∧ σ.keep [46, 47, 48] [] = ⟨[(46, .c (.isl .fld f5)), (47, iD ((f5.length : Nat) : Int)), (48, iD z)], []⟩) ⟨_, f5, 0, _, rfl, rfl, rfl, h, rfl⟩ ?_
 rintro σ n ⟨rem6, j9, _, rfl, hrem6, rfl, h, hσ⟩
 refine kk hσ ?_
 intro tA (htA : tA = decide (((j9 : Nat) : Int) < ((f5.length : Nat) : Int)))
 cases tA
 obtain rfl := ll_nil hrem6 htA
 rw [f77_L2] at h
 conv => whnf
 exact ⟨ss h, rfl⟩
 obtain ⟨xB, tlQ, rfl, hxB, htlQ⟩ := ll_cons hrem6 htA
 obtain ⟨aZ, ⟨k00, n01, s02, f03⟩⟩ := xB
 rw [f77_L2] at h
 conv => whnf
 refine ⟨lx_bd hxB, fun uuT huuT => ?_⟩
 obtain rfl := lx_eq hxB huuT
 refine kL [] (h77 _ _ _ _ _ _ _ ?_ (sb h))
 rintro v04 h
 refine kc h ?_ ?_ <;> intro h
 conv => whnf
 exact ⟨tlQ.length, nls, tlQ, j9 + 1, _, rfl, htlQ, lx_wr hxB hlW, h, rfl⟩
 replace h := sat_lft a8 h
 exact kR [] (ND 0) (hQ _ (ss h))
 rintro _ ⟨h, rfl⟩
 replace h := hrR8 _ h
 exact kR [] (ND 0) (hQ _ (ss h))
 exact kR [] (ND 0) (hQ _ (ss h))
 replace h := ct h
 exact kR [] (ND 0) (hQ _ (ss h))
theorem cg77 {P : Program} {fid : Nat → FuncId} (mx : MX P) (k77 : KF P fid 77 j77) (h99 : C99 (SP P fid) f99) (h100 : C100 (SP P fid) f100) (h101 : C101 (SP P fid) f101) : ∀ n, C77 (SP P fid) (f77 n) := by
 intro n
 induction n with
 | zero => exact fun a0 a5 a6 a7 a8 Q R hQ h => (sat_none h).elim
 | succ n ih =>
  have ih0 := ih
  exact fun a0 a5 a6 a7 a8 Q R hQ h => spec_of_vc mx k77 (w77 (f77 n) ih0 h99 h100 h101 a0 a5 a6 a7 a8 Q R hQ h)
theorem c77 {P : Program} {fid : Nat → FuncId} (mx : MX P) (k77 : KF P fid 77 j77) (h99 : C99 (SP P fid) f99) (h100 : C100 (SP P fid) f100) (h101 : C101 (SP P fid) f101) : ∀ n, C77 (SP P fid) (f77 n) := fun n => (cg77 mx k77 h99 h100 h101 n)
def f51 (fuel : Nat) : V → Option (Int)
 | .mk k5 n6 s7 f8 => (f75 fuel (V.mk k5 n6 s7 f8)).bind fun v9 => cond (decide (v9 > 2000)) (some 2) ((f76 fuel (V.mk k5 n6 s7 f8)).bind fun vA => cond (decide (vA > 40)) (some 2) ((f77 fuel (V.mk k5 n6 s7 f8) true).bind fun vB => some vB))
def C51 (O : Oracle TT) (m : V → Option (Int)) : Prop :=
 ∀ k5 n6 s7 f8 (Q : Int → Prop) (R : RR) (_ : ∀ v9, Q v9 → R (iD v9) []) (_ : sat (m (V.mk k5 n6 s7 f8)) Q), O 51 [.agg [ci k5, ci n6, .str s7, .isl .fld f8]] [] R
def j51 : Fn TT := ⟨13, [.t 2], (sr [qo 1 (.box 1 0),qo 2 (.mv (iC 0))] (.seq (sr [qo 3 (.load 1 4 true),qo 4 (.call 4 75 [3]),qo 5 (.bin .gtr .num 4 (iC 2000)),qm 6 5,qf 6 7 (.load 1 4 true),qf 6 8 (.call 8 76 [7]),qf 6 9 (.bin .gtr .num 8 (iC 40)),qo 10 (.pick 6 bT 9)] (.cond 10 (sr [qo 2 (.mv (iC 2))] .ret) .skip)) (.seq
 (.reg [qo 11 (.load 1 4 true),qo 12 (.call 12 77 [11, bT]),qm 2 12]) .ret)))⟩
theorem w51 {O : Oracle TT} (fuel : Nat) (h75 : C75 O (f75 fuel)) (h76 : C76 O (f76 fuel)) (h77 : C77 O (f77 fuel)) : C51 (fun _ => vcF (S := SS) O j51) (f51 fuel) := by
 intro k5 n6 s7 f8 Q R hQ h
 unfold f51 at h
 refine ⟨nle rfl, rfl, ?_⟩
 refine kL [] (h75 _ _ _ _ _ _ ?_ (sb h))
 rintro v9 h
 refine kc h ?_ ?_ <;> intro h
 refine kL [] (h76 _ _ _ _ _ _ ?_ (sb h))
 rintro vA h
 refine kc h ?_ ?_ <;> intro h
 refine kL [] (h77 _ _ _ _ _ _ _ ?_ (sb h))
 rintro vB h
 exact kR [] (ND 0) (hQ _ (ss h))
 exact kR [] (ND 0) (hQ _ (ss h))
 exact kR [] (ND 0) (hQ _ (ss h))
def f320_L2 (fuel : Nat) : LW → Nat → LW → Option (Sum (Ln) (LW))
 | [], j6, l5 => some (.inr l5)
 | ((.mk kH nI sJ fK, .mk kM nN sO fP)) :: tlQ, j6, l5 => (f57 fuel (V.mk kH nI sJ fK)).bind fun (.mk k7 n8 s9 fA) => (f57 fuel (V.mk kM nN sO fP)).bind fun (.mk kB nC sF fG) => grdP (l5.length + ([((V.mk k7 n8 s9 fA), (V.mk kB nC sF fG))] : LW).length ≤ 68719476736) (f320_L2 fuel tlQ (j6 + 1) (l5 ++ ([((V.mk k7 n8 s9 fA), (V.mk kB nC sF fG))] : LW)))
def f320_L4 (self320 : Ln → Option (Ln)) : List Ln → Nat → (List Ln) → Option (Sum (Ln) ((List Ln)))
 | [], j6, l5 => some (.inr l5)
 | (.mk opO nmP toQ nsS nT loU hiV sepW (.mk kY nZ s00 f01) prs02 ks03) :: tl04, j6, l5 => (self320 (Ln.mk opO nmP toQ nsS nT loU hiV sepW (V.mk kY nZ s00 f01) prs02 ks03)).bind fun (.mk op7 nm8 to9 nsA nB loC hiF sepG (.mk kH nI sJ fK) prsM ksN) => grdP (l5.length + ([(Ln.mk op7 nm8 to9 nsA nB loC hiF sepG (V.mk kH nI sJ fK) prsM ksN)] : List Ln).length ≤ 68719476736) (f320_L4 self320 tl04 (j6 + 1) (l5 ++ ([(Ln.mk op7 nm8 to9 nsA nB loC hiF sepG (V.mk kH nI sJ fK) prsM ksN)] : List Ln)))
def b320 (fuel : Nat) (self320 : Ln → Option (Ln)) : Ln → Option (Ln)
 | .mk op6 nm7 to8 ns5 n9 loA hiB sepC (.mk kF nG sH fI) prsJ ksK => grdP (ns5.length ≤ 68719476736) ((f57 fuel (V.mk kF nG sH fI)).bind fun (.mk kM nN sO fP) => sbind (ο := LW) (f320_L2 fuel prsJ 0 []) (fun lQ => sbind (ο := (List Ln)) (f320_L4 self320 ksK 0 []) (fun lS => some (Ln.mk op6 nm7 to8 ns5 n9 loA hiB sepC (V.mk kM nN sO fP) lQ lS))))
def f320 : Nat → Ln → Option (Ln)
 | 0 => fun _ => none
 | n + 1 => b320 n (f320 n)
def C320 (O : Oracle TT) (m : Ln → Option (Ln)) : Prop :=
 ∀ op5 nm6 to7 ns8 n9 loA hiB sepC kF nG sH fI prsJ ksK (Q : Ln → Prop) (R : RR) (_ : ∀ opM nmN toO nsP nQ loS hiT sepU kV nW sY fZ prs00 ks01, Q (Ln.mk opM nmN toO nsP nQ loS hiT sepU (V.mk kV nW sY fZ) prs00 ks01) → R (.agg [ci opM, .str nmN, .str toO, .isl .str nsP, ci nQ, ci loS, ci hiT, .int .u8 sepU, ci kV, ci nW, .str sY, .isl .fld fZ, .isl .two prs00, .isl .lens ks01]) []) (_ : sat (m (Ln.mk op5 nm6 to7 ns8 n9 loA hiB sepC (V.mk kF nG sH fI) prsJ ksK)) Q), O 320 [.agg [ci op5, .str nm6, .str to7, .isl .str ns8, ci n9, ci loA, ci hiB, .int .u8 sepC, ci kF, ci nG, .str sH, .isl .fld fI, .isl .two prsJ, .isl .lens ksK]] [] R
def j320 : Fn TT := ⟨55, [.cell 2 14 true], (sr [qo 1 (.box 1 0),qo 2 (.alloc 2 zLn)] (sr [qo 8 (.load 1 14 true),qo 3 (.alloc 3 zLn),qp (.store 3 8 14)] (sr [qo 9 (.fa 1 3),qo 10 (ld 9),qo 11 (.app 11 .str 68719476736 (.c (.nils)) 10),qo 12 (.fa 3 3),qp (.store 12 11 1)] (sr [qo 13 (.fa 1 8),qo 14 (.load 13 4 true),
 qo 15 (.call 15 57 [14]),qo 16 (.fa 3 8),qp (.store 16 15 4)] (sr [qo 17 (.fa 3 12),qp (.store 17 (.c (.nils)) 1),qo 18 (.fa 3 13),qp (.store 18 (.c (.nils)) 1)] (.cut [1, 2, 3] [(.s 1), (.s 2), (.s 3), (.s 11), (.sub (.sub (.s 3) 600) 12)] (sr [qo 19 (.fa 1 12),qo 20 (ld 19),qo 21 (.len false 20),qo 22 (.mv (iC 0))] (.block 0
 (.pre [.ownc (.s 3) 12 .two (.sub (.sub (.s 3) 600) 12)] (.loop (.keep [1, 2, 3, 20, 21, 22] [(.s 1), (.s 2), (.s 3), (.s 11), (.sub (.sub (.s 3) 600) 12)] (.aft (sr [qo 23 (.bin .lss .num 22 21)] (.seq (.cond 23 .skip (.exit 0)) (.seq (.block 1 (sr [qo 24 (.idxA 20 22 8),qo 25 (.load 24 8 true),qo 5 (.alloc 5 zTw),qp (.store 5 25 8)]
 (.drw [(.sub (.sub (.s 3) 600) 12)] (ol [0, 1, 2, 3, 5, 6, 4, 7, 8, 9, 10, 11, 12]) [12] [0, 1, 2, 3, 5, 6, 8, 11] [qo 26 (.fa 3 12),qo 27 (ld 26),qo 28 (.idxArr 5 (iC 0) 4 2),qo 29 (.load 28 4 true),qo 30 (.call 30 57 [29]),qo 31 (.idxArr 5 (iC 1) 4 2),qo 32 (.load 31 4 true),qo 33 (.call 33 57 [32]),qo 34 (.build zTw [((0, 4), 30), ((4, 4), 33)]),qo 35 (.bsl .two [34]),
 qo 36 (.app 36 .two 68719476736 27 35),qo 37 (.fa 3 12),qp (.store 37 36 1)]))) (.reg [qo 38 (.bin .add .num 22 (iC 1)),qm 22 38])))) [.keep [1, 2, 3, 20, 21, 22] [(.s 1), (.s 2), (.s 3), (.s 11), (.s 36)], .ownc (.s 3) 12 .two (.sub (.sub (.s 3) 600) 12)])))))) (.cut [2, 3] [(.s 2), (.s 3), (.s 11), (.sub (.sub (.s 3) 600) 12), (.sub (.sub (.s 3) 601) 13)] (sr [qo 39 (.fa 1 13),
 qo 40 (ld 39),qo 41 (.len false 40),qo 42 (.mv (iC 0))] (.block 2 (.pre [.ownc (.s 3) 13 .lens (.sub (.sub (.s 3) 601) 13)] (.loop (.keep [2, 3, 40, 41, 42] [(.s 2), (.s 3), (.s 11), (.sub (.sub (.s 3) 600) 12), (.sub (.sub (.s 3) 601) 13)] (.aft (sr [qo 43 (.bin .lss .num 42 41)] (.seq (.cond 43 .skip (.exit 2)) (.seq (.block 3 (sr [qo 44 (.idxA 40 42 14),
 qo 45 (.load 44 14 true),qo 7 (.alloc 7 zLn),qp (.store 7 45 14)] (.drw [(.sub (.sub (.s 3) 601) 13)] (oR 8) [7] [0, 1, 2, 6] [qo 46 (.fa 3 13),qo 47 (ld 46),qo 48 (.load 7 14 true),qo 49 (.call 49 320 [48]),qo 50 (.bsl .lens [49]),qo 51 (.app 51 .lens 68719476736 47 50),qo 52 (.fa 3 13),qp (.store 52 51 1)]))) (.reg [qo 53 (.bin .add .num 42 (iC 1)),
 qm 42 53])))) [.keep [2, 3, 40, 41, 42] [(.s 2), (.s 3), (.s 11), (.sub (.sub (.s 3) 600) 12), (.s 51)], .ownc (.s 3) 13 .lens (.sub (.sub (.s 3) 601) 13)])))))) (sr [qo 54 (.load 3 14 true),qp (.store 2 54 14)] (.pre [.frzc (.s 2) 3 .str, .frzc (.s 2) 12 .two, .frzc (.s 2) 13 .lens] .ret)))))))))⟩
theorem w320 {O : Oracle TT} (fuel : Nat) (self320 : Ln → Option (Ln)) (h57 : C57 O (f57 fuel)) (h320 : C320 O self320) : C320 (fun _ => vcF (S := SS) O j320) (b320 fuel self320) := by
 intro opC nmF toG ns5 nH loI hiJ sepK k05 n06 s07 f08 prs8 ks9 Q R hQ h
 unfold b320 at h
 refine ⟨nle rfl, rfl, ?_⟩
 conv => whnf
 refine ⟨rfl, ?_⟩
 refine kp h fun hb13 h => ?_
 refine kL [] (h57 _ _ _ _ _ _ ?_ (sb h))
 rintro kY nZ s00 f01 h
 obtain ⟨RQ, h, aQ, hrRQ⟩ := sc h
 refine kX (fun σ => ∃ (l6 : LW) (n09 : Nat), n09 = l6.length ∧ RQ (.inr l6) ∧ σ = ⟨[pT 1, pT 2, pT 3], [eV (.s 1) [ci opC, .str nmF, .str toG, .isl .str ns5, ci nH, ci loI, ci hiJ, .int .u8 sepK, ci k05, ci n06, .str s07, .isl .fld f08, .isl .two prs8, .isl .lens ks9], eV (.s 2) zLn, eV (.s 3) [ci opC, .str nmF, .str toG, .osl (.s 11) 0 ns5.length, ci nH, ci loI, ci hiJ, .int .u8 sepK, ci kY, ci nZ, .str s00, .isl .fld f01, .osl (.sub (.sub (.s 3) 600) 12) 0 n09, .nils], (.s 11, (eR .str ns5)), (.sub (.sub (.s 3) 600) 12, (eR .two l6))]⟩) ?_ ?_
 intro hl0F
 refine kX (fun σ n => ∃ (remA : LW) (jM : Nat) (z : Int) (lN : LW) (n0A : Nat), n = remA.length ∧ prs8.drop jM = remA ∧ z = ((jM : Nat) : Int) ∧ n0A = lN.length ∧ sat (f320_L2 fuel remA jM lN) RQ ∧ σ.keep [1, 2, 3, 20, 21, 22] [(.s 1), (.s 2), (.s 3), (.s 11), (.sub (.sub (.s 3) 600) 12)] = ⟨[pT 1, pT 2, pT 3, (20, .c (.isl .two prs8)), (21, iD ((prs8.length : Nat) : Int)), (22, iD z)], [eV (.s 1) [ci opC, .str nmF, .str toG, .isl .str ns5, ci nH, ci loI, ci hiJ, .int .u8 sepK, ci k05, ci n06, .str s07, .isl .fld f08, .isl .two prs8, .isl .lens ks9], eV (.s 2) zLn, eV (.s 3) [ci opC, .str nmF, .str toG, .osl (.s 11) 0 ns5.length, ci nH, ci loI, ci hiJ, .int .u8 sepK, ci kY, ci nZ, .str s00, .isl .fld f01, .osl (.sub (.sub (.s 3) 600) 12) 0 n0A, .nils], (.s 11, (eR .str ns5)), (.sub (.sub (.s 3) 600) 12, (eR .two lN))]⟩) ⟨_, prs8, 0, _, [], _, rfl, rfl, rfl, LN, h, rfl⟩ ?_
 rintro σ n ⟨remA, jM, _, lN, _, rfl, hremA, rfl, rfl, h, hσ⟩
 refine kk hσ ?_
 intro tS (htS : tS = decide (((jM : Nat) : Int) < ((prs8.length : Nat) : Int)))
 cases tS
 obtain rfl := ll_nil hremA htS
 rw [f320_L2] at h
 conv => whnf
 exact ⟨lN, _, LN, ss h, rfl⟩
 obtain ⟨xT, tl02, rfl, hxT, htl02⟩ := ll_cons hremA htS
 obtain ⟨⟨k14, n15, s17, f18⟩, ⟨k19, n1A, s1B, f1C⟩⟩ := xT
 rw [f320_L2] at h
 conv => whnf
 refine ⟨lx_bd hxT, fun uu0B huu0B => ?_⟩
 obtain rfl := lx_eq hxT huu0B
 conv => whnf
 refine ⟨⟨by decide, by decide⟩, ?_⟩
 conv => whnf
 refine ⟨⟨by decide, by decide⟩, ?_⟩
 refine kL [] (h57 _ _ _ _ _ _ ?_ (sb h))
 rintro k0G n0H s0I f0J h
 refine kL [] (h57 _ _ _ _ _ _ ?_ (sb h))
 rintro k0K n0L s0M f0N h
 conv => whnf
 refine ⟨LN, rfl, ?_⟩
 conv => whnf
 refine ⟨rfl, ?_⟩
 refine kp h fun hb1D h => ?_
 conv => whnf
 exact ⟨tl02.length, nls, tl02, jM + 1, _, (lN ++ ([((V.mk k0G n0H s0I f0J), (V.mk k0K n0L s0M f0N))] : LW)), _, rfl, htl02, lx_wr hxT hl0F, LN, h, rfl⟩
 rintro _ ⟨l6, _, rfl, h, rfl⟩
 replace h := hrRQ _ h
 obtain ⟨RU, h, aU, hrRU⟩ := sc h
 refine kX (fun σ => ∃ (l03 : List Ln) (n0C : Nat), n0C = l03.length ∧ RU (.inr l03) ∧ σ = ⟨[pT 2, pT 3], [eV (.s 2) zLn, eV (.s 3) [ci opC, .str nmF, .str toG, .osl (.s 11) 0 ns5.length, ci nH, ci loI, ci hiJ, .int .u8 sepK, ci kY, ci nZ, .str s00, .isl .fld f01, .osl (.sub (.sub (.s 3) 600) 12) 0 l6.length, .osl (.sub (.sub (.s 3) 601) 13) 0 n0C], (.s 11, (eR .str ns5)), (.sub (.sub (.s 3) 600) 12, (eR .two l6)), (.sub (.sub (.s 3) 601) 13, (eR .lens l03))]⟩) ?_ ?_
 intro hl0O
 refine kX (fun σ n => ∃ (remB : List Ln) (jO : Nat) (z : Int) (lP : List Ln) (n0D : Nat), n = remB.length ∧ ks9.drop jO = remB ∧ z = ((jO : Nat) : Int) ∧ n0D = lP.length ∧ sat (f320_L4 self320 remB jO lP) RU ∧ σ.keep [2, 3, 40, 41, 42] [(.s 2), (.s 3), (.s 11), (.sub (.sub (.s 3) 600) 12), (.sub (.sub (.s 3) 601) 13)] = ⟨[pT 2, pT 3, (40, .c (.isl .lens ks9)), (41, iD ((ks9.length : Nat) : Int)), (42, iD z)], [eV (.s 2) zLn, eV (.s 3) [ci opC, .str nmF, .str toG, .osl (.s 11) 0 ns5.length, ci nH, ci loI, ci hiJ, .int .u8 sepK, ci kY, ci nZ, .str s00, .isl .fld f01, .osl (.sub (.sub (.s 3) 600) 12) 0 l6.length, .osl (.sub (.sub (.s 3) 601) 13) 0 n0D], (.s 11, (eR .str ns5)), (.sub (.sub (.s 3) 600) 12, (eR .two l6)), (.sub (.sub (.s 3) 601) 13, (eR .lens lP))]⟩) ⟨_, ks9, 0, _, [], _, rfl, rfl, rfl, LN, h, rfl⟩ ?_
 rintro σ n ⟨remB, jO, _, lP, _, rfl, hremB, rfl, rfl, h, hσ⟩
 refine kk hσ ?_
 intro tV (htV : tV = decide (((jO : Nat) : Int) < ((ks9.length : Nat) : Int)))
 cases tV
 obtain rfl := ll_nil hremB htV
 rw [f320_L4] at h
 conv => whnf
 exact ⟨lP, _, LN, ss h, rfl⟩
 obtain ⟨xW, tl04, rfl, hxW, htl04⟩ := ll_cons hremB htV
 obtain ⟨op1E, nm1F, to1G, ns1H, n1I, lo1J, hi1K, sep1L, ⟨k1M, n1N, s1O, f1P⟩, prs1Q, ks1R⟩ := xW
 rw [f320_L4] at h
 conv => whnf
 refine ⟨lx_bd hxW, fun uu0E huu0E => ?_⟩
 obtain rfl := lx_eq hxW huu0E
 refine kL [] (h320 _ _ _ _ _ _ _ _ _ _ _ _ _ _ _ _ ?_ (sb h))
 rintro op0P nm0Q to0R ns0S n0T lo0U hi0V sep0W k0X n0Y s0Z f10 prs11 ks12 h
 conv => whnf
 refine ⟨LN, rfl, ?_⟩
 conv => whnf
 refine ⟨rfl, ?_⟩
 refine kp h fun hb1S h => ?_
 conv => whnf
 exact ⟨tl04.length, nls, tl04, jO + 1, _, (lP ++ ([(Ln.mk op0P nm0Q to0R ns0S n0T lo0U hi0V sep0W (V.mk k0X n0Y s0Z f10) prs11 ks12)] : List Ln)), _, rfl, htl04, lx_wr hxW hl0O, LN, h, rfl⟩
 rintro _ ⟨l03, _, rfl, h, rfl⟩
 replace h := hrRU _ h
 conv => whnf
 refine ⟨LN, ?_⟩
 conv => whnf
 refine ⟨LN, ?_⟩
 conv => whnf
 refine ⟨LN, ?_⟩
 exact kR [] (ND 0) (hQ _ _ _ _ _ _ _ _ _ _ _ _ _ _ (ss h))
theorem cg320 {P : Program} {fid : Nat → FuncId} (mx : MX P) (k320 : KF P fid 320 j320) (h57 : ∀ n, C57 (SP P fid) (f57 n)) : ∀ n, C320 (SP P fid) (f320 n) := by
 intro n
 induction n with
 | zero => exact fun a0 a5 a6 a7 a8 a9 aA aB aC aD aE aF aG aH Q R hQ h => (sat_none h).elim
 | succ n ih =>
  have ih0 := ih
  exact fun a0 a5 a6 a7 a8 a9 aA aB aC aD aE aF aG aH Q R hQ h => spec_of_vc mx k320 (w320 n (f320 n) (h57 n) ih0 a0 a5 a6 a7 a8 a9 aA aB aC aD aE aF aG aH Q R hQ h)
theorem c320 {P : Program} {fid : Nat → FuncId} (mx : MX P) (k320 : KF P fid 320 j320) (h57 : ∀ n, C57 (SP P fid) (f57 n)) : ∀ n, C320 (SP P fid) (f320 n) := fun n => (cg320 mx k320 h57 n)
def f94_L2 (self94 : Ln → Option (Int)) : List Ln → Nat → Int → Option (Sum (Int) (Int))
 | [], j6, v5 => some (.inr v5)
 | (.mk op7 nm8 to9 nsA nB loC hiF sepG (.mk kH nI sJ fK) prsM ksN) :: tlO, j6, v5 => (self94 (Ln.mk op7 nm8 to9 nsA nB loC hiF sepG (V.mk kH nI sJ fK) prsM ksN)).bind fun vP => f94_L2 self94 tlO (j6 + 1) (wrap .i64 (v5 + vP))
def b94 (self94 : Ln → Option (Int)) : Ln → Option (Int)
 | .mk op7 nm8 to9 nsA nB loC hiF sepG (.mk kH nI sJ fK) prsM ks5 => sbind (ο := Int) (f94_L2 self94 ks5 0 (1 : Int)) (fun v6 => some v6)
def f94 : Nat → Ln → Option (Int)
 | 0 => fun _ => none
 | n + 1 => b94 (f94 n)
def C94 (O : Oracle TT) (m : Ln → Option (Int)) : Prop :=
 ∀ op5 nm6 to7 ns8 n9 loA hiB sepC kF nG sH fI prsJ ksK (Q : Int → Prop) (R : RR) (_ : ∀ vM, Q vM → R (iD vM) []) (_ : sat (m (Ln.mk op5 nm6 to7 ns8 n9 loA hiB sepC (V.mk kF nG sH fI) prsJ ksK)) Q), O 94 [.agg [ci op5, .str nm6, .str to7, .isl .str ns8, ci n9, ci loA, ci hiB, .int .u8 sepC, ci kF, ci nG, .str sH, .isl .fld fI, .isl .two prsJ, .isl .lens ksK]] [] R
def j94 : Fn TT := ⟨19, [.t 2], (sr [qo 1 (.box 1 0),qo 2 (.mv (iC 0))] (sr [qo 3 (.mv (iC 1))] (.cut [3] [] (sr [qo 6 (.fa 1 13),qo 7 (ld 6),qo 8 (.len false 7),qo 9 (.mv (iC 0))] (.block 0 (.loop (.keep [3, 7, 8, 9] [] (.aft (sr [qo 10 (.bin .lss .num 9 8)] (.seq (.cond 10 .skip (.exit 0)) (.seq (.block 1 (sr [qo 11 (.idxA 7 9 14),
 qo 12 (.load 11 14 true),qo 5 (.alloc 5 zLn),qp (.store 5 12 14)] (.reg [qm 13 3,qo 14 (.load 5 14 true),qo 15 (.call 15 94 [14]),qo 16 (.bin .add .num 13 15),qm 3 16]))) (.reg [qo 17 (.bin .add .num 9 (iC 1)),qm 9 17])))) [.keep [3, 7, 8, 9] []]))))) (sr [qm 18 3,qm 2 18] .ret))))⟩
theorem w94 {O : Oracle TT} (self94 : Ln → Option (Int)) (h94 : C94 O self94) : C94 (fun _ => vcF (S := SS) O j94) (b94 self94) := by
 intro opK nmM toN nsO nP loQ hiS sepT kU nV sW fY prsZ ks8 Q R hQ h
 unfold b94 at h
 refine ⟨nle rfl, rfl, ?_⟩
 obtain ⟨R9, h, a9, hrR9⟩ := sc h
 refine kX (fun σ => ∃ vG, R9 (.inr vG) ∧ σ = ⟨[(3, iD vG)], []⟩) ?_ ?_
 intro hlI
 refine kX (fun σ n => ∃ (rem5 : List Ln) (j6 : Nat) (z : Int) (vA : Int), n = rem5.length ∧ ks8.drop j6 = rem5 ∧ z = ((j6 : Nat) : Int) ∧ sat (f94_L2 self94 rem5 j6 vA) R9 ∧ σ.keep [3, 7, 8, 9] [] = ⟨[(3, iD vA), (7, .c (.isl .lens ks8)), (8, iD ((ks8.length : Nat) : Int)), (9, iD z)], []⟩) ⟨_, ks8, 0, _, (1 : Int), rfl, rfl, rfl, h, rfl⟩ ?_
 rintro σ n ⟨rem5, j6, _, vA, rfl, hrem5, rfl, h, hσ⟩
 refine kk hσ ?_
 intro tB (htB : tB = decide (((j6 : Nat) : Int) < ((ks8.length : Nat) : Int)))
 cases tB
 obtain rfl := ll_nil hrem5 htB
 rw [f94_L2] at h
 conv => whnf
 exact ⟨vA, ss h, rfl⟩
 obtain ⟨xC, tlF, rfl, hxC, htlF⟩ := ll_cons hrem5 htB
 obtain ⟨op00, nm01, to02, ns03, n04, lo05, hi06, sep07, ⟨k08, n09, s0A, f0B⟩, prs0C, ks0D⟩ := xC
 rw [f94_L2] at h
 conv => whnf
 refine ⟨lx_bd hxC, fun uuH huuH => ?_⟩
 obtain rfl := lx_eq hxC huuH
 refine kL [] (h94 _ _ _ _ _ _ _ _ _ _ _ _ _ _ _ _ ?_ (sb h))
 rintro vJ h
 conv => whnf
 exact ⟨tlF.length, nls, tlF, j6 + 1, _, (wrap .i64 (vA + vJ)), rfl, htlF, lx_wr hxC hlI, h, rfl⟩
 rintro _ ⟨vG, h, rfl⟩
 replace h := hrR9 _ h
 exact kR [] (ND 0) (hQ _ (ss h))
theorem cg94 {P : Program} {fid : Nat → FuncId} (mx : MX P) (k94 : KF P fid 94 j94) : ∀ n, C94 (SP P fid) (f94 n) := by
 intro n
 induction n with
 | zero => exact fun a0 a5 a6 a7 a8 a9 aA aB aC aD aE aF aG aH Q R hQ h => (sat_none h).elim
 | succ n ih =>
  have ih0 := ih
  exact fun a0 a5 a6 a7 a8 a9 aA aB aC aD aE aF aG aH Q R hQ h => spec_of_vc mx k94 (w94 (f94 n) ih0 a0 a5 a6 a7 a8 a9 aA aB aC aD aE aF aG aH Q R hQ h)
theorem c94 {P : Program} {fid : Nat → FuncId} (mx : MX P) (k94 : KF P fid 94 j94) : ∀ n, C94 (SP P fid) (f94 n) := fun n => (cg94 mx k94 n)
def f95_L2 (self95 : Ln → Option (Int)) : List Ln → Nat → Int → Option (Sum (Int) (Int))
 | [], j6, v5 => some (.inr v5)
 | (.mk op8 nm9 toA nsB nC loF hiG sepH (.mk kI nJ sK fM) prsN ksO) :: tlP, j6, v5 => (self95 (Ln.mk op8 nm9 toA nsB nC loF hiG sepH (V.mk kI nJ sK fM) prsN ksO)).bind fun v7 => f95_L2 self95 tlP (j6 + 1) (if v7 > v5 then v7 else v5)
def b95 (self95 : Ln → Option (Int)) : Ln → Option (Int)
 | .mk op7 nm8 to9 nsA nB loC hiF sepG (.mk kH nI sJ fK) prsM ks5 => sbind (ο := Int) (f95_L2 self95 ks5 0 (0 : Int)) (fun v6 => some (wrap .i64 (v6 + 1)))
def f95 : Nat → Ln → Option (Int)
 | 0 => fun _ => none
 | n + 1 => b95 (f95 n)
def C95 (O : Oracle TT) (m : Ln → Option (Int)) : Prop :=
 ∀ op5 nm6 to7 ns8 n9 loA hiB sepC kF nG sH fI prsJ ksK (Q : Int → Prop) (R : RR) (_ : ∀ vM, Q vM → R (iD vM) []) (_ : sat (m (Ln.mk op5 nm6 to7 ns8 n9 loA hiB sepC (V.mk kF nG sH fI) prsJ ksK)) Q), O 95 [.agg [ci op5, .str nm6, .str to7, .isl .str ns8, ci n9, ci loA, ci hiB, .int .u8 sepC, ci kF, ci nG, .str sH, .isl .fld fI, .isl .two prsJ, .isl .lens ksK]] [] R
def j95 : Fn TT := ⟨20, [.t 2], (sr [qo 1 (.box 1 0),qo 2 (.mv (iC 0))] (sr [qo 3 (.mv (iC 0))] (.cut [3] [] (sr [qo 6 (.fa 1 13),qo 7 (ld 6),qo 8 (.len false 7),qo 9 (.mv (iC 0))] (.block 0 (.loop (.keep [3, 7, 8, 9] [] (.aft (sr [qo 10 (.bin .lss .num 9 8)] (.seq (.cond 10 .skip (.exit 0)) (.seq (.block 1 (sr [qo 11 (.idxA 7 9 14),
 qo 12 (.load 11 14 true),qo 5 (.alloc 5 zLn),qp (.store 5 12 14)] (.reg [qm 13 3,qo 14 (.load 5 14 true),qo 15 (.call 15 95 [14]),qo 16 (.mx [13, 15]),qm 3 16]))) (.reg [qo 17 (.bin .add .num 9 (iC 1)),qm 9 17])))) [.keep [3, 7, 8, 9] []]))))) (sr [qm 18 3,qo 19 (.bin .add .num 18 (iC 1)),qm 2 19] .ret))))⟩
theorem w95 {O : Oracle TT} (self95 : Ln → Option (Int)) (h95 : C95 O self95) : C95 (fun _ => vcF (S := SS) O j95) (b95 self95) := by
 intro opK nmM toN nsO nP loQ hiS sepT kU nV sW fY prsZ ks9 Q R hQ h
 unfold b95 at h
 refine ⟨nle rfl, rfl, ?_⟩
 obtain ⟨RA, h, aA, hrRA⟩ := sc h
 refine kX (fun σ => ∃ vG, RA (.inr vG) ∧ σ = ⟨[(3, iD vG)], []⟩) ?_ ?_
 intro hlJ
 refine kX (fun σ n => ∃ (rem5 : List Ln) (j6 : Nat) (z : Int) (v8 : Int), n = rem5.length ∧ ks9.drop j6 = rem5 ∧ z = ((j6 : Nat) : Int) ∧ sat (f95_L2 self95 rem5 j6 v8) RA ∧ σ.keep [3, 7, 8, 9] [] = ⟨[(3, iD v8), (7, .c (.isl .lens ks9)), (8, iD ((ks9.length : Nat) : Int)), (9, iD z)], []⟩) ⟨_, ks9, 0, _, (0 : Int), rfl, rfl, rfl, h, rfl⟩ ?_
 rintro σ n ⟨rem5, j6, _, v8, rfl, hrem5, rfl, h, hσ⟩
 refine kk hσ ?_
 intro tB (htB : tB = decide (((j6 : Nat) : Int) < ((ks9.length : Nat) : Int)))
 cases tB
 obtain rfl := ll_nil hrem5 htB
 rw [f95_L2] at h
 conv => whnf
 exact ⟨v8, ss h, rfl⟩
 obtain ⟨xC, tlF, rfl, hxC, htlF⟩ := ll_cons hrem5 htB
 obtain ⟨op00, nm01, to02, ns03, n04, lo05, hi06, sep07, ⟨k08, n09, s0A, f0B⟩, prs0C, ks0D⟩ := xC
 rw [f95_L2] at h
 conv => whnf
 refine ⟨lx_bd hxC, fun uuH huuH => ?_⟩
 obtain rfl := lx_eq hxC huuH
 refine kL [] (h95 _ _ _ _ _ _ _ _ _ _ _ _ _ _ _ _ ?_ (sb h))
 rintro vI h
 conv => whnf
 exact ⟨tlF.length, nls, tlF, j6 + 1, _, (if vI > v8 then vI else v8), rfl, htlF, lx_wr hxC hlJ, h, rfl⟩
 rintro _ ⟨vG, h, rfl⟩
 replace h := hrRA _ h
 exact kR [] (ND 0) (hQ _ (ss h))
theorem cg95 {P : Program} {fid : Nat → FuncId} (mx : MX P) (k95 : KF P fid 95 j95) : ∀ n, C95 (SP P fid) (f95 n) := by
 intro n
 induction n with
 | zero => exact fun a0 a5 a6 a7 a8 a9 aA aB aC aD aE aF aG aH Q R hQ h => (sat_none h).elim
 | succ n ih =>
  have ih0 := ih
  exact fun a0 a5 a6 a7 a8 a9 aA aB aC aD aE aF aG aH Q R hQ h => spec_of_vc mx k95 (w95 (f95 n) ih0 a0 a5 a6 a7 a8 a9 aA aB aC aD aE aF aG aH Q R hQ h)
theorem c95 {P : Program} {fid : Nat → FuncId} (mx : MX P) (k95 : KF P fid 95 j95) : ∀ n, C95 (SP P fid) (f95 n) := fun n => (cg95 mx k95 n)
def f144 : Int → Option (Bool × Bool × Bool × Bool × Bool × Bool × Bool × Bool × Int)
 | v0 => cond (v0 == 1) (some (false, false, false, false, false, false, false, false, (-1))) (cond (v0 == 2) (some (true, false, false, false, false, false, false, false, 1)) (cond (v0 == 3) (some (true, true, false, false, false, false, false, false, 0)) (sbind (ο := Bool) (cond (v0 == 4) (some (.inr true)) (cond (v0 == 5) (some (.inr true)) (cond (v0 == 15) (some (.inr true)) (some (.inr false))))) (fun q5 => cond q5 (some (true, false, false, false, false, false, true, false, 0)) (cond (v0 == 6) (some (false, true, true, false, false, false, false, false, 0)) (sbind (ο := Bool) (cond (v0 == 7) (some (.inr true)) (cond (v0 == 16) (some (.inr true)) (cond (v0 == 17) (some (.inr true)) (some (.inr false))))) (fun q6 => cond q6 (some (true, false, false, false, false, false, false, false, 0)) (cond (v0 == 8) (some (true, false, false, true, false, false, false, false, 0)) (cond (v0 == 9) (some (true, true, true, false, false, true, false, false, 0)) (cond (v0 == 10) (some (true, true, false, false, false, true, false, false, 0)) (cond (v0 == 11) (some (false, false, false, false, false, false, false, true, 0)) (cond (v0 == 12) (some (false, false, false, false, true, false, false, false, 0)) (cond (v0 == 13) (some (true, false, false, false, false, false, false, false, 1)) (cond (v0 == 14) (some (false, false, true, false, false, false, false, false, (-1))) (cond (v0 == 18) (some (false, false, false, false, false, false, true, false, 0)) (some (false, false, false, false, false, false, false, false, 0)))))))))))))))))
def C144 (O : Oracle TT) (m : Int → Option (Bool × Bool × Bool × Bool × Bool × Bool × Bool × Bool × Int)) : Prop :=
 ∀ v0 (Q : (Bool × Bool × Bool × Bool × Bool × Bool × Bool × Bool × Int) → Prop) (R : RR) (_ : ∀ q5 q6 q7 q8 q9 qA qB qC vE, Q (q5, q6, q7, q8, q9, qA, qB, qC, vE) → R (.agg [.bool q5, .bool q6, .bool q7, .bool q8, .bool q9, .bool qA, .bool qB, .bool qC, ci vE]) []) (_ : sat (m v0) Q), O 144 [iD v0] [] R
def j144 : Fn TT := ⟨51, [.cell 2 9 true], (sr [qo 2 (.alloc 2 [.bool false, .bool false, .bool false, .bool false, .bool false, .bool false, .bool false, .bool false, .int .i64 0])] (.seq (sr [qm 3 0] (.block 0 (sr [qo 5 (.bin .eql .num 3 (iC 1)),qm 4 5] (.cond 4 (.seq
 (.reg [qo 6 (.build [.bool false, .bool false, .bool false, .bool false, .bool false, .bool false, .bool false, .bool false, .int .i64 0] [((8, 1), (iC (-1)))]),qp (.store 2 6 9)]) .ret) (sr [qo 8 (.bin .eql .num 3 (iC 2)),qm 7 8] (.cond 7 (.seq
 (.reg [qo 9 (.build [.bool false, .bool false, .bool false, .bool false, .bool false, .bool false, .bool false, .bool false, .int .i64 0] [((0, 1), bT), ((8, 1), (iC 1))]),qp (.store 2 9 9)]) .ret) (sr [qo 11 (.bin .eql .num 3 (iC 3)),qm 10 11] (.cond 10 (.seq
 (.reg [qo 12 (.build [.bool false, .bool false, .bool false, .bool false, .bool false, .bool false, .bool false, .bool false, .int .i64 0] [((0, 1), bT), ((1, 1), bT)]),qp (.store 2 12 9)]) .ret) (.cut [2, 3, 13] [(.s 2)] (sr [qo 14 (.bin .eql .num 3 (iC 4)),qm 13 14] (.cond 13 .skip (sr [qo 15 (.bin .eql .num 3 (iC 5)),qm 13 15] (.cond 13 .skip
 (.reg [qo 16 (.bin .eql .num 3 (iC 15)),qm 13 16]))))) (.cond 13 (sr [qo 17 (.build [.bool false, .bool false, .bool false, .bool false, .bool false, .bool false, .bool false, .bool false, .int .i64 0] [((0, 1), bT), ((6, 1), bT)]),qp (.store 2 17 9)] .ret) (sr [qo 19 (.bin .eql .num 3 (iC 6)),qm 18 19] (.cond 18 (.seq
 (.reg [qo 20 (.build [.bool false, .bool false, .bool false, .bool false, .bool false, .bool false, .bool false, .bool false, .int .i64 0] [((2, 1), bT), ((1, 1), bT)]),qp (.store 2 20 9)]) .ret) (.cut [2, 3, 21] [(.s 2)] (sr [qo 22 (.bin .eql .num 3 (iC 7)),qm 21 22] (.cond 21 .skip (sr [qo 23 (.bin .eql .num 3 (iC 16)),qm 21 23] (.cond 21 .skip
 (.reg [qo 24 (.bin .eql .num 3 (iC 17)),qm 21 24]))))) (.cond 21 (sr [qo 25 (.build [.bool false, .bool false, .bool false, .bool false, .bool false, .bool false, .bool false, .bool false, .int .i64 0] [((0, 1), bT)]),qp (.store 2 25 9)] .ret) (sr [qo 27 (.bin .eql .num 3 (iC 8)),qm 26 27] (.cond 26 (.seq
 (.reg [qo 28 (.build [.bool false, .bool false, .bool false, .bool false, .bool false, .bool false, .bool false, .bool false, .int .i64 0] [((0, 1), bT), ((3, 1), bT)]),qp (.store 2 28 9)]) .ret) (sr [qo 30 (.bin .eql .num 3 (iC 9)),qm 29 30] (.cond 29 (.seq
 (.reg [qo 31 (.build [.bool false, .bool false, .bool false, .bool false, .bool false, .bool false, .bool false, .bool false, .int .i64 0] [((0, 1), bT), ((1, 1), bT), ((2, 1), bT), ((5, 1), bT)]),qp (.store 2 31 9)]) .ret) (sr [qo 33 (.bin .eql .num 3 (iC 10)),qm 32 33] (.cond 32 (.seq
 (.reg [qo 34 (.build [.bool false, .bool false, .bool false, .bool false, .bool false, .bool false, .bool false, .bool false, .int .i64 0] [((0, 1), bT), ((1, 1), bT), ((5, 1), bT)]),qp (.store 2 34 9)]) .ret) (sr [qo 36 (.bin .eql .num 3 (iC 11)),qm 35 36] (.cond 35 (.seq
 (.reg [qo 37 (.build [.bool false, .bool false, .bool false, .bool false, .bool false, .bool false, .bool false, .bool false, .int .i64 0] [((7, 1), bT)]),qp (.store 2 37 9)]) .ret) (sr [qo 39 (.bin .eql .num 3 (iC 12)),qm 38 39] (.cond 38 (.seq
 (.reg [qo 40 (.build [.bool false, .bool false, .bool false, .bool false, .bool false, .bool false, .bool false, .bool false, .int .i64 0] [((4, 1), bT)]),qp (.store 2 40 9)]) .ret) (sr [qo 42 (.bin .eql .num 3 (iC 13)),qm 41 42] (.cond 41 (.seq
 (.reg [qo 43 (.build [.bool false, .bool false, .bool false, .bool false, .bool false, .bool false, .bool false, .bool false, .int .i64 0] [((0, 1), bT), ((8, 1), (iC 1))]),qp (.store 2 43 9)]) .ret) (sr [qo 45 (.bin .eql .num 3 (iC 14)),qm 44 45] (.cond 44 (.seq
 (.reg [qo 46 (.build [.bool false, .bool false, .bool false, .bool false, .bool false, .bool false, .bool false, .bool false, .int .i64 0] [((2, 1), bT), ((8, 1), (iC (-1)))]),qp (.store 2 46 9)]) .ret) (sr [qo 48 (.bin .eql .num 3 (iC 18)),qm 47 48] (.cond 47 (.seq
 (.reg [qo 49 (.build [.bool false, .bool false, .bool false, .bool false, .bool false, .bool false, .bool false, .bool false, .int .i64 0] [((6, 1), bT)]),qp (.store 2 49 9)]) .ret) .skip)))))))))))))))))))))))))))))) (sr [qo 50 (.build [.bool false, .bool false, .bool false, .bool false, .bool false, .bool false, .bool false, .bool false, .int .i64 0] []),qp (.store 2 50 9)] .ret)))⟩
theorem w144 {O : Oracle TT} : C144 (fun _ => vcF (S := SS) O j144) f144 := by
 intro v8 Q R hQ h
 unfold f144 at h
 refine ⟨nle rfl, rfl, ?_⟩
 refine kc h ?_ ?_ <;> intro h
 refine kc h ?_ ?_ <;> intro h
 refine kc h ?_ ?_ <;> intro h
 obtain ⟨R0, h, a0, b0⟩ := sc h
 refine kX (fun σ => ∃ q5, R0 (.inr q5) ∧ σ = ⟨[pT 2, (3, iD v8), (13, bD q5)], [eV (.s 2) [.bool false, .bool false, .bool false, .bool false, .bool false, .bool false, .bool false, .bool false, ci 0]]⟩) ?_ ?_
 refine kc h ?_ ?_ <;> intro h
 refine kc h ?_ ?_ <;> intro h
 refine kc h ?_ ?_ <;> intro h
 conv => whnf
 exact ⟨false, ss h, rfl⟩
 conv => whnf
 exact ⟨true, ss h, rfl⟩
 conv => whnf
 exact ⟨true, ss h, rfl⟩
 conv => whnf
 exact ⟨true, ss h, rfl⟩
 rintro _ ⟨q5, h, rfl⟩
 replace h := b0 _ h
 cases q5
 replace h := cf h
 refine kc h ?_ ?_ <;> intro h
 obtain ⟨R6, h, a6, b6⟩ := sc h
 refine kX (fun σ => ∃ q7, R6 (.inr q7) ∧ σ = ⟨[pT 2, (3, iD v8), (21, bD q7)], [eV (.s 2) [.bool false, .bool false, .bool false, .bool false, .bool false, .bool false, .bool false, .bool false, ci 0]]⟩) ?_ ?_
 refine kc h ?_ ?_ <;> intro h
 refine kc h ?_ ?_ <;> intro h
 refine kc h ?_ ?_ <;> intro h
 conv => whnf
 exact ⟨false, ss h, rfl⟩
 conv => whnf
 exact ⟨true, ss h, rfl⟩
 conv => whnf
 exact ⟨true, ss h, rfl⟩
 conv => whnf
 exact ⟨true, ss h, rfl⟩
 rintro _ ⟨q7, h, rfl⟩
 replace h := b6 _ h
 cases q7
 replace h := cf h
 refine kc h ?_ ?_ <;> intro h
 refine kc h ?_ ?_ <;> intro h
 refine kc h ?_ ?_ <;> intro h
 refine kc h ?_ ?_ <;> intro h
 refine kc h ?_ ?_ <;> intro h
 refine kc h ?_ ?_ <;> intro h
 refine kc h ?_ ?_ <;> intro h
 refine kc h ?_ ?_ <;> intro h
 exact kR [] (ND 0) (hQ _ _ _ _ _ _ _ _ _ (ss h))
 exact kR [] (ND 0) (hQ _ _ _ _ _ _ _ _ _ (ss h))
 exact kR [] (ND 0) (hQ _ _ _ _ _ _ _ _ _ (ss h))
 exact kR [] (ND 0) (hQ _ _ _ _ _ _ _ _ _ (ss h))
 exact kR [] (ND 0) (hQ _ _ _ _ _ _ _ _ _ (ss h))
 exact kR [] (ND 0) (hQ _ _ _ _ _ _ _ _ _ (ss h))
 exact kR [] (ND 0) (hQ _ _ _ _ _ _ _ _ _ (ss h))
 exact kR [] (ND 0) (hQ _ _ _ _ _ _ _ _ _ (ss h))
 exact kR [] (ND 0) (hQ _ _ _ _ _ _ _ _ _ (ss h))
 replace h := ct h
 exact kR [] (ND 0) (hQ _ _ _ _ _ _ _ _ _ (ss h))
 exact kR [] (ND 0) (hQ _ _ _ _ _ _ _ _ _ (ss h))
 replace h := ct h
 exact kR [] (ND 0) (hQ _ _ _ _ _ _ _ _ _ (ss h))
 exact kR [] (ND 0) (hQ _ _ _ _ _ _ _ _ _ (ss h))
 exact kR [] (ND 0) (hQ _ _ _ _ _ _ _ _ _ (ss h))
 exact kR [] (ND 0) (hQ _ _ _ _ _ _ _ _ _ (ss h))
def f158 : Int → Option (Bool)
 | v0 => sbind (ο := Bool) (cond (v0 == 1) (some (.inr true)) (cond (v0 == 2) (some (.inr true)) (some (.inr false)))) (fun q5 => sbind (ο := Bool) (cond q5 (some (.inr true)) (cond (v0 == 4) (some (.inr true)) (some (.inr false)))) (fun q6 => sbind (ο := Bool) (cond q6 (some (.inr true)) (cond (v0 == 5) (some (.inr true)) (some (.inr false)))) (fun q7 => some q7)))
def C158 (O : Oracle TT) (m : Int → Option (Bool)) : Prop :=
 ∀ v0 (Q : Bool → Prop) (R : RR) (_ : ∀ q5, Q q5 → R (bD q5) []) (_ : sat (m v0) Q), O 158 [iD v0] [] R
def j158 : Fn TT := ⟨17, [.t 2], (sr [qm 2 bF] (.seq (.regc [([qm 3 0,qo 4 (.bin .eql .num 3 (iC 1)),qm 5 4,qf 5 6 (.mv 0),qf 5 7 (.bin .eql .num 6 (iC 2)),qo 8 (.pick 5 bT 7)], [0, 8], []), ([qm 9 8,qf 9 10 (.mv 0),qf 9 11 (.bin .eql .num 10 (iC 4)),qo 12 (.pick 9 bT 11)], [0, 12], []), ([qm 13 12,qf 13 14 (.mv 0),
 qf 13 15 (.bin .eql .num 14 (iC 5)),qo 16 (.pick 13 bT 15)], [16], [])] [qm 2 16]) .ret))⟩
theorem w158 {O : Oracle TT} : C158 (fun _ => vcF (S := SS) O j158) f158 := by
 intro vA Q R hQ h
 unfold f158 at h
 refine ⟨nle rfl, rfl, ?_⟩
 obtain ⟨R0, h, a0, b0⟩ := sc h
 refine kX (fun σ => ∃ q5, R0 (.inr q5) ∧ σ = ⟨[(0, iD vA), (8, bD q5)], []⟩) ?_ ?_
 refine kc h ?_ ?_ <;> intro h
 refine kc h ?_ ?_ <;> intro h
 conv => whnf
 exact ⟨false, ss h, rfl⟩
 conv => whnf
 exact ⟨true, ss h, rfl⟩
 conv => whnf
 exact ⟨true, ss h, rfl⟩
 rintro _ ⟨q5, h, rfl⟩
 replace h := b0 _ h
 obtain ⟨R6, h, a6, b6⟩ := sc h
 refine kX (fun σ => ∃ q7, R6 (.inr q7) ∧ σ = ⟨[(0, iD vA), (12, bD q7)], []⟩) ?_ ?_
 cases q5
 replace h := cf h
 refine kc h ?_ ?_ <;> intro h
 conv => whnf
 exact ⟨false, ss h, rfl⟩
 conv => whnf
 exact ⟨true, ss h, rfl⟩
 replace h := ct h
 conv => whnf
 exact ⟨true, ss h, rfl⟩
 rintro _ ⟨q7, h, rfl⟩
 replace h := b6 _ h
 obtain ⟨R8, h, a8, b8⟩ := sc h
 refine kX (fun σ => ∃ q9, R8 (.inr q9) ∧ σ = ⟨[(16, bD q9)], []⟩) ?_ ?_
 cases q7
 replace h := cf h
 refine kc h ?_ ?_ <;> intro h
 conv => whnf
 exact ⟨false, ss h, rfl⟩
 conv => whnf
 exact ⟨true, ss h, rfl⟩
 replace h := ct h
 conv => whnf
 exact ⟨true, ss h, rfl⟩
 rintro _ ⟨q9, h, rfl⟩
 replace h := b8 _ h
 exact kR [] (ND 0) (hQ _ (ss h))
def f161_L73 (fuel : Nat) (k5 : Int) (n6 : Int) (s7 : BA) (f8 : FV) (k9 : Int) (nA : Int) (sB : BA) (fC : FV) (vF : Int) : LW → Nat → Option (Sum (Sum (Sum (Int) (Unit)) (Unit)) (Unit))
 | [], jG => some (.inr ())
 | ((.mk kI nJ sK fM, .mk kN nO sP fQ)) :: tlH, jG => caseI vF [(f11 fuel (V.mk k5 n6 s7 f8) (V.mk kI nJ sK fM)).bind fun qS => cond qS (lft (lft (lft (some 5)))) (f161_L73 fuel k5 n6 s7 f8 k9 nA sB fC vF tlH (jG + 1)), (f11 fuel (V.mk k9 nA sB fC) (V.mk kN nO sP fQ)).bind fun qT => cond qT (lft (lft (lft (some 5)))) (f161_L73 fuel k5 n6 s7 f8 k9 nA sB fC vF tlH (jG + 1))]
def f161_L74 (fuel : Nat) (k5 : Int) (n6 : Int) (s7 : BA) (f8 : FV) (k9 : Int) (nA : Int) (sB : BA) (fC : FV) (vF : Int) : LW → Nat → Option (Sum (Sum (Sum (Int) (Unit)) (Unit)) (Unit))
 | [], jG => some (.inr ())
 | ((.mk kI nJ sK fM, .mk kN nO sP fQ)) :: tlH, jG => caseI vF [(f11 fuel (V.mk k5 n6 s7 f8) (V.mk kI nJ sK fM)).bind fun qS => cond qS (lft (lft (lft (some 5)))) (f161_L74 fuel k5 n6 s7 f8 k9 nA sB fC vF tlH (jG + 1)), (f11 fuel (V.mk k9 nA sB fC) (V.mk kN nO sP fQ)).bind fun qT => cond qT (lft (lft (lft (some 5)))) (f161_L74 fuel k5 n6 s7 f8 k9 nA sB fC vF tlH (jG + 1))]
def f161_L70 (fuel : Nat) (l6 : LW) (j5 : Nat) (k7 : Int) (nA : Int) (sB : BA) (fC : FV) (k8 : Int) (nF : Int) (sG : BA) (fH : FV) : Nat → Int → Option (Sum (Sum (Int) (Unit)) (Unit))
 | 0, v9 => some (.inr ())
 | gK + 1, v9 => sbind (ο := Unit) (caseI v9 [(f51 fuel (V.mk k7 nA sB fC)).bind fun vI => cond (vI != 0) (lft (lft (lft (some vI)))) ((f158 k7).bind fun qM => cond qM (getL l6 0 fun uuN => match uuN with | (.mk kO nT sU fV, .mk kW nY sZ f00) => cond (k7 != kO) (lft (lft (lft (some 8)))) (grdP ((0 : Int) ≤ ((j5 : Nat) : Int) ∧ 0 ≤ ((j5 : Nat) : Int).toNat ∧ ((j5 : Nat) : Int).toNat ≤ l6.length) (f161_L73 fuel k7 nA sB fC k8 nF sG fH v9 ((l6.drop 0).take (((j5 : Nat) : Int).toNat - 0)) 0))) (lft (lft (lft (some 8))))), (f51 fuel (V.mk k8 nF sG fH)).bind fun vJ => cond (vJ != 0) (lft (lft (lft (some vJ)))) ((f158 k8).bind fun qP => cond qP (getL l6 0 fun uuQ => match uuQ with | (.mk k01 n02 s03 f04, .mk kS n05 s06 f07) => cond (k8 != kS) (lft (lft (lft (some 8)))) (grdP ((0 : Int) ≤ ((j5 : Nat) : Int) ∧ 0 ≤ ((j5 : Nat) : Int).toNat ∧ ((j5 : Nat) : Int).toNat ≤ l6.length) (f161_L74 fuel k7 nA sB fC k8 nF sG fH v9 ((l6.drop 0).take (((j5 : Nat) : Int).toNat - 0)) 0))) (lft (lft (lft (some 8)))))]) (fun () => f161_L70 fuel l6 j5 k7 nA sB fC k8 nF sG fH gK (v9 + 1))
def f161_L56 (fuel : Nat) (l6 : LW) : LW → Nat → Option (Sum (Int) (Unit))
 | [], j5 => some (.inr ())
 | ((.mk k7 n8 s9 fA, .mk kB nC sF fG)) :: tlH, j5 => sbind (ο := Unit) (grdP ((2 : Int) ≤ 9223372036854775807) (f161_L70 fuel l6 j5 k7 n8 s9 fA kB nC sF fG ((2 : Int) - 0).toNat 0)) (fun () => f161_L56 fuel l6 tlH (j5 + 1))
def f161 (fuel : Nat) : LW → Option (Int)
 | l0 => cond (((l0.length : Nat) : Int) == 0) (some 3) (cond (decide (((l0.length : Nat) : Int) > 40)) (some 2) (sbind (ο := Unit) (f161_L56 fuel l0 l0 0) (fun () => some 0)))
def C161 (O : Oracle TT) (m : LW → Option (Int)) : Prop :=
 ∀ l0 (Q : Int → Prop) (R : RR) (_ : ∀ v5, Q v5 → R (iD v5) []) (_ : sat (m l0) Q), O 161 [.c (.isl .two l0)] [] R
def j161 : Fn TT := ⟨69, [.t 2], (sr [qo 2 (.mv (iC 0))] (.seq (sr [qm 9 0,qo 10 (.len false 9),qo 11 (.bin .eql .num 10 (iC 0))] (.cond 11 (sr [qo 2 (.mv (iC 3))] .ret) .skip)) (.seq (sr [qm 12 0,qo 13 (.len false 12),qo 14 (.bin .gtr .num 13 (iC 40))] (.cond 14 (sr [qo 2 (.mv (iC 2))] .ret) .skip)) (.cut [] [] (.seq
 (.reg [qm 15 0,qo 16 (.len false 15),qo 17 (.mv (iC 0))]) (.block 0 (.loop (.keep [0, 15, 16, 17] [] (.aft (sr [qo 18 (.bin .lss .num 17 16)] (.seq (.cond 18 .skip (.exit 0)) (.cut [0, 15, 16, 17] [] (.block 1 (sr [qm 19 17,qo 20 (.idxA 15 17 8),qo 21 (.load 20 8 true),qo 4 (.alloc 4 zTw),qm 3 19,qp (.store 4 21 8)] (sr [qo 22 (.mv (iC 0))]
 (.block 2 (.loop (.keep [0, 3, 4, 15, 16, 17, 22] [(.s 4)] (.aft (sr [qo 23 (.bin .lss .num 22 (iC 2))] (.seq (.cond 23 .skip (.exit 2)) (.cut [0, 3, 4, 15, 16, 17, 22] [(.s 4)] (.block 3 (sr [qm 24 22,qm 5 24] (.seq (sr [qm 25 5,qo 26 (.idxC 4 25 4 2),qo 27 (.load 26 4 true),qo 28 (.call 28 51 [27]),qm 6 28] (sr [qm 29 6,
 qo 30 (.bin .neq .num 29 (iC 0))] (.cond 30 (sr [qm 31 6,qm 2 31] .ret) .skip))) (.seq (.seq (.drw [] (oR 19) [] [0, 1, 2, 3, 5, 6, 7, 8, 9, 10, 11, 12, 13, 14, 15, 16, 17, 18] [qm 32 5,qo 33 (.idxC 4 32 4 2),qo 34 (.fa 33 0),qo 35 (ld 34),qo 36 (.call 36 158 [35]),qo 37 (.un .not 36),qm 38 37,qf 38 39 (.mv 5),qf 38 40 (.idxC 4 39 4 2),
 qf 38 41 (.fa 40 0),qf 38 42 (ld 41),qf 38 43 (.mv 0),qf 38 44 (.mv 5),qf 38 45 (.idxA 43 (iC 0) 8),qf 38 46 (.idxC 45 44 4 2),qf 38 47 (.fa 46 0),qf 38 48 (ld 47),qf 38 49 (.bin .neq .num 42 48),qo 50 (.pick 38 bT 49)]) (.cond 50 (sr [qo 2 (.mv (iC 8))] .ret) .skip)) (sr [qm 51 0,qm 52 3,qo 53 (.slc 8 51 none (some 52)),
 qo 54 (.len false 53),qo 55 (.mv (iC 0))] (.block 4 (.loop (.keep [0, 3, 4, 5, 15, 16, 17, 22, 53, 54, 55] [(.s 4)] (.aft (sr [qo 56 (.bin .lss .num 55 54)] (.seq (.cond 56 .skip (.exit 4)) (.seq (.block 5 (sr [qo 57 (.idxA 53 55 8),qo 58 (.load 57 8 true),qo 8 (.alloc 8 zTw),qp (.store 8 58 8)] (.seq (.drw [] (oR 7) [] (List.range 6) [qm 59 5,qo 60 (.idxC 4 59 4 2),
 qo 61 (.load 60 4 true),qm 62 5,qo 63 (.idxC 8 62 4 2),qo 64 (.load 63 4 true),qo 65 (.call 65 11 [61, 64])]) (.cond 65 (sr [qo 2 (.mv (iC 5))] .ret) .skip)))) (.reg [qo 66 (.bin .add .num 55 (iC 1)),qm 55 66])))) [.keep [0, 3, 4, 5, 15, 16, 17, 22, 53, 54, 55] [(.s 4)]]))))))))) (.reg [qo 67 (.bin .add .num 22 (iC 1)),
 qm 22 67])))) [.keep [0, 3, 4, 15, 16, 17, 22] [(.s 4)]]))))))) (.reg [qo 68 (.bin .add .num 17 (iC 1)),qm 17 68])))) [.keep [0, 15, 16, 17] []]))))) (sr [qo 2 (.mv (iC 0))] .ret)))))⟩
theorem w161 {O : Oracle TT} (fuel : Nat) (h11 : C11 O (f11 fuel)) (h51 : C51 O (f51 fuel)) (h158 : C158 O f158) : C161 (fun _ => vcF (S := SS) O j161) (f161 fuel) := by
 intro l5 Q R hQ h
 unfold f161 at h
 refine ⟨nle rfl, rfl, ?_⟩
 intro hl14
 refine kc h ?_ ?_ <;> intro h
 intro hl15
 refine kc h ?_ ?_ <;> intro h
 obtain ⟨RA, h, aA, bA⟩ := sc h
 refine kX (fun σ => RA (.inr ()) ∧ σ = ⟨[], []⟩) ?_ ?_
 intro hl0S
 refine kX (fun σ n => ∃ (remK : LW) (j6 : Nat) (z : Int), n = remK.length ∧ l5.drop j6 = remK ∧ z = ((j6 : Nat) : Int) ∧ sat (f161_L56 fuel l5 remK j6) RA ∧ σ.keep [0, 15, 16, 17] [] = ⟨[(0, .c (.isl .two l5)), (15, .c (.isl .two l5)), (16, iD ((l5.length : Nat) : Int)), (17, iD z)], []⟩) ⟨_, l5, 0, _, rfl, rfl, rfl, h, rfl⟩ ?_
 rintro σ n ⟨remK, j6, _, rfl, hremK, rfl, h, hσ⟩
 refine kk hσ ?_
 intro t05 (ht05 : t05 = decide (((j6 : Nat) : Int) < ((l5.length : Nat) : Int)))
 cases t05
 obtain rfl := ll_nil hremK ht05
 rw [f161_L56] at h
 conv => whnf
 exact ⟨ss h, rfl⟩
 obtain ⟨x06, tl0A, rfl, hx06, htl0A⟩ := ll_cons hremK ht05
 obtain ⟨⟨kM, nN, sO, fP⟩, ⟨kQ, nS, sU, fV⟩⟩ := x06
 rw [f161_L56] at h
 obtain ⟨RB, h, aB, bB⟩ := sc h
 refine kX (fun σ => RB (.inr ()) ∧ σ = ⟨[(0, .c (.isl .two l5)), (15, .c (.isl .two l5)), (16, iD ((l5.length : Nat) : Int)), (17, iD ((j6 : Nat) : Int))], []⟩) ?_ ?_
 conv => whnf
 refine ⟨lx_bd hx06, fun uu0B huu0B => ?_⟩
 obtain rfl := lx_eq hx06 huu0B
 obtain ⟨hN0T, h⟩ := sat_grdP h
 refine kX (fun σ n => ∃ (fI : Nat) (v8 : Int) (z : Int), fI = n ∧ fI = (2 - v8).toNat ∧ 0 ≤ v8 ∧ v8 = z ∧ sat (f161_L70 fuel l5 j6 kM nN sO fP kQ nS sU fV fI v8) RB ∧ σ.keep [0, 3, 4, 15, 16, 17, 22] [(.s 4)] = ⟨[(0, .c (.isl .two l5)), (3, iD ((j6 : Nat) : Int)), pT 4, (15, .c (.isl .two l5)), (16, iD ((l5.length : Nat) : Int)), (17, iD ((j6 : Nat) : Int)), (22, iD z)], [eV (.s 4) [ci kM, ci nN, .str sO, .isl .fld fP, ci kQ, ci nS, .str sU, .isl .fld fV]]⟩) ⟨_, _, 0, _, rfl, rfl, (by decide), rfl, h, rfl⟩ ?_
 rintro σ n ⟨fI, v8, _, rfl, hfI, hpfI, rfl, h, hσ⟩
 refine kk hσ ?_
 intro t07 (ht07 : t07 = decide (v8 < 2))
 cases t07
 obtain rfl := il_nil hfI ht07
 rw [f161_L70] at h
 conv => whnf
 exact ⟨ss h, rfl⟩
 obtain ⟨gJ, rfl, hwgJ, hpgJ, hfgJ⟩ := il_cons hfI hpfI ht07 hN0T
 rw [f161_L70] at h
 obtain ⟨R9, h, a9, b9⟩ := sc h
 refine kX (fun σ => R9 (.inr ()) ∧ σ = ⟨[(0, .c (.isl .two l5)), (3, iD ((j6 : Nat) : Int)), pT 4, (15, .c (.isl .two l5)), (16, iD ((l5.length : Nat) : Int)), (17, iD ((j6 : Nat) : Int)), (22, iD v8)], [eV (.s 4) [ci kM, ci nN, .str sO, .isl .fld fP, ci kQ, ci nS, .str sU, .isl .fld fV]]⟩) ?_ ?_
 conv => whnf
 obtain ⟨hbjC, h⟩ := sat_caseI h
 refine ⟨hbjC, fun jC hjC => ?_⟩
 replace h := h jC hjC
 replace hbjC : (0 : Int) ≤ v8 ∧ v8 < 2 := hbjC
 have hcjC : jC = 0 ∨ jC = 1 := by omega
 rcases hcjC with rfl | rfl
 replace h := sat_j0 h
 refine kL [] (h51 _ _ _ _ _ _ ?_ (sb h))
 rintro v17 h
 refine kc h ?_ ?_ <;> intro h
 conv => whnf
 refine ⟨⟨by omega, by omega⟩, fun j0C hj0C => ?_⟩
 obtain rfl : j0C = 0 := by omega
 refine kL [] (h158 _ _ _ ?_ (sb h))
 rintro q0U h
 cases q0U
 replace h := cf h
 replace h := sat_lft a9 h
 replace h := sat_lft aB h
 replace h := sat_lft aA h
 exact kR [] (ND 0) (hQ _ (ss h))
 replace h := ct h
 conv => whnf
 refine ⟨⟨by omega, by omega⟩, fun j0D hj0D => ?_⟩
 obtain rfl : j0D = 0 := by omega
 refine kg (sat_getL h) fun uu0E huu0E h => ?_
 obtain ⟨⟨k18, n19, s1A, f1B⟩, ⟨k1C, n1D, s1E, f1F⟩⟩ := uu0E
 conv => whnf
 refine ⟨⟨by omega, by omega⟩, fun j0F hj0F => ?_⟩
 obtain rfl : j0F = 0 := by omega
 refine kc h ?_ ?_ <;> intro h
 conv => whnf
 obtain ⟨⟨hb0V, hb0W⟩, h⟩ := sat_grdP h
 refine ⟨hb0V, ?_⟩
 conv => whnf
 refine ⟨hb0W, ?_⟩
 intro hl0G
 refine kX (fun σ n => ∃ (remW : LW) (jY : Nat) (z : Int), n = remW.length ∧ ((l5.drop 0).take (((j6 : Nat) : Int).toNat - 0)).drop jY = remW ∧ z = ((jY : Nat) : Int) ∧ sat (f161_L73 fuel kM nN sO fP kQ nS sU fV v8 remW jY) R9 ∧ σ.keep [0, 3, 4, 5, 15, 16, 17, 22, 53, 54, 55] [(.s 4)] = ⟨[(0, .c (.isl .two l5)), (3, iD ((j6 : Nat) : Int)), pT 4, (5, iD v8), (15, .c (.isl .two l5)), (16, iD ((l5.length : Nat) : Int)), (17, iD ((j6 : Nat) : Int)), (22, iD v8), (53, .c (.isl .two ((l5.drop 0).take (((j6 : Nat) : Int).toNat - 0)))), (54, iD ((((l5.drop 0).take (((j6 : Nat) : Int).toNat - 0)).length : Nat) : Int)), (55, iD z)], [eV (.s 4) [ci kM, ci nN, .str sO, .isl .fld fP, ci kQ, ci nS, .str sU, .isl .fld fV]]⟩) ⟨_, ((l5.drop 0).take (((j6 : Nat) : Int).toNat - 0)), 0, _, rfl, rfl, rfl, h, rfl⟩ ?_
 rintro σ n ⟨remW, jY, _, rfl, hremW, rfl, h, hσ⟩
 refine kk hσ ?_
 intro t08 (ht08 : t08 = decide (((jY : Nat) : Int) < ((((l5.drop 0).take (((j6 : Nat) : Int).toNat - 0)).length : Nat) : Int)))
 cases t08
 obtain rfl := ll_nil hremW ht08
 rw [f161_L73] at h
 conv => whnf
 exact ⟨ss h, rfl⟩
 obtain ⟨x03, tlZ, rfl, hx03, htlZ⟩ := ll_cons hremW ht08
 obtain ⟨⟨k1G, n1H, s1I, f1J⟩, ⟨k1K, n1L, s1M, f1N⟩⟩ := x03
 rw [f161_L73] at h
 conv => whnf
 refine ⟨lx_bd hx03, fun uu0H huu0H => ?_⟩
 obtain rfl := lx_eq hx03 huu0H
 conv => whnf
 obtain ⟨hbjG, h⟩ := sat_caseI h
 refine ⟨hbjG, fun jG hjG => ?_⟩
 replace h := h jG hjG
 replace hbjG : (0 : Int) ≤ v8 ∧ v8 < 2 := hbjG
 have hcjG : jG = 0 ∨ jG = 1 := by omega
 rcases hcjG with rfl | rfl
 replace h := sat_j0 h
 conv => whnf
 refine ⟨⟨by omega, by omega⟩, fun j0I hj0I => ?_⟩
 obtain rfl : j0I = 0 := by omega
 refine kL [] (h11 _ _ _ _ _ _ _ _ _ _ ?_ (sb h))
 rintro q0X h
 cases q0X
 replace h := cf h
 conv => whnf
 exact ⟨tlZ.length, nls, tlZ, jY + 1, _, rfl, htlZ, lx_wr hx03 hl0G, h, rfl⟩
 replace h := ct h
 replace h := sat_lft a9 h
 replace h := sat_lft aB h
 replace h := sat_lft aA h
 exact kR [] (ND 0) (hQ _ (ss h))
 replace h := sat_j1 h
 conv => whnf
 refine ⟨⟨by omega, by omega⟩, fun j0J hj0J => ?_⟩
 obtain rfl : j0J = 1 := by omega
 refine kL [] (h11 _ _ _ _ _ _ _ _ _ _ ?_ (sb h))
 rintro q0Y h
 cases q0Y
 replace h := cf h
 conv => whnf
 exact ⟨tlZ.length, nls, tlZ, jY + 1, _, rfl, htlZ, lx_wr hx03 hl0G, h, rfl⟩
 replace h := ct h
 replace h := sat_lft a9 h
 replace h := sat_lft aB h
 replace h := sat_lft aA h
 exact kR [] (ND 0) (hQ _ (ss h))
 replace h := sat_lft a9 h
 replace h := sat_lft aB h
 replace h := sat_lft aA h
 exact kR [] (ND 0) (hQ _ (ss h))
 replace h := sat_lft a9 h
 replace h := sat_lft aB h
 replace h := sat_lft aA h
 exact kR [] (ND 0) (hQ _ (ss h))
 replace h := sat_j1 h
 refine kL [] (h51 _ _ _ _ _ _ ?_ (sb h))
 rintro v1O h
 refine kc h ?_ ?_ <;> intro h
 conv => whnf
 refine ⟨⟨by omega, by omega⟩, fun j0K hj0K => ?_⟩
 obtain rfl : j0K = 1 := by omega
 refine kL [] (h158 _ _ _ ?_ (sb h))
 rintro q0Z h
 cases q0Z
 replace h := cf h
 replace h := sat_lft a9 h
 replace h := sat_lft aB h
 replace h := sat_lft aA h
 exact kR [] (ND 0) (hQ _ (ss h))
 replace h := ct h
 conv => whnf
 refine ⟨⟨by omega, by omega⟩, fun j0L hj0L => ?_⟩
 obtain rfl : j0L = 1 := by omega
 refine kg (sat_getL h) fun uu0M huu0M h => ?_
 obtain ⟨⟨k1P, n1Q, s1R, f1S⟩, ⟨k1T, n1U, s1V, f1W⟩⟩ := uu0M
 conv => whnf
 refine ⟨⟨by omega, by omega⟩, fun j0N hj0N => ?_⟩
 obtain rfl : j0N = 1 := by omega
 refine kc h ?_ ?_ <;> intro h
 conv => whnf
 obtain ⟨⟨hb10, hb11⟩, h⟩ := sat_grdP h
 refine ⟨hb10, ?_⟩
 conv => whnf
 refine ⟨hb11, ?_⟩
 intro hl0O
 refine kX (fun σ n => ∃ (rem00 : LW) (j01 : Nat) (z : Int), n = rem00.length ∧ ((l5.drop 0).take (((j6 : Nat) : Int).toNat - 0)).drop j01 = rem00 ∧ z = ((j01 : Nat) : Int) ∧ sat (f161_L74 fuel kM nN sO fP kQ nS sU fV v8 rem00 j01) R9 ∧ σ.keep [0, 3, 4, 5, 15, 16, 17, 22, 53, 54, 55] [(.s 4)] = ⟨[(0, .c (.isl .two l5)), (3, iD ((j6 : Nat) : Int)), pT 4, (5, iD v8), (15, .c (.isl .two l5)), (16, iD ((l5.length : Nat) : Int)), (17, iD ((j6 : Nat) : Int)), (22, iD v8), (53, .c (.isl .two ((l5.drop 0).take (((j6 : Nat) : Int).toNat - 0)))), (54, iD ((((l5.drop 0).take (((j6 : Nat) : Int).toNat - 0)).length : Nat) : Int)), (55, iD z)], [eV (.s 4) [ci kM, ci nN, .str sO, .isl .fld fP, ci kQ, ci nS, .str sU, .isl .fld fV]]⟩) ⟨_, ((l5.drop 0).take (((j6 : Nat) : Int).toNat - 0)), 0, _, rfl, rfl, rfl, h, rfl⟩ ?_
 rintro σ n ⟨rem00, j01, _, rfl, hrem00, rfl, h, hσ⟩
 refine kk hσ ?_
 intro t09 (ht09 : t09 = decide (((j01 : Nat) : Int) < ((((l5.drop 0).take (((j6 : Nat) : Int).toNat - 0)).length : Nat) : Int)))
 cases t09
 obtain rfl := ll_nil hrem00 ht09
 rw [f161_L74] at h
 conv => whnf
 exact ⟨ss h, rfl⟩
 obtain ⟨x04, tl02, rfl, hx04, htl02⟩ := ll_cons hrem00 ht09
 obtain ⟨⟨k1X, n1Y, s1Z, f20⟩, ⟨k21, n22, s23, f24⟩⟩ := x04
 rw [f161_L74] at h
 conv => whnf
 refine ⟨lx_bd hx04, fun uu0P huu0P => ?_⟩
 obtain rfl := lx_eq hx04 huu0P
 conv => whnf
 obtain ⟨hbjH, h⟩ := sat_caseI h
 refine ⟨hbjH, fun jH hjH => ?_⟩
 replace h := h jH hjH
 replace hbjH : (0 : Int) ≤ v8 ∧ v8 < 2 := hbjH
 have hcjH : jH = 0 ∨ jH = 1 := by omega
 rcases hcjH with rfl | rfl
 replace h := sat_j0 h
 conv => whnf
 refine ⟨⟨by omega, by omega⟩, fun j0Q hj0Q => ?_⟩
 obtain rfl : j0Q = 0 := by omega
 refine kL [] (h11 _ _ _ _ _ _ _ _ _ _ ?_ (sb h))
 rintro q12 h
 cases q12
 replace h := cf h
 conv => whnf
 exact ⟨tl02.length, nls, tl02, j01 + 1, _, rfl, htl02, lx_wr hx04 hl0O, h, rfl⟩
 replace h := ct h
 replace h := sat_lft a9 h
 replace h := sat_lft aB h
 replace h := sat_lft aA h
 exact kR [] (ND 0) (hQ _ (ss h))
 replace h := sat_j1 h
 conv => whnf
 refine ⟨⟨by omega, by omega⟩, fun j0R hj0R => ?_⟩
 obtain rfl : j0R = 1 := by omega
 refine kL [] (h11 _ _ _ _ _ _ _ _ _ _ ?_ (sb h))
 rintro q13 h
 cases q13
 replace h := cf h
 conv => whnf
 exact ⟨tl02.length, nls, tl02, j01 + 1, _, rfl, htl02, lx_wr hx04 hl0O, h, rfl⟩
 replace h := ct h
 replace h := sat_lft a9 h
 replace h := sat_lft aB h
 replace h := sat_lft aA h
 exact kR [] (ND 0) (hQ _ (ss h))
 replace h := sat_lft a9 h
 replace h := sat_lft aB h
 replace h := sat_lft aA h
 exact kR [] (ND 0) (hQ _ (ss h))
 replace h := sat_lft a9 h
 replace h := sat_lft aB h
 replace h := sat_lft aA h
 exact kR [] (ND 0) (hQ _ (ss h))
 rintro _ ⟨h, rfl⟩
 replace h := b9 _ h
 conv => whnf
 exact ⟨gJ, nls, gJ, v8 + 1, _, rfl, hfgJ, hpgJ, hwgJ.symm, h, rfl⟩
 rintro _ ⟨h, rfl⟩
 replace h := bB _ h
 conv => whnf
 exact ⟨tl0A.length, nls, tl0A, j6 + 1, _, rfl, htl0A, lx_wr hx06 hl0S, h, rfl⟩
 rintro _ ⟨h, rfl⟩
 replace h := bA _ h
 exact kR [] (ND 0) (hQ _ (ss h))
 exact kR [] (ND 0) (hQ _ (ss h))
 exact kR [] (ND 0) (hQ _ (ss h))
def f174_L2 (s4 : BA) : LB → Nat → Option (Sum (Int) (Unit))
 | [], j3 => some (.inr ())
 | w5 :: tl6, j3 => cond (s4.toList == w5.toList) (lft (some ((j3 : Nat) : Int))) (f174_L2 s4 tl6 (j3 + 1))
def f174 : LB → BA → Option (Int)
 | l3, s4 => sbind (ο := Unit) (f174_L2 s4 l3 0) (fun () => some (-1))
def C174 (O : Oracle TT) (m : LB → BA → Option (Int)) : Prop :=
 ∀ l5 s6 (Q : Int → Prop) (R : RR) (_ : ∀ v7, Q v7 → R (iD v7) []) (_ : sat (m l5 s6) Q), O 174 [.c (.isl .str l5), sD s6] [] R
def j174 : Fn TT := ⟨19, [.t 4], (sr [qo 4 (.mv (iC 0))] (.cut [] [] (sr [qm 6 0,qo 7 (.len false 6),qo 8 (.mv (iC 0))] (.block 0 (.loop (.keep [0, 1, 7, 8] [] (.aft (sr [qo 9 (.bin .lss .num 8 7)] (.seq (.cond 9 .skip (.exit 0)) (.seq (.block 1 (sr [qm 10 8,qm 5 10] (sr [qm 11 1,qm 12 0,qm 13 5,
 qo 14 (.idxA 12 13 1),qo 15 (ld 14),qo 16 (.bin .eql .str 11 15)] (.cond 16 (sr [qm 17 5,qm 4 17] .ret) .skip)))) (.reg [qo 18 (.bin .add .num 8 (iC 1)),qm 8 18])))) [.keep [0, 1, 7, 8] []]))))) (sr [qo 4 (.mv (iC (-1)))] .ret)))⟩
theorem w174 {O : Oracle TT} : C174 (fun _ => vcF (S := SS) O j174) f174 := by
 intro l9 sG Q R hQ h
 unfold f174 at h
 refine ⟨nle rfl, rfl, ?_⟩
 obtain ⟨R6, h, a6, b6⟩ := sc h
 refine kX (fun σ => R6 (.inr ()) ∧ σ = ⟨[], []⟩) ?_ ?_
 intro hlI
 refine kX (fun σ n => ∃ (rem5 : LB) (j8 : Nat) (z : Int), n = rem5.length ∧ l9.drop j8 = rem5 ∧ z = ((j8 : Nat) : Int) ∧ sat (f174_L2 sG rem5 j8) R6 ∧ σ.keep [0, 1, 7, 8] [] = ⟨[(0, .c (.isl .str l9)), (1, sD sG), (7, iD ((l9.length : Nat) : Int)), (8, iD z)], []⟩) ⟨_, l9, 0, _, rfl, rfl, rfl, h, rfl⟩ ?_
 rintro σ n ⟨rem5, j8, _, rfl, hrem5, rfl, h, hσ⟩
 refine kk hσ ?_
 intro tA (htA : tA = decide (((j8 : Nat) : Int) < ((l9.length : Nat) : Int)))
 cases tA
 obtain rfl := ll_nil hrem5 htA
 rw [f174_L2] at h
 conv => whnf
 exact ⟨ss h, rfl⟩
 obtain ⟨wJ, tlB, rfl, hxC, htlB⟩ := ll_cons hrem5 htA
 rw [f174_L2] at h
 conv => whnf
 refine ⟨lx_bd hxC, fun uuH huuH => ?_⟩
 obtain rfl := lx_eq hxC huuH
 refine kc h ?_ ?_ <;> intro h
 conv => whnf
 exact ⟨tlB.length, nls, tlB, j8 + 1, _, rfl, htlB, lx_wr hxC hlI, h, rfl⟩
 replace h := sat_lft a6 h
 exact kR [] (ND 0) (hQ _ (ss h))
 rintro _ ⟨h, rfl⟩
 replace h := b6 _ h
 exact kR [] (ND 0) (hQ _ (ss h))
def f170 : LB → BA → Option (Bool)
 | l5, s6 => (f174 l5 s6).bind fun v7 => cond (decide (v7 ≥ 0)) (some true) (some false)
def C170 (O : Oracle TT) (m : LB → BA → Option (Bool)) : Prop :=
 ∀ l5 s6 (Q : Bool → Prop) (R : RR) (_ : ∀ q7, Q q7 → R (bD q7) []) (_ : sat (m l5 s6) Q), O 170 [.c (.isl .str l5), sD s6] [] R
def j170 : Fn TT := ⟨9, [.t 4], (sr [qm 4 bF] (sr [qm 5 0,qm 6 1,qo 7 (.call 7 174 [5, 6]),qo 8 (.bin .geq .num 7 (iC 0)),qm 4 8] .ret))⟩
theorem w170 {O : Oracle TT} (h174 : C174 O f174) : C170 (fun _ => vcF (S := SS) O j170) f170 := by
 intro l5 s6 Q R hQ h
 unfold f170 at h
 refine ⟨nle rfl, rfl, ?_⟩
 refine kL [] (h174 _ _ _ _ ?_ (sb h))
 rintro v7 h
 refine kc h ?_ ?_ <;> intro h
 exact kR [] (ND 0) (hQ _ (ss h))
 exact kR [] (ND 0) (hQ _ (ss h))
def f159_L2 (l6 : LB) : LB → Nat → Option (Sum (Int) (Unit))
 | [], j5 => some (.inr ())
 | w7 :: tl8, j5 => (f132 w7).bind fun q9 => cond q9 (grdP ((0 : Int) ≤ ((j5 : Nat) : Int) ∧ 0 ≤ ((j5 : Nat) : Int).toNat ∧ ((j5 : Nat) : Int).toNat ≤ l6.length) ((f170 ((l6.drop 0).take (((j5 : Nat) : Int).toNat - 0)) w7).bind fun qA => cond qA (lft (some 5)) (f159_L2 l6 tl8 (j5 + 1)))) (lft (some 15))
def f159 : LB → Option (Int)
 | l0 => cond (((l0.length : Nat) : Int) == 0) (some 3) (sbind (ο := Unit) (f159_L2 l0 l0 0) (fun () => some 0))
def C159 (O : Oracle TT) (m : LB → Option (Int)) : Prop :=
 ∀ l0 (Q : Int → Prop) (R : RR) (_ : ∀ v5, Q v5 → R (iD v5) []) (_ : sat (m l0) Q), O 159 [.c (.isl .str l0)] [] R
def j159 : Fn TT := ⟨24, [.t 2], (sr [qo 2 (.mv (iC 0))] (.seq (sr [qm 5 0,qo 6 (.len false 5),qo 7 (.bin .eql .num 6 (iC 0))] (.cond 7 (sr [qo 2 (.mv (iC 3))] .ret) .skip)) (.cut [] [] (sr [qm 8 0,qo 9 (.len false 8),qo 10 (.mv (iC 0))] (.block 0 (.loop (.keep [0, 8, 9, 10] [] (.aft (sr [qo 11 (.bin .lss .num 10 9)] (.seq
 (.cond 11 .skip (.exit 0)) (.seq (.block 1 (sr [qm 12 10,qo 13 (.idxA 8 10 1),qo 14 (ld 13),qm 3 12,qm 4 14] (.seq (sr [qm 15 4,qo 16 (.call 16 132 [15]),qo 17 (.un .not 16)] (.cond 17 (sr [qo 2 (.mv (iC 15))] .ret) .skip)) (sr [qm 18 0,qm 19 3,qo 20 (.slc 1 18 none (some 19)),qm 21 4,
 qo 22 (.call 22 170 [20, 21])] (.cond 22 (sr [qo 2 (.mv (iC 5))] .ret) .skip))))) (.reg [qo 23 (.bin .add .num 10 (iC 1)),qm 10 23])))) [.keep [0, 8, 9, 10] []]))))) (sr [qo 2 (.mv (iC 0))] .ret))))⟩
theorem w159 {O : Oracle TT} (h132 : C132 O f132) (h170 : C170 O f170) : C159 (fun _ => vcF (S := SS) O j159) f159 := by
 intro l5 Q R hQ h
 unfold f159 at h
 refine ⟨nle rfl, rfl, ?_⟩
 intro hlL
 refine kc h ?_ ?_ <;> intro h
 obtain ⟨R6, h, a6, b6⟩ := sc h
 refine kX (fun σ => R6 (.inr ()) ∧ σ = ⟨[], []⟩) ?_ ?_
 intro hlG
 refine kX (fun σ n => ∃ (rem8 : LB) (j9 : Nat) (z : Int), n = rem8.length ∧ l5.drop j9 = rem8 ∧ z = ((j9 : Nat) : Int) ∧ sat (f159_L2 l5 rem8 j9) R6 ∧ σ.keep [0, 8, 9, 10] [] = ⟨[(0, .c (.isl .str l5)), (8, .c (.isl .str l5)), (9, iD ((l5.length : Nat) : Int)), (10, iD z)], []⟩) ⟨_, l5, 0, _, rfl, rfl, rfl, h, rfl⟩ ?_
 rintro σ n ⟨rem8, j9, _, rfl, hrem8, rfl, h, hσ⟩
 refine kk hσ ?_
 intro tA (htA : tA = decide (((j9 : Nat) : Int) < ((l5.length : Nat) : Int)))
 cases tA
 obtain rfl := ll_nil hrem8 htA
 rw [f159_L2] at h
 conv => whnf
 exact ⟨ss h, rfl⟩
 obtain ⟨wM, tlB, rfl, hxC, htlB⟩ := ll_cons hrem8 htA
 rw [f159_L2] at h
 conv => whnf
 refine ⟨lx_bd hxC, fun uuE huuE => ?_⟩
 obtain rfl := lx_eq hxC huuE
 refine kL [] (h132 _ _ _ ?_ (sb h))
 rintro qH h
 cases qH
 replace h := cf h
 replace h := sat_lft a6 h
 exact kR [] (ND 0) (hQ _ (ss h))
 replace h := ct h
 conv => whnf
 obtain ⟨⟨hbI, hbJ⟩, h⟩ := sat_grdP h
 refine ⟨hbI, ?_⟩
 conv => whnf
 refine ⟨hbJ, ?_⟩
 refine kL [] (h170 _ _ _ _ ?_ (sb h))
 rintro qK h
 cases qK
 replace h := cf h
 conv => whnf
 exact ⟨tlB.length, nls, tlB, j9 + 1, _, rfl, htlB, lx_wr hxC hlG, h, rfl⟩
 replace h := ct h
 replace h := sat_lft a6 h
 exact kR [] (ND 0) (hQ _ (ss h))
 rintro _ ⟨h, rfl⟩
 replace h := b6 _ h
 exact kR [] (ND 0) (hQ _ (ss h))
 exact kR [] (ND 0) (hQ _ (ss h))
def f145_L2 (fuel : Nat) : LB → Nat → Option (Sum (Int) (Unit))
 | [], j5 => some (.inr ())
 | w7 :: tl8, j5 => (f160 fuel w7).bind fun v6 => cond (v6 != 0) (lft (some v6)) (f145_L2 fuel tl8 (j5 + 1))
def f145 (fuel : Nat) : Ln → Option (Int)
 | .mk op5 nmJ toK ns6 nM lo8 hi9 sepN (.mk k7 nO sP fQ) prsA ksB => sbind (ο := Unit) (cond (op5 == 5) (cond (k7 != 0) ((f158 k7).bind fun qC => cond qC (some (.inr ())) (lft (some 8))) (some (.inr ()))) (cond (op5 == 15) ((f158 k7).bind fun qF => cond qF (some (.inr ())) (lft (some 8))) (cond (op5 == 6) ((f159 ns6).bind fun vG => lft (some vG)) (cond (op5 == 14) (cond (((ns6.length : Nat) : Int) != ((ksB.length : Nat) : Int)) (lft (some 3)) ((f159 ns6).bind fun vH => lft (some vH))) (cond (op5 == 9) (cond (((ns6.length : Nat) : Int) != 2) (lft (some 3)) (f145_L2 fuel ns6 0)) (cond (op5 == 11) ((f161 fuel prsA).bind fun vI => lft (some vI)) (cond (op5 == 12) (cond (decide (lo8 < 0)) (lft (some 11)) (cond (decide (hi9 < lo8)) (lft (some 11)) (cond (decide (hi9 > 999999999)) (lft (some 11)) (some (.inr ()))))) (some (.inr ()))))))))) (fun () => some 0)
def C145 (O : Oracle TT) (m : Ln → Option (Int)) : Prop :=
 ∀ op5 nm6 to7 ns8 n9 loA hiB sepC kF nG sH fI prsJ ksK (Q : Int → Prop) (R : RR) (_ : ∀ vM, Q vM → R (iD vM) []) (_ : sat (m (Ln.mk op5 nm6 to7 ns8 n9 loA hiB sepC (V.mk kF nG sH fI) prsJ ksK)) Q), O 145 [.agg [ci op5, .str nm6, .str to7, .isl .str ns8, ci n9, ci loA, ci hiB, .int .u8 sepC, ci kF, ci nG, .str sH, .isl .fld fI, .isl .two prsJ, .isl .lens ksK]] [] R
def j145 : Fn TT := ⟨86, [.t 2], (sr [qo 1 (.box 1 0),qo 2 (.mv (iC 0))] (.cut [] [] (sr [qo 6 (.fa 1 0),qo 7 (ld 6)] (.block 0 (sr [qo 9 (.bin .eql .num 7 (iC 5)),qm 8 9] (.cond 8 (sr [qo 10 (.fa 1 8),qo 11 (.fa 10 0),qo 12 (ld 11),qo 13 (.bin .neq .num 12 (iC 0)),qm 14 13,qg 14 15 (.fa 1 8),qg 14 16 (.fa 15 0),
 qg 14 17 (ld 16),qg 14 18 (.call 18 158 [17]),qg 14 19 (.un .not 18),qo 20 (.pick 14 19 bF)] (.cond 20 (sr [qo 2 (.mv (iC 8))] .ret) .skip)) (sr [qo 22 (.bin .eql .num 7 (iC 15)),qm 21 22] (.cond 21 (sr [qo 23 (.fa 1 8),qo 24 (.fa 23 0),qo 25 (ld 24),qo 26 (.call 26 158 [25]),qo 27 (.un .not 26)] (.cond 27 (.seq
 (.reg [qo 2 (.mv (iC 8))]) .ret) .skip)) (sr [qo 29 (.bin .eql .num 7 (iC 6)),qm 28 29] (.cond 28 (sr [qo 30 (.fa 1 3),qo 31 (ld 30),qo 32 (.call 32 159 [31]),qm 2 32] .ret) (sr [qo 34 (.bin .eql .num 7 (iC 14)),qm 33 34] (.cond 33 (.seq (sr [qo 35 (.fa 1 3),qo 36 (ld 35),qo 37 (.len false 36),qo 38 (.fa 1 13),
 qo 39 (ld 38),qo 40 (.len false 39),qo 41 (.bin .neq .num 37 40)] (.cond 41 (sr [qo 2 (.mv (iC 3))] .ret) .skip)) (sr [qo 42 (.fa 1 3),qo 43 (ld 42),qo 44 (.call 44 159 [43]),qm 2 44] .ret)) (sr [qo 46 (.bin .eql .num 7 (iC 9)),qm 45 46] (.cond 45 (.seq (sr [qo 47 (.fa 1 3),qo 48 (ld 47),qo 49 (.len false 48),
 qo 50 (.bin .neq .num 49 (iC 2))] (.cond 50 (sr [qo 2 (.mv (iC 3))] .ret) .skip)) (sr [qo 51 (.fa 1 3),qo 52 (ld 51),qo 53 (.len false 52),qo 54 (.mv (iC 0))] (.block 1 (.loop (.keep [52, 53, 54] [] (.aft (sr [qo 55 (.bin .lss .num 54 53)] (.seq (.cond 55 .skip (.exit 1)) (.seq (.block 2 (sr [qo 56 (.idxA 52 54 1),qo 57 (ld 56),
 qm 4 57] (sr [qm 58 4,qo 59 (.call 59 160 [58]),qm 5 59] (sr [qm 60 5,qo 61 (.bin .neq .num 60 (iC 0))] (.cond 61 (sr [qm 62 5,qm 2 62] .ret) .skip))))) (.reg [qo 63 (.bin .add .num 54 (iC 1)),qm 54 63])))) [.keep [52, 53, 54] []])))))) (sr [qo 65 (.bin .eql .num 7 (iC 11)),qm 64 65] (.cond 64 (.seq
 (.reg [qo 66 (.fa 1 12),qo 67 (ld 66),qo 68 (.call 68 161 [67]),qm 2 68]) .ret) (sr [qo 70 (.bin .eql .num 7 (iC 12)),qm 69 70] (.cond 69 (sr [qo 71 (.fa 1 5),qo 72 (ld 71),qo 73 (.bin .lss .num 72 (iC 0)),qm 74 73,qf 74 75 (.fa 1 6),qf 74 76 (ld 75),qf 74 77 (.fa 1 5),qf 74 78 (ld 77),
 qf 74 79 (.bin .lss .num 76 78),qo 80 (.pick 74 bT 79),qm 81 80,qf 81 82 (.fa 1 6),qf 81 83 (ld 82),qf 81 84 (.bin .gtr .num 83 (iC 999999999)),qo 85 (.pick 81 bT 84)] (.cond 85 (sr [qo 2 (.mv (iC 11))] .ret) .skip)) .skip)))))))))))))))) (sr [qo 2 (.mv (iC 0))] .ret)))⟩
theorem w145 {O : Oracle TT} (fuel : Nat) (h160 : C160 O (f160 fuel)) (h161 : C161 O (f161 fuel)) (h158 : C158 O f158) (h159 : C159 O f159) : C145 (fun _ => vcF (S := SS) O j145) (f145 fuel) := by
 intro opK nmM toN ns9 nO loP hiQ sepS kU nV sW fY prsZ ks00 Q R hQ h
 unfold f145 at h
 refine ⟨nle rfl, rfl, ?_⟩
 obtain ⟨R5, h, a5, b5⟩ := sc h
 refine kX (fun σ => R5 (.inr ()) ∧ σ = ⟨[], []⟩) ?_ ?_
 refine kc h ?_ ?_ <;> intro h
 refine kc h ?_ ?_ <;> intro h
 refine kc h ?_ ?_ <;> intro h
 refine kc h ?_ ?_ <;> intro h
 refine kc h ?_ ?_ <;> intro h
 refine kc h ?_ ?_ <;> intro h
 refine kc h ?_ ?_ <;> intro h
 conv => whnf
 exact ⟨ss h, rfl⟩
 refine kc h ?_ ?_ <;> intro h
 refine kc h ?_ ?_ <;> intro h
 refine kc h ?_ ?_ <;> intro h
 conv => whnf
 exact ⟨ss h, rfl⟩
 replace h := sat_lft a5 h
 exact kR [] (ND 0) (hQ _ (ss h))
 replace h := sat_lft a5 h
 exact kR [] (ND 0) (hQ _ (ss h))
 replace h := sat_lft a5 h
 exact kR [] (ND 0) (hQ _ (ss h))
 refine kL [] (h161 _ _ _ ?_ (sb h))
 rintro v01 h
 replace h := sat_lft a5 h
 exact kR [] (ND 0) (hQ _ (ss h))
 intro hl02
 refine kc h ?_ ?_ <;> intro h
 intro hlH
 refine kX (fun σ n => ∃ (rem6 : LB) (j8 : Nat) (z : Int), n = rem6.length ∧ ns9.drop j8 = rem6 ∧ z = ((j8 : Nat) : Int) ∧ sat (f145_L2 fuel rem6 j8) R5 ∧ σ.keep [52, 53, 54] [] = ⟨[(52, .c (.isl .str ns9)), (53, iD ((ns9.length : Nat) : Int)), (54, iD z)], []⟩) ⟨_, ns9, 0, _, rfl, rfl, rfl, h, rfl⟩ ?_
 rintro σ n ⟨rem6, j8, _, rfl, hrem6, rfl, h, hσ⟩
 refine kk hσ ?_
 intro tA (htA : tA = decide (((j8 : Nat) : Int) < ((ns9.length : Nat) : Int)))
 cases tA
 obtain rfl := ll_nil hrem6 htA
 rw [f145_L2] at h
 conv => whnf
 exact ⟨ss h, rfl⟩
 obtain ⟨w03, tlB, rfl, hxC, htlB⟩ := ll_cons hrem6 htA
 rw [f145_L2] at h
 conv => whnf
 refine ⟨lx_bd hxC, fun uuG huuG => ?_⟩
 obtain rfl := lx_eq hxC huuG
 refine kL [] (h160 _ _ _ ?_ (sb h))
 rintro v04 h
 refine kc h ?_ ?_ <;> intro h
 conv => whnf
 exact ⟨tlB.length, nls, tlB, j8 + 1, _, rfl, htlB, lx_wr hxC hlH, h, rfl⟩
 replace h := sat_lft a5 h
 exact kR [] (ND 0) (hQ _ (ss h))
 replace h := sat_lft a5 h
 exact kR [] (ND 0) (hQ _ (ss h))
 intro hl05
 intro hl06
 refine kc h ?_ ?_ <;> intro h
 refine kL [] (h159 _ _ _ ?_ (sb h))
 rintro v07 h
 replace h := sat_lft a5 h
 exact kR [] (ND 0) (hQ _ (ss h))
 replace h := sat_lft a5 h
 exact kR [] (ND 0) (hQ _ (ss h))
 refine kL [] (h159 _ _ _ ?_ (sb h))
 rintro v08 h
 replace h := sat_lft a5 h
 exact kR [] (ND 0) (hQ _ (ss h))
 refine kL [] (h158 _ _ _ ?_ (sb h))
 rintro qI h
 cases qI
 replace h := cf h
 replace h := sat_lft a5 h
 exact kR [] (ND 0) (hQ _ (ss h))
 replace h := ct h
 conv => whnf
 exact ⟨ss h, rfl⟩
 refine kc h ?_ ?_ <;> intro h
 conv => whnf
 exact ⟨ss h, rfl⟩
 refine kL [] (h158 _ _ _ ?_ (sb h))
 rintro qJ h
 cases qJ
 replace h := cf h
 replace h := sat_lft a5 h
 exact kR [] (ND 0) (hQ _ (ss h))
 replace h := ct h
 conv => whnf
 exact ⟨ss h, rfl⟩
 rintro _ ⟨h, rfl⟩
 replace h := b5 _ h
 exact kR [] (ND 0) (hQ _ (ss h))
def f116 (fuel : Nat) : Ln → Option (Int)
 | .mk op5 nm7 to6 nsH nI loJ hiK sepM (.mk k9 nA sB fC) prsN ks8 => sbind (ο := Unit) (cond (decide (op5 < 0)) (lft (some 1)) (cond (decide (op5 ≥ 19)) (lft (some 1)) (some (.inr ())))) (fun () => (f144 op5).bind fun (qV, qO, qP, qQ, qF, qS, q05, qT, vG) => sbind (ο := Bool × Bool × Bool × Bool × Bool × Bool × Bool × Bool) (sbind (ο := Bool × Bool) (cond (!(nm7.toList == (⟨#[]⟩ : BA).toList)) (cond qV (some (.inr (false, true))) (some (.inr (true, false)))) (some (.inr (false, qV)))) (fun (q06, qW) => sbind (ο := Bool × Bool) (cond q06 (some (.inr (true, qO))) (cond (!(to6.toList == (⟨#[]⟩ : BA).toList)) (cond qO (some (.inr (false, true))) (some (.inr (true, false)))) (some (.inr (false, qO))))) (fun (q07, qY) => sbind (ο := Bool × Bool) (cond q07 (some (.inr (true, qP))) (cond (decide (((nsH.length : Nat) : Int) > 0)) (cond qP (some (.inr (false, true))) (some (.inr (true, false)))) (some (.inr (false, qP))))) (fun (q08, qZ) => sbind (ο := Bool × Bool) (cond q08 (some (.inr (true, qQ))) (cond (nI != 0) (cond qQ (some (.inr (false, true))) (some (.inr (true, false)))) (some (.inr (false, qQ))))) (fun (q09, q00) => sbind (ο := Bool × Bool) (cond q09 (some (.inr (true, qF))) (cond (loJ != 0) (cond qF (some (.inr (false, true))) (some (.inr (true, false)))) (cond (hiK != 0) (cond qF (some (.inr (false, true))) (some (.inr (true, false)))) (some (.inr (false, qF)))))) (fun (q0A, q01) => sbind (ο := Bool × Bool) (cond q0A (some (.inr (true, qS))) (cond (sepM != 0) (cond qS (some (.inr (false, true))) (some (.inr (true, false)))) (some (.inr (false, qS))))) (fun (q0B, q02) => sbind (ο := Bool × Bool) (cond q0B (some (.inr (true, qT))) (cond (decide (((prsN.length : Nat) : Int) > 0)) (cond qT (some (.inr (false, true))) (some (.inr (true, false)))) (some (.inr (false, qT))))) (fun (q0C, q03) => cond q0C (lft (some 3)) (cond q05 (some (.inr (qW, qY, qZ, q00, q01, q02, true, q03))) ((f11 fuel (V.mk k9 nA sB fC) (V.mk 0 0 (⟨#[]⟩ : BA) [])).bind fun q0D => cond q0D (some (.inr (qW, qY, qZ, q00, q01, q02, false, q03))) (lft (some 3)))))))))))) (fun (q0E, qU, q0M, q0N, q0O, q0P, q0F, q0Q) => sbind (ο := Unit) (cond (decide (vG ≥ 0)) (cond (((ks8.length : Nat) : Int) != vG) (lft (some 3)) (cond (decide (vG < 0)) (cond (((ks8.length : Nat) : Int) == 0) (lft (some 3)) (some (.inr ()))) (some (.inr ())))) (cond (decide (vG < 0)) (cond (((ks8.length : Nat) : Int) == 0) (lft (some 3)) (some (.inr ()))) (some (.inr ())))) (fun () => sbind (ο := Bool × Bool) (cond q0E ((f132 nm7).bind fun q0G => cond q0G (cond qU ((f132 to6).bind fun q0H => cond q0H (some (.inr (true, true))) (lft (some 15))) (some (.inr (true, false)))) (cond (op5 == 13) (cond (nm7.toList == (⟨#[]⟩ : BA).toList) (cond qU ((f132 to6).bind fun q0I => cond q0I (some (.inr (true, true))) (lft (some 15))) (some (.inr (true, false)))) (lft (some 15))) (lft (some 15)))) (cond qU ((f132 to6).bind fun q0J => cond q0J (some (.inr (false, true))) (lft (some 15))) (some (.inr (false, false))))) (fun (q0R, q0S) => cond q0F ((f51 fuel (V.mk k9 nA sB fC)).bind fun v04 => cond (v04 != 0) (some v04) ((f145 fuel (Ln.mk op5 nm7 to6 nsH nI loJ hiK sepM (V.mk k9 nA sB fC) prsN ks8)).bind fun v0K => some v0K)) ((f145 fuel (Ln.mk op5 nm7 to6 nsH nI loJ hiK sepM (V.mk k9 nA sB fC) prsN ks8)).bind fun v0L => some v0L)))))
def C116 (O : Oracle TT) (m : Ln → Option (Int)) : Prop :=
 ∀ op5 nm6 to7 ns8 n9 loA hiB sepC kF nG sH fI prsJ ksK (Q : Int → Prop) (R : RR) (_ : ∀ vM, Q vM → R (iD vM) []) (_ : sat (m (Ln.mk op5 nm6 to7 ns8 n9 loA hiB sepC (V.mk kF nG sH fI) prsJ ksK)) Q), O 116 [.agg [ci op5, .str nm6, .str to7, .isl .str ns8, ci n9, ci loA, ci hiB, .int .u8 sepC, ci kF, ci nG, .str sH, .isl .fld fI, .isl .two prsJ, .isl .lens ksK]] [] R
def j116 : Fn TT := ⟨164, [.t 2], (sr [qo 1 (.box 1 0),qo 2 (.mv (iC 0))] (.cut [1] [(.s 1)] (sr [qo 5 (.fa 1 0),qo 6 (ld 5),qo 7 (.bin .lss .num 6 (iC 0)),qm 8 7,qf 8 9 (.fa 1 0),qf 8 10 (ld 9),qf 8 11 (.bin .geq .num 10 (iC 19)),qo 12 (.pick 8 bT 11)] (.cond 12 (sr [qo 2 (.mv (iC 1))] .ret) .skip)) (sr [qo 13 (.fa 1 0),
 qo 14 (ld 13),qo 15 (.call 15 144 [14]),qo 3 (.alloc 3 [.bool false, .bool false, .bool false, .bool false, .bool false, .bool false, .bool false, .bool false, .int .i64 0]),qp (.store 3 15 9)] (.cut [1, 3] [(.s 1), (.s 3)] (.seq (.regc [([qo 16 (.fa 1 1),qo 17 (ld 16),qo 18 (.bin .neq .str 17 sE),qm 19 18,qg 19 20 (.fa 3 0),qg 19 21 (ld 20),
 qg 19 22 (.un .not 21),qo 23 (.pick 19 22 bF)], [1, 3, 23], [(.s 1), (.s 3)]), ([qm 24 23,qf 24 25 (.fa 1 2),qf 24 26 (ld 25),qf 24 27 (.bin .neq .str 26 sE),qf 24 28 (.mv 27),qg 28 29 (.fa 3 1),qg 28 30 (ld 29),qg 28 31 (.un .not 30),qf 24 32 (.pick 28 31 bF),qo 33 (.pick 24 bT 32)], [1, 3, 33], [(.s 1), (.s 3)]), ([qm 34 33,qf 34 35 (.fa 1 3),
 qf 34 36 (ld 35),qf 34 37 (.len false 36),qf 34 38 (.bin .gtr .num 37 (iC 0)),qf 34 39 (.mv 38),qg 39 40 (.fa 3 2),qg 39 41 (ld 40),qg 39 42 (.un .not 41),qf 34 43 (.pick 39 42 bF),qo 44 (.pick 34 bT 43)], [1, 3, 44], [(.s 1), (.s 3)]), ([qm 45 44,qf 45 46 (.fa 1 4),qf 45 47 (ld 46),qf 45 48 (.bin .neq .num 47 (iC 0)),qf 45 49 (.mv 48),
 qg 49 50 (.fa 3 3),qg 49 51 (ld 50),qg 49 52 (.un .not 51),qf 45 53 (.pick 49 52 bF),qo 54 (.pick 45 bT 53)], [1, 3, 54], [(.s 1), (.s 3)]), ([qm 55 54,qf 55 56 (.fa 1 5),qf 55 57 (ld 56),qf 55 58 (.bin .neq .num 57 (iC 0)),qf 55 59 (.mv 58),qf 59 60 (.fa 1 6),qf 59 61 (ld 60),qf 59 62 (.bin .neq .num 61 (iC 0)),qf 55 63 (.pick 59 bT 62),
 qf 55 64 (.mv 63),qg 64 65 (.fa 3 4),qg 64 66 (ld 65),qg 64 67 (.un .not 66),qf 55 68 (.pick 64 67 bF),qo 69 (.pick 55 bT 68)], [1, 3, 69], [(.s 1), (.s 3)]), ([qm 70 69,qf 70 71 (.fa 1 7),qf 70 72 (ld 71),qf 70 73 (.bin .neq .num 72 (.c (.int .u8 0))),qf 70 74 (.mv 73),qg 74 75 (.fa 3 5),qg 74 76 (ld 75),qg 74 77 (.un .not 76),
 qf 70 78 (.pick 74 77 bF),qo 79 (.pick 70 bT 78)], [1, 3, 79], [(.s 1), (.s 3)]), ([qm 80 79,qf 80 81 (.fa 1 12),qf 80 82 (ld 81),qf 80 83 (.len false 82),qf 80 84 (.bin .gtr .num 83 (iC 0)),qf 80 85 (.mv 84),qg 85 86 (.fa 3 7),qg 85 87 (ld 86),qg 85 88 (.un .not 87),qf 80 89 (.pick 85 88 bF),qo 90 (.pick 80 bT 89)], [1, 3, 90], [(.s 1), (.s 3)])]
 [qm 91 90,qf 91 92 (.fa 3 6),qf 91 93 (ld 92),qf 91 94 (.un .not 93),qf 91 95 (.mv 94),qg 95 96 (.fa 1 8),qg 95 97 (.load 96 4 true),qg 95 98 (.build zV []),qg 95 99 (.call 99 11 [97, 98]),qg 95 100 (.un .not 99),qf 91 101 (.pick 95 100 bF),qo 102 (.pick 91 bT 101)]) (.cond 102 (sr [qo 2 (.mv (iC 3))] .ret) .skip)) (.cut [1, 3] [(.s 1), (.s 3)] (.seq
 (.reg [qo 103 (.fa 3 8),qo 104 (ld 103),qo 105 (.bin .geq .num 104 (iC 0)),qm 106 105,qg 106 107 (.fa 1 13),qg 106 108 (ld 107),qg 106 109 (.len false 108),qg 106 110 (.fa 3 8),qg 106 111 (ld 110),qg 106 112 (.bin .neq .num 109 111),qo 113 (.pick 106 112 bF),qm 114 113,qf 114 115 (.fa 3 8),qf 114 116 (ld 115),
 qf 114 117 (.bin .lss .num 116 (iC 0)),qf 114 118 (.mv 117),qg 118 119 (.fa 1 13),qg 118 120 (ld 119),qg 118 121 (.len false 120),qg 118 122 (.bin .eql .num 121 (iC 0)),qf 114 123 (.pick 118 122 bF),qo 124 (.pick 114 bT 123)]) (.cond 124 (sr [qo 2 (.mv (iC 3))] .ret) .skip)) (.cut [1, 3] [(.s 1), (.s 3)] (sr [qo 125 (.fa 3 0),qo 126 (ld 125),
 qm 127 126,qg 127 128 (.fa 1 1),qg 127 129 (ld 128),qg 127 130 (.call 130 132 [129]),qg 127 131 (.un .not 130),qo 132 (.pick 127 131 bF),qm 133 132,qg 133 134 (.fa 1 0),qg 133 135 (ld 134),qg 133 136 (.bin .eql .num 135 (iC 13)),qg 133 137 (.mv 136),qg 137 138 (.fa 1 1),qg 137 139 (ld 138),qg 137 140 (.bin .eql .str 139 sE),
 qg 133 141 (.pick 137 140 bF),qg 133 142 (.un .not 141),qo 143 (.pick 133 142 bF),qm 144 143,qf 144 145 (.fa 3 1),qf 144 146 (ld 145),qf 144 147 (.mv 146),qg 147 148 (.fa 1 2),qg 147 149 (ld 148),qg 147 150 (.call 150 132 [149]),qg 147 151 (.un .not 150),qf 144 152 (.pick 147 151 bF),qo 153 (.pick 144 bT 152)] (.cond 153 (sr [qo 2 (.mv (iC 15))]
 .ret) .skip)) (.seq (sr [qo 154 (.fa 3 6),qo 155 (ld 154)] (.cond 155 (sr [qo 156 (.fa 1 8),qo 157 (.load 156 4 true),qo 158 (.call 158 51 [157]),qm 4 158] (sr [qm 159 4,qo 160 (.bin .neq .num 159 (iC 0))] (.cond 160 (sr [qm 161 4,qm 2 161] .ret) .skip))) .skip)) (sr [qo 162 (.load 1 14 true),
 qo 163 (.call 163 145 [162]),qm 2 163] .ret))))))))⟩
theorem w116 {O : Oracle TT} (fuel : Nat) (h11 : C11 O (f11 fuel)) (h51 : C51 O (f51 fuel)) (h132 : C132 O f132) (h144 : C144 O f144) (h145 : C145 O (f145 fuel)) : C116 (fun _ => vcF (S := SS) O j116) (f116 fuel) := by
 intro op5 nm6 to8 ns9 nA loB hiC sepG kH nI sJ fK prsM ksN Q R hQ h
 unfold f116 at h
 refine ⟨nle rfl, rfl, ?_⟩
 obtain ⟨R04, h, a04, b04⟩ := sc h
 refine kX (fun σ => R04 (.inr ()) ∧ σ = ⟨[pT 1], [eV (.s 1) [ci op5, .str nm6, .str to8, .isl .str ns9, ci nA, ci loB, ci hiC, .int .u8 sepG, ci kH, ci nI, .str sJ, .isl .fld fK, .isl .two prsM, .isl .lens ksN]]⟩) ?_ ?_
 refine kc h ?_ ?_ <;> intro h
 refine kc h ?_ ?_ <;> intro h
 conv => whnf
 exact ⟨ss h, rfl⟩
 replace h := sat_lft a04 h
 exact kR [] (ND 0) (hQ _ (ss h))
 replace h := sat_lft a04 h
 exact kR [] (ND 0) (hQ _ (ss h))
 rintro _ ⟨h, rfl⟩
 replace h := b04 _ h
 refine kL [] (h144 _ _ _ ?_ (sb h))
 rintro q0Y q0H q09 q05 qW qY qZ qS vP h
 obtain ⟨R06, h, a06, b06⟩ := sc h
 refine kX (fun σ => ∃ q0A q01 q0B q0C q0D q0E q07 q0F, R06 (.inr (q0A, q01, q0B, q0C, q0D, q0E, q07, q0F)) ∧ σ = ⟨[pT 1, pT 3], [eV (.s 1) [ci op5, .str nm6, .str to8, .isl .str ns9, ci nA, ci loB, ci hiC, .int .u8 sepG, ci kH, ci nI, .str sJ, .isl .fld fK, .isl .two prsM, .isl .lens ksN], eV (.s 3) [.bool q0A, .bool q01, .bool q0B, .bool q0C, .bool q0D, .bool q0E, .bool q07, .bool q0F, ci vP]]⟩) ?_ ?_
 obtain ⟨R0I, h, a0I, b0I⟩ := sc h
 refine kX (fun σ => ∃ q0J qO, R0I (.inr (q0J, qO)) ∧ σ = ⟨[pT 1, pT 3, (23, bD q0J)], [eV (.s 1) [ci op5, .str nm6, .str to8, .isl .str ns9, ci nA, ci loB, ci hiC, .int .u8 sepG, ci kH, ci nI, .str sJ, .isl .fld fK, .isl .two prsM, .isl .lens ksN], eV (.s 3) [.bool qO, .bool q0H, .bool q09, .bool q05, .bool qW, .bool qY, .bool qZ, .bool qS, ci vP]]⟩) ?_ ?_
 refine kc h ?_ ?_ <;> intro h
 conv => whnf
 exact ⟨false, q0Y, ss h, rfl⟩
 cases q0Y
 replace h := cf h
 conv => whnf
 exact ⟨true, false, ss h, rfl⟩
 replace h := ct h
 conv => whnf
 exact ⟨false, true, ss h, rfl⟩
 rintro _ ⟨q0J, qO, h, rfl⟩
 replace h := b0I _ h
 obtain ⟨R0K, h, a0K, b0K⟩ := sc h
 refine kX (fun σ => ∃ q0L qQ, R0K (.inr (q0L, qQ)) ∧ σ = ⟨[pT 1, pT 3, (33, bD q0L)], [eV (.s 1) [ci op5, .str nm6, .str to8, .isl .str ns9, ci nA, ci loB, ci hiC, .int .u8 sepG, ci kH, ci nI, .str sJ, .isl .fld fK, .isl .two prsM, .isl .lens ksN], eV (.s 3) [.bool qO, .bool qQ, .bool q09, .bool q05, .bool qW, .bool qY, .bool qZ, .bool qS, ci vP]]⟩) ?_ ?_
 cases q0J
 replace h := cf h
 refine kc h ?_ ?_ <;> intro h
 conv => whnf
 exact ⟨false, q0H, ss h, rfl⟩
 cases q0H
 replace h := cf h
 conv => whnf
 exact ⟨true, false, ss h, rfl⟩
 replace h := ct h
 conv => whnf
 exact ⟨false, true, ss h, rfl⟩
 replace h := ct h
 conv => whnf
 exact ⟨true, q0H, ss h, rfl⟩
 rintro _ ⟨q0L, qQ, h, rfl⟩
 replace h := b0K _ h
 obtain ⟨R0M, h, a0M, b0M⟩ := sc h
 refine kX (fun σ => ∃ q0N qU, R0M (.inr (q0N, qU)) ∧ σ = ⟨[pT 1, pT 3, (44, bD q0N)], [eV (.s 1) [ci op5, .str nm6, .str to8, .isl .str ns9, ci nA, ci loB, ci hiC, .int .u8 sepG, ci kH, ci nI, .str sJ, .isl .fld fK, .isl .two prsM, .isl .lens ksN], eV (.s 3) [.bool qO, .bool qQ, .bool qU, .bool q05, .bool qW, .bool qY, .bool qZ, .bool qS, ci vP]]⟩) ?_ ?_
 cases q0L
 replace h := cf h
 intro hl14
 refine kc h ?_ ?_ <;> intro h
 conv => whnf
 exact ⟨false, q09, ss h, rfl⟩
 cases q09
 replace h := cf h
 conv => whnf
 exact ⟨true, false, ss h, rfl⟩
 replace h := ct h
 conv => whnf
 exact ⟨false, true, ss h, rfl⟩
 replace h := ct h
 conv => whnf
 exact ⟨true, q09, ss h, rfl⟩
 rintro _ ⟨q0N, qU, h, rfl⟩
 replace h := b0M _ h
 obtain ⟨R0O, h, a0O, b0O⟩ := sc h
 refine kX (fun σ => ∃ q0P q00, R0O (.inr (q0P, q00)) ∧ σ = ⟨[pT 1, pT 3, (54, bD q0P)], [eV (.s 1) [ci op5, .str nm6, .str to8, .isl .str ns9, ci nA, ci loB, ci hiC, .int .u8 sepG, ci kH, ci nI, .str sJ, .isl .fld fK, .isl .two prsM, .isl .lens ksN], eV (.s 3) [.bool qO, .bool qQ, .bool qU, .bool q00, .bool qW, .bool qY, .bool qZ, .bool qS, ci vP]]⟩) ?_ ?_
 cases q0N
 replace h := cf h
 refine kc h ?_ ?_ <;> intro h
 conv => whnf
 exact ⟨false, q05, ss h, rfl⟩
 cases q05
 replace h := cf h
 conv => whnf
 exact ⟨true, false, ss h, rfl⟩
 replace h := ct h
 conv => whnf
 exact ⟨false, true, ss h, rfl⟩
 replace h := ct h
 conv => whnf
 exact ⟨true, q05, ss h, rfl⟩
 rintro _ ⟨q0P, q00, h, rfl⟩
 replace h := b0O _ h
 obtain ⟨R0Q, h, a0Q, b0Q⟩ := sc h
 refine kX (fun σ => ∃ q0R q02, R0Q (.inr (q0R, q02)) ∧ σ = ⟨[pT 1, pT 3, (69, bD q0R)], [eV (.s 1) [ci op5, .str nm6, .str to8, .isl .str ns9, ci nA, ci loB, ci hiC, .int .u8 sepG, ci kH, ci nI, .str sJ, .isl .fld fK, .isl .two prsM, .isl .lens ksN], eV (.s 3) [.bool qO, .bool qQ, .bool qU, .bool q00, .bool q02, .bool qY, .bool qZ, .bool qS, ci vP]]⟩) ?_ ?_
 cases q0P
 replace h := cf h
 refine kc h ?_ ?_ <;> intro h
 refine kc h ?_ ?_ <;> intro h
 conv => whnf
 exact ⟨false, qW, ss h, rfl⟩
 cases qW
 replace h := cf h
 conv => whnf
 exact ⟨true, false, ss h, rfl⟩
 replace h := ct h
 conv => whnf
 exact ⟨false, true, ss h, rfl⟩
 cases qW
 replace h := cf h
 conv => whnf
 exact ⟨true, false, ss h, rfl⟩
 replace h := ct h
 conv => whnf
 exact ⟨false, true, ss h, rfl⟩
 replace h := ct h
 conv => whnf
 exact ⟨true, qW, ss h, rfl⟩
 rintro _ ⟨q0R, q02, h, rfl⟩
 replace h := b0Q _ h
 obtain ⟨R0S, h, a0S, b0S⟩ := sc h
 refine kX (fun σ => ∃ q0T q08, R0S (.inr (q0T, q08)) ∧ σ = ⟨[pT 1, pT 3, (79, bD q0T)], [eV (.s 1) [ci op5, .str nm6, .str to8, .isl .str ns9, ci nA, ci loB, ci hiC, .int .u8 sepG, ci kH, ci nI, .str sJ, .isl .fld fK, .isl .two prsM, .isl .lens ksN], eV (.s 3) [.bool qO, .bool qQ, .bool qU, .bool q00, .bool q02, .bool q08, .bool qZ, .bool qS, ci vP]]⟩) ?_ ?_
 cases q0R
 replace h := cf h
 refine kc h ?_ ?_ <;> intro h
 conv => whnf
 exact ⟨false, qY, ss h, rfl⟩
 cases qY
 replace h := cf h
 conv => whnf
 exact ⟨true, false, ss h, rfl⟩
 replace h := ct h
 conv => whnf
 exact ⟨false, true, ss h, rfl⟩
 replace h := ct h
 conv => whnf
 exact ⟨true, qY, ss h, rfl⟩
 rintro _ ⟨q0T, q08, h, rfl⟩
 replace h := b0S _ h
 obtain ⟨R0U, h, a0U, b0U⟩ := sc h
 refine kX (fun σ => ∃ q0V q0G, R0U (.inr (q0V, q0G)) ∧ σ = ⟨[pT 1, pT 3, (90, bD q0V)], [eV (.s 1) [ci op5, .str nm6, .str to8, .isl .str ns9, ci nA, ci loB, ci hiC, .int .u8 sepG, ci kH, ci nI, .str sJ, .isl .fld fK, .isl .two prsM, .isl .lens ksN], eV (.s 3) [.bool qO, .bool qQ, .bool qU, .bool q00, .bool q02, .bool q08, .bool qZ, .bool q0G, ci vP]]⟩) ?_ ?_
 cases q0T
 replace h := cf h
 intro hl15
 refine kc h ?_ ?_ <;> intro h
 conv => whnf
 exact ⟨false, qS, ss h, rfl⟩
 cases qS
 replace h := cf h
 conv => whnf
 exact ⟨true, false, ss h, rfl⟩
 replace h := ct h
 conv => whnf
 exact ⟨false, true, ss h, rfl⟩
 replace h := ct h
 conv => whnf
 exact ⟨true, qS, ss h, rfl⟩
 rintro _ ⟨q0V, q0G, h, rfl⟩
 replace h := b0U _ h
 cases q0V
 replace h := cf h
 cases qZ
 replace h := cf h
 refine kL [] (h11 _ _ _ _ _ _ _ _ _ _ ?_ (sb h))
 rintro q0Z h
 cases q0Z
 replace h := cf h
 replace h := sat_lft a06 h
 exact kR [] (ND 0) (hQ _ (ss h))
 replace h := ct h
 conv => whnf
 exact ⟨qO, qQ, qU, q00, q02, q08, false, q0G, ss h, rfl⟩
 replace h := ct h
 conv => whnf
 exact ⟨qO, qQ, qU, q00, q02, q08, true, q0G, ss h, rfl⟩
 replace h := ct h
 replace h := sat_lft a06 h
 exact kR [] (ND 0) (hQ _ (ss h))
 rintro _ ⟨q0A, q01, q0B, q0C, q0D, q0E, q07, q0F, h, rfl⟩
 replace h := b06 _ h
 obtain ⟨R03, h, a03, b03⟩ := sc h
 refine kX (fun σ => R03 (.inr ()) ∧ σ = ⟨[pT 1, pT 3], [eV (.s 1) [ci op5, .str nm6, .str to8, .isl .str ns9, ci nA, ci loB, ci hiC, .int .u8 sepG, ci kH, ci nI, .str sJ, .isl .fld fK, .isl .two prsM, .isl .lens ksN], eV (.s 3) [.bool q0A, .bool q01, .bool q0B, .bool q0C, .bool q0D, .bool q0E, .bool q07, .bool q0F, ci vP]]⟩) ?_ ?_
 refine kc h ?_ ?_ <;> intro h
 refine kc h ?_ ?_ <;> intro h
 conv => whnf
 exact ⟨ss h, rfl⟩
 intro hl17
 refine kc h ?_ ?_ <;> intro h
 conv => whnf
 exact ⟨ss h, rfl⟩
 replace h := sat_lft a03 h
 exact kR [] (ND 0) (hQ _ (ss h))
 intro hl18
 refine kc h ?_ ?_ <;> intro h
 refine kc h ?_ ?_ <;> intro h
 conv => whnf
 exact ⟨ss h, rfl⟩
 intro hl19
 refine kc h ?_ ?_ <;> intro h
 conv => whnf
 exact ⟨ss h, rfl⟩
 replace h := sat_lft a03 h
 exact kR [] (ND 0) (hQ _ (ss h))
 replace h := sat_lft a03 h
 exact kR [] (ND 0) (hQ _ (ss h))
 rintro _ ⟨h, rfl⟩
 replace h := b03 _ h
 obtain ⟨RV, h, aV, bV⟩ := sc h
 refine kX (fun σ => ∃ q0W q0X, RV (.inr (q0W, q0X)) ∧ σ = ⟨[pT 1, pT 3], [eV (.s 1) [ci op5, .str nm6, .str to8, .isl .str ns9, ci nA, ci loB, ci hiC, .int .u8 sepG, ci kH, ci nI, .str sJ, .isl .fld fK, .isl .two prsM, .isl .lens ksN], eV (.s 3) [.bool q0W, .bool q0X, .bool q0B, .bool q0C, .bool q0D, .bool q0E, .bool q07, .bool q0F, ci vP]]⟩) ?_ ?_
 cases q0A
 replace h := cf h
 cases q01
 replace h := cf h
 conv => whnf
 exact ⟨false, false, ss h, rfl⟩
 replace h := ct h
 refine kL [] (h132 _ _ _ ?_ (sb h))
 rintro q10 h
 cases q10
 replace h := cf h
 replace h := sat_lft aV h
 exact kR [] (ND 0) (hQ _ (ss h))
 replace h := ct h
 conv => whnf
 exact ⟨false, true, ss h, rfl⟩
 replace h := ct h
 refine kL [] (h132 _ _ _ ?_ (sb h))
 rintro q11 h
 cases q11
 replace h := cf h
 refine kc h ?_ ?_ <;> intro h
 replace h := sat_lft aV h
 exact kR [] (ND 0) (hQ _ (ss h))
 refine kc h ?_ ?_ <;> intro h
 replace h := sat_lft aV h
 exact kR [] (ND 0) (hQ _ (ss h))
 cases q01
 replace h := cf h
 conv => whnf
 exact ⟨true, false, ss h, rfl⟩
 replace h := ct h
 refine kL [] (h132 _ _ _ ?_ (sb h))
 rintro q12 h
 cases q12
 replace h := cf h
 replace h := sat_lft aV h
 exact kR [] (ND 0) (hQ _ (ss h))
 replace h := ct h
 conv => whnf
 exact ⟨true, true, ss h, rfl⟩
 replace h := ct h
 cases q01
 replace h := cf h
 conv => whnf
 exact ⟨true, false, ss h, rfl⟩
 replace h := ct h
 refine kL [] (h132 _ _ _ ?_ (sb h))
 rintro q13 h
 cases q13
 replace h := cf h
 replace h := sat_lft aV h
 exact kR [] (ND 0) (hQ _ (ss h))
 replace h := ct h
 conv => whnf
 exact ⟨true, true, ss h, rfl⟩
 rintro _ ⟨q0W, q0X, h, rfl⟩
 replace h := bV _ h
 cases q07
 replace h := cf h
 refine kL [] (h145 _ _ _ _ _ _ _ _ _ _ _ _ _ _ _ _ ?_ (sb h))
 rintro v1A h
 exact kR [] (ND 0) (hQ _ (ss h))
 replace h := ct h
 refine kL [] (h51 _ _ _ _ _ _ ?_ (sb h))
 rintro v1B h
 refine kc h ?_ ?_ <;> intro h
 refine kL [] (h145 _ _ _ _ _ _ _ _ _ _ _ _ _ _ _ _ ?_ (sb h))
 rintro v1C h
 exact kR [] (ND 0) (hQ _ (ss h))
 exact kR [] (ND 0) (hQ _ (ss h))
def f96_L2 (self96 : Ln → Option (Int)) : List Ln → Nat → Option (Sum (Int) (Unit))
 | [], j5 => some (.inr ())
 | (.mk op7 nm8 to9 nsA nB loC hiF sepG (.mk kH nI sJ fK) prsM ksN) :: tlO, j5 => (self96 (Ln.mk op7 nm8 to9 nsA nB loC hiF sepG (V.mk kH nI sJ fK) prsM ksN)).bind fun v6 => cond (v6 != 0) (lft (some v6)) (f96_L2 self96 tlO (j5 + 1))
def b96 (fuel : Nat) (self96 : Ln → Option (Int)) : Ln → Option (Int)
 | .mk op7 nm8 to9 nsA nB loC hiF sepG (.mk kH nI sJ fK) prsM ks5 => (f116 fuel (Ln.mk op7 nm8 to9 nsA nB loC hiF sepG (V.mk kH nI sJ fK) prsM ks5)).bind fun v6 => cond (v6 != 0) (some v6) (sbind (ο := Unit) (f96_L2 self96 ks5 0) (fun () => some 0))
def f96 : Nat → Ln → Option (Int)
 | 0 => fun _ => none
 | n + 1 => b96 n (f96 n)
def C96 (O : Oracle TT) (m : Ln → Option (Int)) : Prop :=
 ∀ op5 nm6 to7 ns8 n9 loA hiB sepC kF nG sH fI prsJ ksK (Q : Int → Prop) (R : RR) (_ : ∀ vM, Q vM → R (iD vM) []) (_ : sat (m (Ln.mk op5 nm6 to7 ns8 n9 loA hiB sepC (V.mk kF nG sH fI) prsJ ksK)) Q), O 96 [.agg [ci op5, .str nm6, .str to7, .isl .str ns8, ci n9, ci loA, ci hiB, .int .u8 sepC, ci kF, ci nG, .str sH, .isl .fld fI, .isl .two prsJ, .isl .lens ksK]] [] R
def j96 : Fn TT := ⟨25, [.t 2], (sr [qo 1 (.box 1 0),qo 2 (.mv (iC 0))] (.seq (sr [qo 7 (.load 1 14 true),qo 8 (.call 8 116 [7]),qm 3 8] (sr [qm 9 3,qo 10 (.bin .neq .num 9 (iC 0))] (.cond 10 (sr [qm 11 3,qm 2 11] .ret) .skip))) (.cut [] [] (sr [qo 12 (.fa 1 13),qo 13 (ld 12),qo 14 (.len false 13),
 qo 15 (.mv (iC 0))] (.block 0 (.loop (.keep [13, 14, 15] [] (.aft (sr [qo 16 (.bin .lss .num 15 14)] (.seq (.cond 16 .skip (.exit 0)) (.seq (.block 1 (sr [qo 17 (.idxA 13 15 14),qo 18 (.load 17 14 true),qo 5 (.alloc 5 zLn),qp (.store 5 18 14)] (sr [qo 19 (.load 5 14 true),qo 20 (.call 20 96 [19]),qm 6 20] (sr [qm 21 6,
 qo 22 (.bin .neq .num 21 (iC 0))] (.cond 22 (sr [qm 23 6,qm 2 23] .ret) .skip))))) (.reg [qo 24 (.bin .add .num 15 (iC 1)),qm 15 24])))) [.keep [13, 14, 15] []]))))) (sr [qo 2 (.mv (iC 0))] .ret))))⟩
theorem w96 {O : Oracle TT} (fuel : Nat) (self96 : Ln → Option (Int)) (h96 : C96 O self96) (h116 : C116 O (f116 fuel)) : C96 (fun _ => vcF (S := SS) O j96) (b96 fuel self96) := by
 intro opH nmI toJ nsK nM loN hiO sepP kQ nS sT fU prsV ks9 Q R hQ h
 unfold b96 at h
 refine ⟨nle rfl, rfl, ?_⟩
 refine kL [] (h116 _ _ _ _ _ _ _ _ _ _ _ _ _ _ _ _ ?_ (sb h))
 rintro vW h
 refine kc h ?_ ?_ <;> intro h
 obtain ⟨R6, h, a6, hrR6⟩ := sc h
 refine kX (fun σ => R6 (.inr ()) ∧ σ = ⟨[], []⟩) ?_ ?_
 intro hlG
 refine kX (fun σ n => ∃ (rem5 : List Ln) (j8 : Nat) (z : Int), n = rem5.length ∧ ks9.drop j8 = rem5 ∧ z = ((j8 : Nat) : Int) ∧ sat (f96_L2 self96 rem5 j8) R6 ∧ σ.keep [13, 14, 15] [] = ⟨[(13, .c (.isl .lens ks9)), (14, iD ((ks9.length : Nat) : Int)), (15, iD z)], []⟩) ⟨_, ks9, 0, _, rfl, rfl, rfl, h, rfl⟩ ?_
 rintro σ n ⟨rem5, j8, _, rfl, hrem5, rfl, h, hσ⟩
 refine kk hσ ?_
 intro tA (htA : tA = decide (((j8 : Nat) : Int) < ((ks9.length : Nat) : Int)))
 cases tA
 obtain rfl := ll_nil hrem5 htA
 rw [f96_L2] at h
 conv => whnf
 exact ⟨ss h, rfl⟩
 obtain ⟨xB, tlC, rfl, hxB, htlC⟩ := ll_cons hrem5 htA
 obtain ⟨opY, nmZ, to00, ns01, n02, lo03, hi04, sep05, ⟨k06, n07, s08, f09⟩, prs0A, ks0B⟩ := xB
 rw [f96_L2] at h
 conv => whnf
 refine ⟨lx_bd hxB, fun uuF huuF => ?_⟩
 obtain rfl := lx_eq hxB huuF
 refine kL [] (h96 _ _ _ _ _ _ _ _ _ _ _ _ _ _ _ _ ?_ (sb h))
 rintro v0C h
 refine kc h ?_ ?_ <;> intro h
 conv => whnf
 exact ⟨tlC.length, nls, tlC, j8 + 1, _, rfl, htlC, lx_wr hxB hlG, h, rfl⟩
 replace h := sat_lft a6 h
 exact kR [] (ND 0) (hQ _ (ss h))
 rintro _ ⟨h, rfl⟩
 replace h := hrR6 _ h
 exact kR [] (ND 0) (hQ _ (ss h))
 exact kR [] (ND 0) (hQ _ (ss h))
theorem cg96 {P : Program} {fid : Nat → FuncId} (mx : MX P) (k96 : KF P fid 96 j96) (h116 : ∀ n, C116 (SP P fid) (f116 n)) : ∀ n, C96 (SP P fid) (f96 n) := by
 intro n
 induction n with
 | zero => exact fun a0 a5 a6 a7 a8 a9 aA aB aC aD aE aF aG aH Q R hQ h => (sat_none h).elim
 | succ n ih =>
  have ih0 := ih
  exact fun a0 a5 a6 a7 a8 a9 aA aB aC aD aE aF aG aH Q R hQ h => spec_of_vc mx k96 (w96 n (f96 n) ih0 (h116 n) a0 a5 a6 a7 a8 a9 aA aB aC aD aE aF aG aH Q R hQ h)
theorem c96 {P : Program} {fid : Nat → FuncId} (mx : MX P) (k96 : KF P fid 96 j96) (h116 : ∀ n, C116 (SP P fid) (f116 n)) : ∀ n, C96 (SP P fid) (f96 n) := fun n => (cg96 mx k96 h116 n)
def f70 (fuel : Nat) : Ln → Option (Int)
 | .mk op5 nm6 to7 ns8 n9 loA hiB sepC (.mk kF nG sH fI) prsJ ksK => (f94 fuel (Ln.mk op5 nm6 to7 ns8 n9 loA hiB sepC (V.mk kF nG sH fI) prsJ ksK)).bind fun vM => cond (decide (vM > 120)) (some 2) ((f95 fuel (Ln.mk op5 nm6 to7 ns8 n9 loA hiB sepC (V.mk kF nG sH fI) prsJ ksK)).bind fun vN => cond (decide (vN > 40)) (some 2) ((f96 fuel (Ln.mk op5 nm6 to7 ns8 n9 loA hiB sepC (V.mk kF nG sH fI) prsJ ksK)).bind fun vO => some vO))
def C70 (O : Oracle TT) (m : Ln → Option (Int)) : Prop :=
 ∀ op5 nm6 to7 ns8 n9 loA hiB sepC kF nG sH fI prsJ ksK (Q : Int → Prop) (R : RR) (_ : ∀ vM, Q vM → R (iD vM) []) (_ : sat (m (Ln.mk op5 nm6 to7 ns8 n9 loA hiB sepC (V.mk kF nG sH fI) prsJ ksK)) Q), O 70 [.agg [ci op5, .str nm6, .str to7, .isl .str ns8, ci n9, ci loA, ci hiB, .int .u8 sepC, ci kF, ci nG, .str sH, .isl .fld fI, .isl .two prsJ, .isl .lens ksK]] [] R
def j70 : Fn TT := ⟨13, [.t 2], (sr [qo 1 (.box 1 0),qo 2 (.mv (iC 0))] (.seq (sr [qo 3 (.load 1 14 true),qo 4 (.call 4 94 [3]),qo 5 (.bin .gtr .num 4 (iC 120)),qm 6 5,qf 6 7 (.load 1 14 true),qf 6 8 (.call 8 95 [7]),qf 6 9 (.bin .gtr .num 8 (iC 40)),qo 10 (.pick 6 bT 9)] (.cond 10 (sr [qo 2 (.mv (iC 2))] .ret) .skip)) (.seq
 (.reg [qo 11 (.load 1 14 true),qo 12 (.call 12 96 [11]),qm 2 12]) .ret)))⟩
theorem w70 {O : Oracle TT} (fuel : Nat) (h94 : C94 O (f94 fuel)) (h95 : C95 O (f95 fuel)) (h96 : C96 O (f96 fuel)) : C70 (fun _ => vcF (S := SS) O j70) (f70 fuel) := by
 intro op5 nm6 to7 ns8 n9 loA hiB sepC kF nG sH fI prsJ ksK Q R hQ h
 unfold f70 at h
 refine ⟨nle rfl, rfl, ?_⟩
 refine kL [] (h94 _ _ _ _ _ _ _ _ _ _ _ _ _ _ _ _ ?_ (sb h))
 rintro vM h
 refine kc h ?_ ?_ <;> intro h
 refine kL [] (h95 _ _ _ _ _ _ _ _ _ _ _ _ _ _ _ _ ?_ (sb h))
 rintro vN h
 refine kc h ?_ ?_ <;> intro h
 refine kL [] (h96 _ _ _ _ _ _ _ _ _ _ _ _ _ _ _ _ ?_ (sb h))
 rintro vO h
 exact kR [] (ND 0) (hQ _ (ss h))
 exact kR [] (ND 0) (hQ _ (ss h))
 exact kR [] (ND 0) (hQ _ (ss h))
def f380 : Tp → Option (Ln × Tp)
 | .mk k5 m6 lo7 hi8 p9 psA => some ((Ln.mk 0 (⟨#[]⟩ : BA) (⟨#[]⟩ : BA) [] 0 0 0 0 (V.mk 0 0 (⟨#[]⟩ : BA) []) [] []), (Tp.mk k5 m6 lo7 hi8 p9 psA))
def C380 (O : Oracle TT) (m : Tp → Option (Ln × Tp)) : Prop :=
 ∀ k5 m6 lo7 hi8 p9 psA (Q : (Ln × Tp) → Prop) (R : RR) (_ : ∀ opB nmC toF nsG nH loI hiJ sepK kM nN sO fP prsQ ksU kV mW loY hiZ p00 ps01, Q ((Ln.mk opB nmC toF nsG nH loI hiJ sepK (V.mk kM nN sO fP) prsQ ksU), (Tp.mk kV mW loY hiZ p00 ps01)) → R (.tup [.agg [ci opB, .str nmC, .str toF, .isl .str nsG, ci nH, ci loI, ci hiJ, .int .u8 sepK, ci kM, ci nN, .str sO, .isl .fld fP, .isl .two prsQ, .isl .lens ksU], .agg [ci kV, .str mW, ci loY, ci hiZ, .str p00, .isl .part ps01]]) []) (_ : sat (m (Tp.mk k5 m6 lo7 hi8 p9 psA)) Q), O 380 [.agg [ci k5, .str m6, ci lo7, ci hi8, .str p9, .isl .part psA]] [] R
def j380 : Fn TT := ⟨6, [.cell 2 14 true, .cell 3 6 true], (sr [qo 1 (.box 1 0),qo 2 (.alloc 2 zLn),qo 3 (.alloc 3 zTp)] (.seq (.drw [(.s 2)] (ol [0, 1, 2, 3]) [3] [0, 1] [qo 4 (.build zLn []),qo 5 (.load 1 6 true),qp (.store 2 4 14),qp (.store 3 5 6)]) .ret))⟩
theorem w380 {O : Oracle TT} : C380 (fun _ => vcF (S := SS) O j380) f380 := by
 intro k5 m6 lo7 hi8 p9 psA Q R hQ h
 unfold f380 at h
 refine ⟨nle rfl, rfl, ?_⟩
 exact kR [] (ND 0) (hQ _ _ _ _ _ _ _ _ _ _ _ _ _ _ _ _ _ _ _ _ (ss h))
def f429_L4 : LB → Nat → LW → Option (Sum (Sum (Ln × Tp) (Unit)) (LW))
 | [], j3, l4 => some (.inr l4)
 | w5 :: tl6, j3, l4 => grdP (l4.length + ([((V.mk 5 0 w5 []), (V.mk 2 (wrap .i64 ((7 : Int) - ((j3 : Nat) : Int))) (⟨#[]⟩ : BA) []))] : LW).length ≤ 68719476736) (f429_L4 tl6 (j3 + 1) (l4 ++ ([((V.mk 5 0 w5 []), (V.mk 2 (wrap .i64 ((7 : Int) - ((j3 : Nat) : Int))) (⟨#[]⟩ : BA) []))] : LW)))
def f429 : Tp → Tp → PT → LI → Option (Ln × Tp)
 | .mk k6 m7 lo8 hi9 pA psB, .mk k04 m05 lo06 hi07 p5 ps08, l09, l0A => sbind (ο := Unit) (cond (p5.toList == (⟨#[91, 48, 45, 57, 93]⟩ : BA).toList) (lft (some ((Ln.mk 12 (⟨#[]⟩ : BA) (⟨#[]⟩ : BA) [] 0 0 9 0 (V.mk 0 0 (⟨#[]⟩ : BA) []) [] []), (Tp.mk 2 (⟨#[]⟩ : BA) 0 9 (⟨#[]⟩ : BA) [])))) (cond (p5.toList == (⟨#[97, 124, 98, 124, 99]⟩ : BA).toList) (sbind (ο := LW) (f429_L4 ([(⟨#[97]⟩ : BA), (⟨#[98]⟩ : BA), (⟨#[99]⟩ : BA)] : LB) 0 []) (fun lC => lft (some ((Ln.mk 11 (⟨#[]⟩ : BA) (⟨#[]⟩ : BA) [] 0 0 0 0 (V.mk 0 0 (⟨#[]⟩ : BA) []) lC []), (Tp.mk 2 (⟨#[]⟩ : BA) 5 7 (⟨#[]⟩ : BA) []))))) (some (.inr ())))) (fun () => (f380 (Tp.mk k6 m7 lo8 hi9 pA psB)).bind fun ((.mk opF nmG toH nsI nJ loK hiM sepN (.mk kO nP sQ fU) prsV ksW), (.mk kY mZ lo00 hi01 p02 ps03)) => some ((Ln.mk opF nmG toH nsI nJ loK hiM sepN (V.mk kO nP sQ fU) prsV ksW), (Tp.mk kY mZ lo00 hi01 p02 ps03)))
def C429 (O : Oracle TT) (m : Tp → Tp → PT → LI → Option (Ln × Tp)) : Prop :=
 ∀ k7 m8 lo9 hiA pB psC kF mG loH hiI pJ psK l5 l6 (Q : (Ln × Tp) → Prop) (R : RR) (_ : ∀ opM nmN toO nsP nQ loU hiV sepW kY nZ s00 f01 prs02 ks03 k04 m05 lo06 hi07 p08 ps09, Q ((Ln.mk opM nmN toO nsP nQ loU hiV sepW (V.mk kY nZ s00 f01) prs02 ks03), (Tp.mk k04 m05 lo06 hi07 p08 ps09)) → R (.tup [.agg [ci opM, .str nmN, .str toO, .isl .str nsP, ci nQ, ci loU, ci hiV, .int .u8 sepW, ci kY, ci nZ, .str s00, .isl .fld f01, .isl .two prs02, .isl .lens ks03], .agg [ci k04, .str m05, ci lo06, ci hi07, .str p08, .isl .part ps09]]) [eV (.x 0) [.isl .dfn l5, .ptr (.x 1) 0 0], eV (.x 1) [.isl .int l6]]) (_ : sat (m (Tp.mk k7 m8 lo9 hiA pB psC) (Tp.mk kF mG loH hiI pJ psK) l5 l6) Q), O 429 [pX 0, .agg [ci k7, .str m8, ci lo9, ci hiA, .str pB, .isl .part psC], .agg [ci kF, .str mG, ci loH, ci hiI, .str pJ, .isl .part psK]] [eV (.x 0) [.isl .dfn l5, .ptr (.x 1) 0 0], eV (.x 1) [.isl .int l6]] R
def j429 : Fn TT := ⟨45, [.cell 6 14 true, .cell 7 6 true], (sr [qo 4 (.box 4 1),qo 5 (.box 5 2),qo 6 (.alloc 6 zLn),qo 7 (.alloc 7 zTp)] (.cut [4, 6, 7] [(.s 4), (.s 6), (.s 7), (.x 0), (.x 1)] (sr [qo 11 (.fa 5 4),qo 12 (ld 11)] (.block 0 (sr [qo 14 (.bin .eql .str 12 (.c (.str (⟨#[91, 48, 45, 57, 93]⟩ : BA)))),qm 13 14] (.cond 13
 (sr [qo 15 (.build zLn [((0, 1), (iC 12)), ((6, 1), (iC 9))]),qo 16 (.build zTp [((0, 1), (iC 2)), ((3, 1), (iC 9))]),qp (.store 6 15 14),qp (.store 7 16 6)] .ret) (sr [qo 18 (.bin .eql .str 12 (.c (.str (⟨#[97, 124, 98, 124, 99]⟩ : BA)))),qm 17 18] (.cond 17 (.seq
 (.reg [qo 19 (.build [.int .i64 0, .str eB, .str eB, .nils, .int .i64 0, .int .i64 0, .int .i64 0, .int .u8 0, .int .i64 0, .int .i64 0, .str eB, .nils, .nils, .nils] [((0, 1), (iC 11))]),qo 8 (.alloc 8 zLn),qp (.store 8 19 14)]) (.cut [6, 7, 8] [(.s 6), (.s 7), (.s 8), (.x 0), (.x 1), (.sub (.sub (.s 8) 600) 12)] (.seq
 (.reg [qo 20 (.bsl .str [(.c (.str (⟨#[97]⟩ : BA))), (.c (.str (⟨#[98]⟩ : BA))), (.c (.str (⟨#[99]⟩ : BA)))]),qo 21 (.len false 20),qo 22 (.mv (iC 0))]) (.block 1 (.pre [.ownc (.s 8) 12 .two (.sub (.sub (.s 8) 600) 12)] (.loop (.keep [6, 7, 8, 20, 21, 22] [(.s 6), (.s 7), (.s 8), (.x 0), (.x 1), (.sub (.sub (.s 8) 600) 12)] (.aft (sr [qo 23 (.bin .lss .num 22 21)]
 (.seq (.cond 23 .skip (.exit 1)) (.seq (.block 2 (sr [qm 24 22,qo 25 (.idxA 20 22 1),qo 26 (ld 25),qm 9 24,qm 10 26] (.reg [qo 27 (.fa 8 12),qo 28 (ld 27),qm 29 10,qo 30 (.build zV [((0, 1), (iC 5)), ((2, 1), 29)]),qm 31 9,qo 32 (.bin .sub .num (iC 7) 31),qo 33 (.build zV [((0, 1), (iC 2)), ((1, 1), 32)]),
 qo 34 (.build zTw [((0, 4), 30), ((4, 4), 33)]),qo 35 (.bsl .two [34]),qo 36 (.app 36 .two 68719476736 28 35),qo 37 (.fa 8 12),qp (.store 37 36 1)]))) (.reg [qo 38 (.bin .add .num 22 (iC 1)),qm 22 38])))) [.keep [6, 7, 8, 20, 21, 22] [(.s 6), (.s 7), (.s 8), (.x 0), (.x 1), (.s 36)], .ownc (.s 8) 12 .two (.sub (.sub (.s 8) 600) 12)])))))) (sr [qo 39 (.load 8 14 true),
 qo 40 (.build zTp [((0, 1), (iC 2)), ((2, 1), (iC 5)), ((3, 1), (iC 7))]),qp (.store 6 39 14),qp (.store 7 40 6)] (.pre [.frzc (.s 6) 3 .str, .frzc (.s 6) 11 .fld, .frzc (.s 6) 12 .two, .frzc (.s 6) 13 .lens] .ret)))) .skip)))))) (sr [qo 41 (.load 4 6 true),qo 42 (.call 42 380 [41]),qo 43 (.ext 42 0),qo 44 (.ext 42 1),qp (.store 6 43 14),qp (.store 7 44 6)] .ret)))⟩
theorem w429 {O : Oracle TT} (h380 : C380 O f380) : C429 (fun _ => vcF (S := SS) O j429) f429 := by
 intro kO mP loQ hiU pV psW k00 m01 lo02 hi03 p04 ps05 lH lI Q R hQ h
 unfold f429 at h
 refine ⟨nle rfl, rfl, ?_⟩
 obtain ⟨R8, h, a8, b8⟩ := sc h
 refine kX (fun σ => R8 (.inr ()) ∧ σ = ⟨[pT 4, pT 6, pT 7], [eV (.s 4) [ci kO, .str mP, ci loQ, ci hiU, .str pV, .isl .part psW], eV (.s 6) zLn, eV (.s 7) zTp, eV (.x 0) [.isl .dfn lH, .ptr (.x 1) 0 0], eV (.x 1) [.isl .int lI]]⟩) ?_ ?_
 refine kc h ?_ ?_ <;> intro h
 refine kc h ?_ ?_ <;> intro h
 conv => whnf
 exact ⟨ss h, rfl⟩
 obtain ⟨RA, h, aA, bA⟩ := sc h
 refine kX (fun σ => ∃ (lC : LW) (nK : Nat), nK = lC.length ∧ RA (.inr lC) ∧ σ = ⟨[pT 6, pT 7, pT 8], [eV (.s 6) zLn, eV (.s 7) zTp, eV (.s 8) [ci 11, .str eB, .str eB, .nils, ci 0, ci 0, ci 0, .int .u8 0, ci 0, ci 0, .str eB, .nils, .osl (.sub (.sub (.s 8) 600) 12) 0 nK, .nils], eV (.x 0) [.isl .dfn lH, .ptr (.x 1) 0 0], eV (.x 1) [.isl .int lI], (.sub (.sub (.s 8) 600) 12, (eR .two lC))]⟩) ?_ ?_
 intro hlY
 refine kX (fun σ n => ∃ (rem5 : LB) (j6 : Nat) (z : Int) (l9 : LW) (nM : Nat), n = rem5.length ∧ ([(⟨#[97]⟩ : BA), (⟨#[98]⟩ : BA), (⟨#[99]⟩ : BA)] : LB).drop j6 = rem5 ∧ z = ((j6 : Nat) : Int) ∧ nM = l9.length ∧ sat (f429_L4 rem5 j6 l9) RA ∧ σ.keep [6, 7, 8, 20, 21, 22] [(.s 6), (.s 7), (.s 8), (.x 0), (.x 1), (.sub (.sub (.s 8) 600) 12)] = ⟨[pT 6, pT 7, pT 8, (20, .c (.isl .str ([(⟨#[97]⟩ : BA), (⟨#[98]⟩ : BA), (⟨#[99]⟩ : BA)] : LB))), (21, iD ((([(⟨#[97]⟩ : BA), (⟨#[98]⟩ : BA), (⟨#[99]⟩ : BA)] : LB).length : Nat) : Int)), (22, iD z)], [eV (.s 6) zLn, eV (.s 7) zTp, eV (.s 8) [ci 11, .str eB, .str eB, .nils, ci 0, ci 0, ci 0, .int .u8 0, ci 0, ci 0, .str eB, .nils, .osl (.sub (.sub (.s 8) 600) 12) 0 nM, .nils], eV (.x 0) [.isl .dfn lH, .ptr (.x 1) 0 0], eV (.x 1) [.isl .int lI], (.sub (.sub (.s 8) 600) 12, (eR .two l9))]⟩) ⟨_, ([(⟨#[97]⟩ : BA), (⟨#[98]⟩ : BA), (⟨#[99]⟩ : BA)] : LB), 0, _, [], _, rfl, rfl, rfl, LN, h, rfl⟩ ?_
 rintro σ n ⟨rem5, j6, _, l9, _, rfl, hrem5, rfl, rfl, h, hσ⟩
 refine kk hσ ?_
 intro tB (htB : tB = decide (((j6 : Nat) : Int) < ((([(⟨#[97]⟩ : BA), (⟨#[98]⟩ : BA), (⟨#[99]⟩ : BA)] : LB).length : Nat) : Int)))
 cases tB
 obtain rfl := ll_nil hrem5 htB
 rw [f429_L4] at h
 conv => whnf
 exact ⟨l9, _, LN, ss h, rfl⟩
 obtain ⟨wZ, tlG, rfl, hxJ, htlG⟩ := ll_cons hrem5 htB
 rw [f429_L4] at h
 conv => whnf
 refine ⟨lx_bd hxJ, fun uuN huuN => ?_⟩
 obtain rfl := lx_eq hxJ huuN
 conv => whnf
 refine ⟨LN, rfl, ?_⟩
 conv => whnf
 refine ⟨rfl, ?_⟩
 refine kp h fun hb06 h => ?_
 conv => whnf
 exact ⟨tlG.length, nls, tlG, j6 + 1, _, (l9 ++ ([((V.mk 5 0 wZ []), (V.mk 2 (wrap .i64 ((7 : Int) - ((j6 : Nat) : Int))) eB []))] : LW)), _, rfl, htlG, lx_wr hxJ hlY, LN, h, rfl⟩
 rintro _ ⟨lC, _, rfl, h, rfl⟩
 replace h := bA _ h
 conv => whnf
 refine ⟨LN, ?_⟩
 replace h := sat_lft a8 h
 exact kR [] (ND 2) (hQ _ _ _ _ _ _ _ _ _ _ _ _ _ _ _ _ _ _ _ _ (ss h))
 replace h := sat_lft a8 h
 exact kR [] (ND 2) (hQ _ _ _ _ _ _ _ _ _ _ _ _ _ _ _ _ _ _ _ _ (ss h))
 rintro _ ⟨h, rfl⟩
 replace h := b8 _ h
 refine kL [] (h380 _ _ _ _ _ _ _ _ ?_ (sb h))
 rintro op07 nm08 to09 ns0A n0B lo0C hi0D sep0E k0F n0G s0H f0I prs0J ks0K k0L m0M lo0N hi0O p0P ps0Q h
 exact kR [] (ND 2) (hQ _ _ _ _ _ _ _ _ _ _ _ _ _ _ _ _ _ _ _ _ (ss h))
def sortBA (l : LB) : LB := ((l.map fun x => x.data.toList).mergeSort fun x y => decide (x ≤ y)).map fun x => ⟨x.toArray⟩
def f449 : LB → Option LB
 | l => grdP (l.length < 4611686018427387904) (some (sortBA l))
def C449 (O : Oracle TT) (m : LB → Option (LB)) : Prop :=
 ∀ (r5 : LB) (n6 : Nat) (en6 : n6 = r5.length) (Q : LB → Prop) (R : RR) (_ : ∀ (l7 : LB) (_ : l7.length = r5.length), Q l7 → R (.tup []) [(.x 0, (eR .str l7))]) (_ : sat (m r5) Q), O 449 [.c (.osl (.x 0) 0 n6)] [(.x 0, (eR .str r5))] R
def f428_L2 (kC : Int) (lo5 : Int) (hi7 : Int) (vA : Int) (v8 : Int) : Nat → Int → LB → LW → Option (Sum (Ln × Tp × LI) (LB × LW))
 | 0, v6, l9, lB => some (.inr (l9, lB))
 | gH + 1, v6, l9, lB => grdP ((wrap .i64 ((wrap .i64 (hi7 - lo5)) + 1)) ≠ 0) (sbind (ο := LB × Int × BA) (cond (vA == 5) (grdP ((wrap .i64 ((wrap .i64 (hi7 - lo5)) + 1)) ≠ 0) (grdP ((((⟨#[119]⟩ : BA).size + (strOfNums ([(wrap .u8 ((48 : Int) + (wrap .u8 (Int.tmod (wrap .i64 (v6 + v8)) (wrap .i64 ((wrap .i64 (hi7 - lo5)) + 1))))))] : LI)).size : Nat) : Int) ≤ 9223372036854775807) (grdP (l9.length + ([((⟨#[119]⟩ : BA) ++ (strOfNums ([(wrap .u8 ((48 : Int) + (wrap .u8 (Int.tmod (wrap .i64 (v6 + v8)) (wrap .i64 ((wrap .i64 (hi7 - lo5)) + 1))))))] : LI)))] : LB).length ≤ 68719476736) (some (.inr ((l9 ++ ([((⟨#[119]⟩ : BA) ++ (strOfNums ([(wrap .u8 ((48 : Int) + (wrap .u8 (Int.tmod (wrap .i64 (v6 + v8)) (wrap .i64 ((wrap .i64 (hi7 - lo5)) + 1))))))] : LI)))] : LB)), 0, ((⟨#[119]⟩ : BA) ++ (strOfNums ([(wrap .u8 ((48 : Int) + (wrap .u8 (Int.tmod (wrap .i64 (v6 + v8)) (wrap .i64 ((wrap .i64 (hi7 - lo5)) + 1))))))] : LI))))))))) (some (.inr (l9, (wrap .i64 ((40 : Int) + (Int.tmod (wrap .i64 (v6 + v8)) (wrap .i64 ((wrap .i64 (hi7 - lo5)) + 1))))), (⟨#[]⟩ : BA))))) (fun (lI, vF, sG) => grdP (lB.length + ([((V.mk kC (wrap .i64 (lo5 + v6)) (⟨#[]⟩ : BA) []), (V.mk vA vF sG []))] : LW).length ≤ 68719476736) (f428_L2 kC lo5 hi7 vA v8 gH (v6 + 1) lI (lB ++ ([((V.mk kC (wrap .i64 (lo5 + v6)) (⟨#[]⟩ : BA) []), (V.mk vA vF sG []))] : LW)))))
def f428_L4 (l8 : LB) (l9 : LB) : Nat → Int → BA → Option (Sum (Ln × Tp × LI) (Int × Int × BA))
 | 0, v5, s6 => some (.inr (0, 0, s6))
 | gA + 1, v5, s6 => grdP ((0 : Int) ≤ v5 ∧ v5 < ((l8.length : Nat) : Int)) (getN l9 (0 + v5.toNat) fun w7 => cond (decide (v5 > 0)) (grdP (((s6.size + (⟨#[124]⟩ : BA).size : Nat) : Int) ≤ 9223372036854775807) (grdP ((((s6 ++ (⟨#[124]⟩ : BA)).size + w7.size : Nat) : Int) ≤ 9223372036854775807) (f428_L4 l8 l9 gA (v5 + 1) ((s6 ++ (⟨#[124]⟩ : BA)) ++ w7)))) (grdP (((s6.size + w7.size : Nat) : Int) ≤ 9223372036854775807) (f428_L4 l8 l9 gA (v5 + 1) (s6 ++ w7))))
def f428 : Tp → Tp → PT → LI → Option (Ln × Tp × LI)
 | .mk kA mB loC hiF pG psH, .mk kI m10 lo5 hi6 p11 ps12, l13, l8 => cond (decide ((wrap .i64 ((wrap .i64 (hi6 - lo5)) + 1)) < 1)) ((f380 (Tp.mk kA mB loC hiF pG psH)).bind fun ((.mk opJ nmK toM nsN nO loP hiQ sepU (.mk kV nW sY fZ) prs00 ks01), (.mk k02 m03 lo04 hi05 p06 ps07)) => some ((Ln.mk opJ nmK toM nsN nO loP hiQ sepU (V.mk kV nW sY fZ) prs00 ks01), (Tp.mk k02 m03 lo04 hi05 p06 ps07), l8)) (cond (decide ((wrap .i64 ((wrap .i64 (hi6 - lo5)) + 1)) > 6)) ((f380 (Tp.mk kA mB loC hiF pG psH)).bind fun ((.mk op08 nm09 to0A ns0B n0C lo0D hi0E sep0F (.mk k0G n0H s0I f0J) prs0K ks0L), (.mk k0M m0N lo0O hi0P p0Q ps0R)) => some ((Ln.mk op08 nm09 to0A ns0B n0C lo0D hi0E sep0F (V.mk k0G n0H s0I f0J) prs0K ks0L), (Tp.mk k0M m0N lo0O hi0P p0Q ps0R), l8)) ((f60 ([2, 4, 5] : LI) l8).bind fun (v9, l0S) => (f15 (wrap .i64 ((wrap .i64 (hi6 - lo5)) + 1)) l0S).bind fun (v0T, l0U) => sbind (ο := LB × LW) (grdP ((wrap .i64 ((wrap .i64 (hi6 - lo5)) + 1)) ≤ 9223372036854775807) (f428_L2 kI lo5 hi6 v9 v0T ((wrap .i64 ((wrap .i64 (hi6 - lo5)) + 1)) - 0).toNat 0 [] [])) (fun (l7, l0V) => sbind (ο := Int × Int × BA) (cond (v9 == 5) ((f449 l7).bind fun l0W => grdP (((l7.length : Nat) : Int) ≤ 9223372036854775807) (f428_L4 l7 l0W (((l7.length : Nat) : Int) - 0).toNat 0 (⟨#[]⟩ : BA))) (some (.inr (40, (wrap .i64 ((39 : Int) + (wrap .i64 ((wrap .i64 (hi6 - lo5)) + 1)))), (⟨#[]⟩ : BA))))) (fun (v0X, v0Y, s0Z) => some ((Ln.mk 11 (⟨#[]⟩ : BA) (⟨#[]⟩ : BA) [] 0 0 0 0 (V.mk 0 0 (⟨#[]⟩ : BA) []) l0V []), (Tp.mk v9 (⟨#[]⟩ : BA) v0X v0Y s0Z []), l0U)))))
def C428 (O : Oracle TT) (m : Tp → Tp → PT → LI → Option (Ln × Tp × LI)) : Prop :=
 ∀ k6 m7 lo8 hi9 pA psB kC mF loG hiH pI psJ l5 lK (Q : (Ln × Tp × LI) → Prop) (R : RR) (_ : ∀ opM nmN toO nsP nQ loU hiV sepW kY nZ s00 f01 prs02 ks03 k04 m05 lo06 hi07 p08 ps09 l0A, Q ((Ln.mk opM nmN toO nsP nQ loU hiV sepW (V.mk kY nZ s00 f01) prs02 ks03), (Tp.mk k04 m05 lo06 hi07 p08 ps09), l0A) → R (.tup [.agg [ci opM, .str nmN, .str toO, .isl .str nsP, ci nQ, ci loU, ci hiV, .int .u8 sepW, ci kY, ci nZ, .str s00, .isl .fld f01, .isl .two prs02, .isl .lens ks03], .agg [ci k04, .str m05, ci lo06, ci hi07, .str p08, .isl .part ps09]]) [eV (.x 0) [.isl .dfn l5, .ptr (.x 1) 0 0], eV (.x 1) [.isl .int l0A]]) (_ : sat (m (Tp.mk k6 m7 lo8 hi9 pA psB) (Tp.mk kC mF loG hiH pI psJ) l5 lK) Q), O 428 [pX 0, .agg [ci k6, .str m7, ci lo8, ci hi9, .str pA, .isl .part psB], .agg [ci kC, .str mF, ci loG, ci hiH, .str pI, .isl .part psJ]] [eV (.x 0) [.isl .dfn l5, .ptr (.x 1) 0 0], eV (.x 1) [.isl .int lK]] R
def j428 : Fn TT := ⟨124, [.cell 6 14 true, .cell 7 6 true], (sr [qo 4 (.box 4 1),qo 5 (.box 5 2),qo 6 (.alloc 6 zLn),qo 7 (.alloc 7 zTp)] (sr [qo 18 (.fa 5 3),qo 19 (ld 18),qo 20 (.fa 5 2),qo 21 (ld 20),qo 22 (.bin .sub .num 19 21),qo 23 (.bin .add .num 22 (iC 1)),qm 8 23] (.seq (sr [qm 24 8,
 qo 25 (.bin .lss .num 24 (iC 1)),qm 26 25,qf 26 27 (.mv 8),qf 26 28 (.bin .gtr .num 27 (iC 6)),qo 29 (.pick 26 bT 28)] (.cond 29 (sr [qo 30 (.load 4 6 true),qo 31 (.call 31 380 [30]),qo 32 (.ext 31 0),qo 33 (.ext 31 1),qp (.store 6 32 14),qp (.store 7 33 6)] .ret) .skip)) (sr [qm 34 0,qo 35 (.nilck 34),qo 36 (.fa 35 1),qo 37 (ld 36),
 qo 38 (.bsl .int [(iC 2), (iC 4), (iC 5)]),qo 39 (.call 39 60 [37, 38]),qm 9 39] (sr [qo 40 (.build [.int .i64 0, .str eB, .str eB, .nils, .int .i64 0, .int .i64 0, .int .i64 0, .int .u8 0, .int .i64 0, .int .i64 0, .str eB, .nils, .nils, .nils] [((0, 1), (iC 11))]),qm 41 9,qm 42 8,qo 43 (.bin .add .num (iC 39) 42),
 qo 44 (.build zTp [((0, 1), 41), ((2, 1), (iC 40)), ((3, 1), 43)]),qo 10 (.alloc 10 zLn),qo 11 (.alloc 11 zTp),qp (.store 10 40 14),qp (.store 11 44 6)] (sr [qm 45 0,qo 46 (.nilck 45),qo 47 (.fa 46 1),qo 48 (ld 47),qm 49 8,qo 50 (.call 50 15 [48, 49]),qm 12 50] (sr [qo 13 (.mv (.c (.nils)))]
 (.cut [6, 7, 9, 10, 11, 13] [(.s 6), (.s 7), (.s 10), (.s 11), (.sub (.sub (.s 13) 600) 0), (.x 0), (.x 1), (.sub (.sub (.s 10) 600) 12)] (sr [qm 51 8,qo 52 (.mv (iC 0))] (.block 0 (.pre [.own 13 0 .str (.sub (.sub (.s 13) 600) 0), .ownc (.s 10) 12 .two (.sub (.sub (.s 10) 600) 12)]
 (.loop (.keep [5, 6, 7, 8, 9, 10, 11, 12, 13, 51, 52] [(.s 5), (.s 6), (.s 7), (.s 10), (.s 11), (.sub (.sub (.s 13) 600) 0), (.x 0), (.x 1), (.sub (.sub (.s 10) 600) 12)] (.aft (sr [qo 53 (.bin .lss .num 52 51)] (.seq (.cond 53 .skip (.exit 0)) (.seq (.block 1 (sr [qm 54 52,qm 14 54] (sr [qm 55 9,qm 56 14,qm 57 12,
 qo 58 (.bin .add .num 56 57),qm 59 8,qo 60 (.bin .rem .num 58 59),qo 61 (.bin .add .num (iC 40) 60),qo 62 (.build zV [((0, 1), 55), ((1, 1), 61)]),qo 15 (.alloc 15 zV),qp (.store 15 62 4)] (.cut [5, 6, 7, 8, 9, 10, 11, 12, 13, 14, 15, 51, 52] [(.s 5), (.s 6), (.s 7), (.s 10), (.s 11), (.sub (.sub (.s 13) 4713) 0), (.s 15), (.x 0), (.x 1), (.sub (.sub (.s 10) 600) 12)] (.aft (.seq
 (.reg [qm 63 9,qo 64 (.bin .eql .num 63 (iC 5))]) (.cond 64 (sr [qm 65 9,qm 66 14,qm 67 12,qo 68 (.bin .add .num 66 67),qm 69 8,qo 70 (.bin .rem .num 68 69),qo 71 (.conv .u8 70),qo 72 (.bin .add .num (.c (.int .u8 48)) 71),qo 73 (.bsl .u8 [72]),qo 74 (.b2s 73),qo 75 (.bin .add .str (.c (.str (⟨#[119]⟩ : BA))) 74),
 qo 76 (.build zV [((0, 1), 65), ((2, 1), 75)]),qp (.store 15 76 4)] (.reg [qm 77 13,qo 78 (.fa 15 2),qo 79 (ld 78),qo 80 (.bsl .str [79]),qo 81 (.app 81 .str 68719476736 77 80),qm 13 81])) .skip)) [.own 13 0 .str (.sub (.sub (.s 13) 4713) 0)]) (.reg [qo 82 (.fa 10 12),qo 83 (ld 82),qo 84 (.fa 5 0),qo 85 (ld 84),qo 86 (.fa 5 2),
 qo 87 (ld 86),qm 88 14,qo 89 (.bin .add .num 87 88),qo 90 (.build zV [((0, 1), 85), ((1, 1), 89)]),qo 91 (.load 15 4 true),qo 92 (.build zTw [((0, 4), 90), ((4, 4), 91)]),qo 93 (.bsl .two [92]),qo 94 (.app 94 .two 68719476736 83 93),qo 95 (.fa 10 12),qp (.store 95 94 1)]))))) (.reg [qo 96 (.bin .add .num 52 (iC 1)),
 qm 52 96])))) [.keep [5, 6, 7, 8, 9, 10, 11, 12, 13, 51, 52] [(.s 5), (.s 6), (.s 7), (.s 10), (.s 11), (.sub (.sub (.s 13) 4713) 0), (.x 0), (.x 1), (.s 94)], .own 13 0 .str (.sub (.sub (.s 13) 600) 0), .ownc (.s 10) 12 .two (.sub (.sub (.s 10) 600) 12)])))))) (.cut [6, 7, 10, 11] [(.s 6), (.s 7), (.s 10), (.s 11), (.x 0), (.x 1), (.sub (.sub (.s 10) 600) 12)] (sr [qm 97 9,
 qo 98 (.bin .eql .num 97 (iC 5))] (.cond 98 (sr [qm 99 13,qo 100 (.call 100 449 [99])] (sr [qm 101 9,qo 102 (.build zTp [((0, 1), 101)]),qp (.store 11 102 6)] (sr [qm 103 13,qo 104 (.len false 103),qo 105 (.mv (iC 0))] (.block 2
 (.loop (.keep [6, 7, 10, 11, 103, 104, 105] [(.s 6), (.s 7), (.s 10), (.s 11), (.sub (.sub (.s 13) 600) 0), (.x 0), (.x 1), (.sub (.sub (.s 10) 600) 12)] (.aft (sr [qo 106 (.bin .lss .num 105 104)] (.seq (.cond 106 .skip (.exit 2)) (.seq (.block 3 (sr [qm 107 105,qo 108 (.idxA 103 105 1),qo 109 (ld 108),qm 16 107,qm 17 109] (.seq (.seq
 (.reg [qm 110 16,qo 111 (.bin .gtr .num 110 (iC 0))]) (.cond 111 (.reg [qo 112 (.fa 11 4),qo 113 (ld 112),qo 114 (.bin .add .str 113 (.c (.str (⟨#[124]⟩ : BA)))),qo 115 (.fa 11 4),qp (.store 115 114 1)]) .skip)) (.reg [qo 116 (.fa 11 4),qo 117 (ld 116),qm 118 17,qo 119 (.bin .add .str 117 118),qo 120 (.fa 11 4),qp (.store 120 119 1)]))))
 (.reg [qo 121 (.bin .add .num 105 (iC 1)),qm 105 121])))) [.keep [6, 7, 10, 11, 103, 104, 105] [(.s 6), (.s 7), (.s 10), (.s 11), (.sub (.sub (.s 13) 600) 0), (.x 0), (.x 1), (.sub (.sub (.s 10) 600) 12)]]))))))) .skip)) (.seq (.drw [(.s 6)] (ol [0, 1, 2, 3]) [3] [0, 1] [qo 122 (.load 10 14 true),qo 123 (.load 11 6 true),qp (.store 6 122 14),qp (.store 7 123 6)])
 (.pre [.frzc (.s 6) 3 .str, .frzc (.s 6) 11 .fld, .frzc (.s 6) 12 .two, .frzc (.s 6) 13 .lens] .ret)))))))))))⟩
theorem w428 {O : Oracle TT} (h15 : C15 O f15) (h60 : C60 O f60) (h380 : C380 O f380) (h449 : C449 O f449) : C428 (fun _ => vcF (S := SS) O j428) f428 := by
 intro k0J m0K lo0L hi0M p0N ps0O k00 m08 lo5 hi6 p09 ps0A lP l0P Q R hQ h
 unfold f428 at h
 refine ⟨nle rfl, rfl, ?_⟩
 refine kc h ?_ ?_ <;> intro h
 refine kc h ?_ ?_ <;> intro h
 refine kL [(.x 1)] (h60 _ _ _ _ ?_ (sb h))
 rintro vA l0Q h
 refine kL [(.x 1)] (h15 _ _ _ _ ?_ (sb h))
 rintro vM lQ h
 obtain ⟨RU, h, aU, bU⟩ := sc h
 refine kX (fun σ => ∃ (lB : LB) (lH : LW) (n0B : Nat) (n0C : Nat), n0B = lB.length ∧ n0C = lH.length ∧ RU (.inr (lB, lH)) ∧ σ = ⟨[pT 6, pT 7, (9, iD vA), pT 10, pT 11, (13, .c (.osl (.sub (.sub (.s 13) 600) 0) 0 n0B))], [eV (.s 6) zLn, eV (.s 7) zTp, eV (.s 10) [ci 11, .str eB, .str eB, .nils, ci 0, ci 0, ci 0, .int .u8 0, ci 0, ci 0, .str eB, .nils, .osl (.sub (.sub (.s 10) 600) 12) 0 n0C, .nils], eV (.s 11) [ci vA, .str eB, ci 40, ci (wrap .i64 ((39 : Int) + (wrap .i64 ((wrap .i64 (hi6 - lo5)) + 1)))), .str eB, .isl .part []], (.sub (.sub (.s 13) 600) 0, (eR .str lB)), eV (.x 0) [.isl .dfn lP, .ptr (.x 1) 0 0], eV (.x 1) [.isl .int lQ], (.sub (.sub (.s 10) 600) 12, (eR .two lH))]⟩) ?_ ?_
 obtain ⟨hN0H, h⟩ := sat_grdP h
 refine kX (fun σ n => ∃ (fC : Nat) (v8 : Int) (z : Int) (lN : LB) (lI : LW) (n0D : Nat) (n0E : Nat), fC = n ∧ fC = ((wrap .i64 ((wrap .i64 (hi6 - lo5)) + 1)) - v8).toNat ∧ 0 ≤ v8 ∧ v8 = z ∧ n0D = lN.length ∧ n0E = lI.length ∧ sat (f428_L2 k00 lo5 hi6 vA vM fC v8 lN lI) RU ∧ σ.keep [5, 6, 7, 8, 9, 10, 11, 12, 13, 51, 52] [(.s 5), (.s 6), (.s 7), (.s 10), (.s 11), (.sub (.sub (.s 13) 600) 0), (.x 0), (.x 1), (.sub (.sub (.s 10) 600) 12)] = ⟨[pT 5, pT 6, pT 7, (8, iD (wrap .i64 ((wrap .i64 (hi6 - lo5)) + 1))), (9, iD vA), pT 10, pT 11, (12, iD vM), (13, .c (.osl (.sub (.sub (.s 13) 600) 0) 0 n0D)), (51, iD (wrap .i64 ((wrap .i64 (hi6 - lo5)) + 1))), (52, iD z)], [eV (.s 5) [ci k00, .str m08, ci lo5, ci hi6, .str p09, .isl .part ps0A], eV (.s 6) zLn, eV (.s 7) zTp, eV (.s 10) [ci 11, .str eB, .str eB, .nils, ci 0, ci 0, ci 0, .int .u8 0, ci 0, ci 0, .str eB, .nils, .osl (.sub (.sub (.s 10) 600) 12) 0 n0E, .nils], eV (.s 11) [ci vA, .str eB, ci 40, ci (wrap .i64 ((39 : Int) + (wrap .i64 ((wrap .i64 (hi6 - lo5)) + 1)))), .str eB, .isl .part []], (.sub (.sub (.s 13) 600) 0, (eR .str lN)), eV (.x 0) [.isl .dfn lP, .ptr (.x 1) 0 0], eV (.x 1) [.isl .int lQ], (.sub (.sub (.s 10) 600) 12, (eR .two lI))]⟩) ⟨_, _, 0, _, [], [], _, _, rfl, rfl, (by decide), rfl, LN, LN, h, rfl⟩ ?_
 rintro σ n ⟨fC, v8, _, lN, lI, _, _, rfl, hfC, hpfC, rfl, rfl, rfl, h, hσ⟩
 refine kk hσ ?_
 intro tV (htV : tV = decide (v8 < (wrap .i64 ((wrap .i64 (hi6 - lo5)) + 1))))
 cases tV
 obtain rfl := il_nil hfC htV
 rw [f428_L2] at h
 conv => whnf
 exact ⟨lN, lI, _, _, LN, LN, ss h, rfl⟩
 obtain ⟨gJ, rfl, hwgJ, hpgJ, hfgJ⟩ := il_cons hfC hpfC htV hN0H
 rw [f428_L2] at h
 refine kp h fun hb0R h => ?_
 obtain ⟨R01, h, a01, b01⟩ := sc h
 refine kX (fun σ => ∃ (lW : LB) (v02 : Int) (s03 : BA) (n0F : Nat), n0F = lW.length ∧ R01 (.inr (lW, v02, s03)) ∧ σ = ⟨[pT 5, pT 6, pT 7, (8, iD (wrap .i64 ((wrap .i64 (hi6 - lo5)) + 1))), (9, iD vA), pT 10, pT 11, (12, iD vM), (13, .c (.osl (.sub (.sub (.s 13) 4713) 0) 0 n0F)), (14, iD v8), pT 15, (51, iD (wrap .i64 ((wrap .i64 (hi6 - lo5)) + 1))), (52, iD v8)], [eV (.s 5) [ci k00, .str m08, ci lo5, ci hi6, .str p09, .isl .part ps0A], eV (.s 6) zLn, eV (.s 7) zTp, eV (.s 10) [ci 11, .str eB, .str eB, .nils, ci 0, ci 0, ci 0, .int .u8 0, ci 0, ci 0, .str eB, .nils, .osl (.sub (.sub (.s 10) 600) 12) 0 lI.length, .nils], eV (.s 11) [ci vA, .str eB, ci 40, ci (wrap .i64 ((39 : Int) + (wrap .i64 ((wrap .i64 (hi6 - lo5)) + 1)))), .str eB, .isl .part []], (.sub (.sub (.s 13) 4713) 0, (eR .str lW)), eV (.s 15) [ci vA, ci v02, .str s03, .isl .fld []], eV (.x 0) [.isl .dfn lP, .ptr (.x 1) 0 0], eV (.x 1) [.isl .int lQ], (.sub (.sub (.s 10) 600) 12, (eR .two lI))]⟩) ?_ ?_
 refine kc h ?_ ?_ <;> intro h
 conv => whnf
 exact ⟨lN, (wrap .i64 ((40 : Int) + (Int.tmod (wrap .i64 (v8 + vM)) (wrap .i64 ((wrap .i64 (hi6 - lo5)) + 1))))), eB, _, LN, ss h, rfl⟩
 refine kp h fun hb0S h => ?_
 conv => whnf
 refine ⟨([(wrap .u8 ((48 : Int) + (wrap .u8 (Int.tmod (wrap .i64 (v8 + vM)) (wrap .i64 ((wrap .i64 (hi6 - lo5)) + 1))))))] : LI), rfl, ?_⟩
 refine kp h fun hb0T h => ?_
 conv => whnf
 refine ⟨LN, rfl, ?_⟩
 conv => whnf
 refine ⟨rfl, ?_⟩
 refine kp h fun hb0U h => ?_
 conv => whnf
 exact ⟨(lN ++ ([((⟨#[119]⟩ : BA) ++ (strOfNums ([(wrap .u8 ((48 : Int) + (wrap .u8 (Int.tmod (wrap .i64 (v8 + vM)) (wrap .i64 ((wrap .i64 (hi6 - lo5)) + 1))))))] : LI)))] : LB)), (0 : Int), ((⟨#[119]⟩ : BA) ++ (strOfNums ([(wrap .u8 ((48 : Int) + (wrap .u8 (Int.tmod (wrap .i64 (v8 + vM)) (wrap .i64 ((wrap .i64 (hi6 - lo5)) + 1))))))] : LI))), _, LN, ss h, rfl⟩
 rintro _ ⟨lW, v02, s03, _, rfl, h, rfl⟩
 replace h := b01 _ h
 conv => whnf
 refine ⟨LN, rfl, ?_⟩
 conv => whnf
 refine ⟨rfl, ?_⟩
 refine kp h fun hb0V h => ?_
 conv => whnf
 exact ⟨gJ, nls, gJ, v8 + 1, _, lW, (lI ++ ([((V.mk k00 (wrap .i64 (lo5 + v8)) eB []), (V.mk vA v02 s03 []))] : LW)), _, _, rfl, hfgJ, hpgJ, hwgJ.symm, LN, LN, h, rfl⟩
 rintro _ ⟨lB, lH, _, _, rfl, rfl, h, rfl⟩
 replace h := bU _ h
 obtain ⟨RY, h, aY, bY⟩ := sc h
 refine kX (fun σ => ∃ v04 v05 s06, RY (.inr (v04, v05, s06)) ∧ σ = ⟨[pT 6, pT 7, pT 10, pT 11], [eV (.s 6) zLn, eV (.s 7) zTp, eV (.s 10) [ci 11, .str eB, .str eB, .nils, ci 0, ci 0, ci 0, .int .u8 0, ci 0, ci 0, .str eB, .nils, .osl (.sub (.sub (.s 10) 600) 12) 0 lH.length, .nils], eV (.s 11) [ci vA, .str eB, ci v04, ci v05, .str s06, .isl .part []], eV (.x 0) [.isl .dfn lP, .ptr (.x 1) 0 0], eV (.x 1) [.isl .int lQ], (.sub (.sub (.s 10) 600) 12, (eR .two lH))]⟩) ?_ ?_
 refine kc h ?_ ?_ <;> intro h
 conv => whnf
 exact ⟨(40 : Int), (wrap .i64 ((39 : Int) + (wrap .i64 ((wrap .i64 (hi6 - lo5)) + 1)))), eB, ss h, rfl⟩
 refine kL [(.sub (.sub (.s 13) 600) 0)] (h449 _ _ LN _ _ ?_ (sb h))
 rintro l07 hkrl07 h
 intro hl0W
 obtain ⟨hN0I, h⟩ := sat_grdP h
 refine kX (fun σ n => ∃ (fG : Nat) (vK : Int) (z : Int) (sO : BA), fG = n ∧ fG = (((lB.length : Nat) : Int) - vK).toNat ∧ 0 ≤ vK ∧ vK = z ∧ sat (f428_L4 lB l07 fG vK sO) RY ∧ σ.keep [6, 7, 10, 11, 103, 104, 105] [(.s 6), (.s 7), (.s 10), (.s 11), (.sub (.sub (.s 13) 600) 0), (.x 0), (.x 1), (.sub (.sub (.s 10) 600) 12)] = ⟨[pT 6, pT 7, pT 10, pT 11, (103, .c (.osl (.sub (.sub (.s 13) 600) 0) 0 lB.length)), (104, iD ((lB.length : Nat) : Int)), (105, iD z)], [eV (.s 6) zLn, eV (.s 7) zTp, eV (.s 10) [ci 11, .str eB, .str eB, .nils, ci 0, ci 0, ci 0, .int .u8 0, ci 0, ci 0, .str eB, .nils, .osl (.sub (.sub (.s 10) 600) 12) 0 lH.length, .nils], eV (.s 11) [ci vA, .str eB, ci 0, ci 0, .str sO, .isl .part []], (.sub (.sub (.s 13) 600) 0, (eR .str l07)), eV (.x 0) [.isl .dfn lP, .ptr (.x 1) 0 0], eV (.x 1) [.isl .int lQ], (.sub (.sub (.s 10) 600) 12, (eR .two lH))]⟩) ⟨_, _, 0, _, eB, rfl, rfl, (by decide), rfl, h, rfl⟩ ?_
 rintro σ n ⟨fG, vK, _, sO, rfl, hfG, hpfG, rfl, h, hσ⟩
 refine kk hσ ?_
 intro tZ (htZ : tZ = decide (vK < ((lB.length : Nat) : Int)))
 cases tZ
 obtain rfl := il_nil hfG htZ
 rw [f428_L4] at h
 conv => whnf
 exact ⟨(0 : Int), (0 : Int), sO, ss h, rfl⟩
 obtain ⟨g9, rfl, hwg9, hpg9, hfg9⟩ := il_cons hfG hpfG htZ hN0I
 rw [f428_L4] at h
 refine kp h fun hb0X h => ?_
 refine kg (sat_getN h) fun w0G huu0Y h => ?_
 refine kc h ?_ ?_ <;> intro h
 refine kp h fun hb0Z h => ?_
 conv => whnf
 exact ⟨g9, nls, g9, vK + 1, _, (sO ++ w0G), rfl, hfg9, hpg9, hwg9.symm, h, rfl⟩
 refine kp h fun hb10 h => ?_
 refine kp h fun hb11 h => ?_
 conv => whnf
 exact ⟨g9, nls, g9, vK + 1, _, ((sO ++ (⟨#[124]⟩ : BA)) ++ w0G), rfl, hfg9, hpg9, hwg9.symm, h, rfl⟩
 rintro _ ⟨v04, v05, s06, h, rfl⟩
 replace h := bY _ h
 conv => whnf
 refine ⟨LN, ?_⟩
 exact kR [] (ND 2) (hQ _ _ _ _ _ _ _ _ _ _ _ _ _ _ _ _ _ _ _ _ _ (ss h))
 refine kL [] (h380 _ _ _ _ _ _ _ _ ?_ (sb h))
 rintro op12 nm13 to14 ns15 n17 lo18 hi19 sep1A k1B n1C s1D f1E prs1F ks1G k1H m1I lo1J hi1K p1L ps1M h
 exact kR [] (ND 2) (hQ _ _ _ _ _ _ _ _ _ _ _ _ _ _ _ _ _ _ _ _ _ (ss h))
 refine kL [] (h380 _ _ _ _ _ _ _ _ ?_ (sb h))
 rintro op1N nm1O to1P ns1Q n1R lo1S hi1T sep1U k1V n1W s1X f1Y prs1Z ks20 k21 m22 lo23 hi24 p25 ps26 h
 exact kR [] (ND 2) (hQ _ _ _ _ _ _ _ _ _ _ _ _ _ _ _ _ _ _ _ _ _ (ss h))
def f438 : Tp → Option (Tp)
 | .mk k5 m6 lo7 hi8 p9 psA => (f108 psA).bind fun lB => some (Tp.mk k5 m6 lo7 hi8 p9 lB)
def C438 (O : Oracle TT) (m : Tp → Option (Tp)) : Prop :=
 ∀ k6 m7 lo8 hi9 pA psB (Q : Tp → Prop) (R : RR) (_ : ∀ kC mD loE hiF pG (ps5 : PT) (n0r : Nat) (_ : n0r = ps5.length), Q (Tp.mk kC mD loE hiF pG ps5) → R (.agg [ci kC, .str mD, ci loE, ci hiF, .str pG, .osl (.x 0) 0 n0r]) [(.x 0, (eR .part ps5))]) (_ : sat (m (Tp.mk k6 m7 lo8 hi9 pA psB)) Q), O 438 [.agg [ci k6, .str m7, ci lo8, ci hi9, .str pA, .isl .part psB]] [] R
def j438 : Fn TT := ⟨8, [.cell 2 6 true], (sr [qo 1 (.box 1 0),qo 2 (.alloc 2 zTp)] (sr [qo 3 (.fa 1 5),qo 4 (ld 3),qo 5 (.call 5 108 [4]),qo 6 (.fa 1 5),qp (.store 6 5 1)] (sr [qo 7 (.load 1 6 true),qp (.store 2 7 6)] .ret)))⟩
theorem w438 {O : Oracle TT} (h108 : C108 O f108) : C438 (fun _ => vcF (S := SS) O j438) f438 := by
 intro k5 m6 lo7 hi8 p9 psA Q R hQ h
 unfold f438 at h
 refine ⟨nle rfl, rfl, ?_⟩
 refine kL [] (h108 _ _ _ ?_ (sb h))
 rintro lB _ rfl h
 exact kR [(.sub (.s 5) 0)] (ND 0) (hQ _ _ _ _ _ _ _ LN (ss h))
def f479_L2 (v5 : Int) : LI → Nat → Option (Sum (Int) (Unit))
 | [], j0 => some (.inr ())
 | c6 :: tl7, j0 => cond (v5 == c6) (lft (some ((j0 : Nat) : Int))) (f479_L2 v5 tl7 (j0 + 1))
def f479 : LI → Int → Option (Int)
 | l0, v5 => sbind (ο := Unit) (f479_L2 v5 l0 0) (fun () => some (-1))
def C479 (O : Oracle TT) (m : LI → Int → Option (Int)) : Prop :=
 ∀ l0 v5 (Q : Int → Prop) (R : RR) (_ : ∀ v6, Q v6 → R (iD v6) []) (_ : sat (m l0 v5) Q), O 479 [.c (.isl .u8 l0), .c (.int .u8 v5)] [] R
def j479 : Fn TT := ⟨19, [.t 4], (sr [qo 4 (.mv (iC 0))] (.cut [] [] (sr [qm 6 0,qo 7 (.len false 6),qo 8 (.mv (iC 0))] (.block 0 (.loop (.keep [0, 1, 7, 8] [] (.aft (sr [qo 9 (.bin .lss .num 8 7)] (.seq (.cond 9 .skip (.exit 0)) (.seq (.block 1 (sr [qm 10 8,qm 5 10] (sr [qm 11 1,qm 12 0,qm 13 5,
 qo 14 (.idxA 12 13 1),qo 15 (ld 14),qo 16 (.bin .eql .num 11 15)] (.cond 16 (sr [qm 17 5,qm 4 17] .ret) .skip)))) (.reg [qo 18 (.bin .add .num 8 (iC 1)),qm 8 18])))) [.keep [0, 1, 7, 8] []]))))) (sr [qo 4 (.mv (iC (-1)))] .ret)))⟩
theorem w479 {O : Oracle TT} : C479 (fun _ => vcF (S := SS) O j479) f479 := by
 intro l9 vE Q R hQ h
 unfold f479 at h
 refine ⟨nle rfl, rfl, ?_⟩
 obtain ⟨R6, h, a6, b6⟩ := sc h
 refine kX (fun σ => R6 (.inr ()) ∧ σ = ⟨[], []⟩) ?_ ?_
 intro hlH
 refine kX (fun σ n => ∃ (rem5 : LI) (j8 : Nat) (z : Int), n = rem5.length ∧ l9.drop j8 = rem5 ∧ z = ((j8 : Nat) : Int) ∧ sat (f479_L2 vE rem5 j8) R6 ∧ σ.keep [0, 1, 7, 8] [] = ⟨[(0, .c (.isl .u8 l9)), (1, .c (.int .u8 vE)), (7, iD ((l9.length : Nat) : Int)), (8, iD z)], []⟩) ⟨_, l9, 0, _, rfl, rfl, rfl, h, rfl⟩ ?_
 rintro σ n ⟨rem5, j8, _, rfl, hrem5, rfl, h, hσ⟩
 refine kk hσ ?_
 intro tA (htA : tA = decide (((j8 : Nat) : Int) < ((l9.length : Nat) : Int)))
 cases tA
 obtain rfl := ll_nil hrem5 htA
 rw [f479_L2] at h
 conv => whnf
 exact ⟨ss h, rfl⟩
 obtain ⟨cI, tlB, rfl, hxC, htlB⟩ := ll_cons hrem5 htA
 rw [f479_L2] at h
 conv => whnf
 refine ⟨lx_bd hxC, fun uuG huuG => ?_⟩
 obtain rfl := lx_eq hxC huuG
 refine kc h ?_ ?_ <;> intro h
 conv => whnf
 exact ⟨tlB.length, nls, tlB, j8 + 1, _, rfl, htlB, lx_wr hxC hlH, h, rfl⟩
 replace h := sat_lft a6 h
 exact kR [] (ND 0) (hQ _ (ss h))
 rintro _ ⟨h, rfl⟩
 replace h := b6 _ h
 exact kR [] (ND 0) (hQ _ (ss h))
def f466 : LI → Int → Option (Bool)
 | l0, v5 => (f479 l0 v5).bind fun v6 => cond (decide (v6 ≥ 0)) (some true) (some false)
def C466 (O : Oracle TT) (m : LI → Int → Option (Bool)) : Prop :=
 ∀ l0 v5 (Q : Bool → Prop) (R : RR) (_ : ∀ q6, Q q6 → R (bD q6) []) (_ : sat (m l0 v5) Q), O 466 [.c (.isl .u8 l0), .c (.int .u8 v5)] [] R
def j466 : Fn TT := ⟨9, [.t 4], (sr [qm 4 bF] (sr [qm 5 0,qm 6 1,qo 7 (.call 7 479 [5, 6]),qo 8 (.bin .geq .num 7 (iC 0)),qm 4 8] .ret))⟩
theorem w466 {O : Oracle TT} (h479 : C479 O f479) : C466 (fun _ => vcF (S := SS) O j466) f466 := by
 intro l0 v5 Q R hQ h
 unfold f466 at h
 refine ⟨nle rfl, rfl, ?_⟩
 refine kL [] (h479 _ _ _ _ ?_ (sb h))
 rintro v6 h
 refine kc h ?_ ?_ <;> intro h
 exact kR [] (ND 0) (hQ _ (ss h))
 exact kR [] (ND 0) (hQ _ (ss h))
def f456_L2 (s7 : BA) : Nat → Int → LI → Option (Sum (BA) (LI))
 | 0, v6, l5 => some (.inr l5)
 | g8 + 1, v6, l5 => getB s7 v6 fun cB => (f466 ([124, 42, 43, 63, 40, 41, 91, 93, 46, 92] : LI) (cB.toNat : Int)).bind fun qC => cond qC (grdP (l5.length + ([92] : LI).length ≤ 68719476736) (getB s7 v6 fun c9 => grdP ((l5 ++ ([92] : LI)).length + ([(c9.toNat : Int)] : LI).length ≤ 68719476736) (f456_L2 s7 g8 (v6 + 1) ((l5 ++ ([92] : LI)) ++ ([(c9.toNat : Int)] : LI))))) (getB s7 v6 fun cA => grdP (l5.length + ([(cA.toNat : Int)] : LI).length ≤ 68719476736) (f456_L2 s7 g8 (v6 + 1) (l5 ++ ([(cA.toNat : Int)] : LI))))
def f456 : BA → Option (BA)
 | s3 => sbind (ο := LI) (grdP ((s3.size : Int) ≤ 9223372036854775807) (f456_L2 s3 ((s3.size : Int) - 0).toNat 0 [])) (fun l4 => some (strOfNums l4))
def C456 (O : Oracle TT) (m : BA → Option (BA)) : Prop :=
 ∀ s3 (Q : BA → Prop) (R : RR) (_ : ∀ s4, Q s4 → R (sD s4) []) (_ : sat (m s3) Q), O 456 [sD s3] [] R
def j456 : Fn TT := ⟨28, [.t 2], (sr [qm 2 sE] (sr [qo 3 (.mv (.c (.nils)))] (.cut [3] [(.sub (.sub (.s 3) 600) 0)] (sr [qm 5 0,qo 6 (.len true 5),qo 7 (.mv (iC 0))] (.block 0 (.pre [.own 3 0 .u8 (.sub (.sub (.s 3) 600) 0)] (.loop (.keep [0, 3, 6, 7] [(.sub (.sub (.s 3) 600) 0)] (.aft (sr [qo 8 (.bin .lss .num 7 6)] (.seq (.cond 8 .skip
 (.exit 0)) (.seq (.block 1 (sr [qm 9 7,qm 4 9] (.seq (sr [qo 10 (.bslice 10 .u8 [(.c (.int .u8 124)), (.c (.int .u8 42)), (.c (.int .u8 43)), (.c (.int .u8 63)), (.c (.int .u8 40)), (.c (.int .u8 41)), (.c (.int .u8 91)), (.c (.int .u8 93)), (.c (.int .u8 46)), (.c (.int .u8 92))]),qo 11 (.mark 10),qm 12 0,qm 13 4,qo 14 (.idxS 12 13),
 qo 15 (.call 15 466 [11, 14])] (.cond 15 (.reg [qm 16 3,qo 17 (.bsl .u8 [(.c (.int .u8 92))]),qo 18 (.app 18 .u8 68719476736 16 17),qm 3 18]) .skip)) (.reg [qm 19 3,qm 20 0,qm 21 4,qo 22 (.idxS 20 21),qo 23 (.bsl .u8 [22]),qo 24 (.app 24 .u8 68719476736 19 23),qm 3 24])))) (.reg [qo 25 (.bin .add .num 7 (iC 1)),
 qm 7 25])))) [.keep [0, 3, 6, 7] [(.s 24)], .own 3 0 .u8 (.sub (.sub (.s 3) 600) 0)])))))) (.seq (.pre [.frz 3 0 .u8] (.reg [qm 26 3,qo 27 (.b2s 26),qm 2 27])) .ret))))⟩
theorem w456 {O : Oracle TT} (h466 : C466 O f466) : C456 (fun _ => vcF (S := SS) O j456) f456 := by
 intro s9 Q R hQ h
 unfold f456 at h
 refine ⟨nle rfl, rfl, ?_⟩
 obtain ⟨RA, h, aA, bA⟩ := sc h
 refine kX (fun σ => ∃ (lB : LI) (nG : Nat), nG = lB.length ∧ RA (.inr lB) ∧ σ = ⟨[(3, .c (.osl (.sub (.sub (.s 3) 600) 0) 0 nG))], [(.sub (.sub (.s 3) 600) 0, (eR .u8 lB))]⟩) ?_ ?_
 obtain ⟨hNK, h⟩ := sat_grdP h
 refine kX (fun σ n => ∃ (f6 : Nat) (v7 : Int) (z : Int) (l8 : LI) (nH : Nat), f6 = n ∧ f6 = ((s9.size : Int) - v7).toNat ∧ 0 ≤ v7 ∧ v7 = z ∧ nH = l8.length ∧ sat (f456_L2 s9 f6 v7 l8) RA ∧ σ.keep [0, 3, 6, 7] [(.sub (.sub (.s 3) 600) 0)] = ⟨[(0, sD s9), (3, .c (.osl (.sub (.sub (.s 3) 600) 0) 0 nH)), (6, iD (s9.size : Int)), (7, iD z)], [(.sub (.sub (.s 3) 600) 0, (eR .u8 l8))]⟩) ⟨_, _, 0, _, [], _, rfl, rfl, (by decide), rfl, LN, h, rfl⟩ ?_
 rintro σ n ⟨f6, v7, _, l8, _, rfl, hf6, hpf6, rfl, rfl, h, hσ⟩
 refine kk hσ ?_
 intro tC (htC : tC = decide (v7 < (s9.size : Int)))
 cases tC
 obtain rfl := il_nil hf6 htC
 rw [f456_L2] at h
 conv => whnf
 exact ⟨l8, _, LN, ss h, rfl⟩
 obtain ⟨g5, rfl, hwg5, hpg5, hfg5⟩ := il_cons hf6 hpf6 htC hNK
 rw [f456_L2] at h
 conv => whnf
 refine ⟨rfl, Nat.le_of_ble_eq_true rfl, ?_⟩
 refine kg (sat_getB h) fun cL hcL h => ?_
 refine kL [] (h466 _ _ _ _ ?_ (sb h))
 rintro qM h
 cases qM
 replace h := cf h
 refine kg (sat_getB h) fun cI hcI h => ?_
 conv => whnf
 refine ⟨LN, rfl, ?_⟩
 conv => whnf
 refine ⟨rfl, ?_⟩
 refine kp h fun hbN h => ?_
 conv => whnf
 exact ⟨g5, nls, g5, v7 + 1, _, (l8 ++ ([(cI.toNat : Int)] : LI)), _, rfl, hfg5, hpg5, hwg5.symm, LN, h, rfl⟩
 replace h := ct h
 conv => whnf
 refine ⟨LN, rfl, ?_⟩
 conv => whnf
 refine ⟨rfl, ?_⟩
 refine kp h fun hbO h => ?_
 refine kg (sat_getB h) fun cJ hcJ h => ?_
 conv => whnf
 refine ⟨LN, rfl, ?_⟩
 conv => whnf
 refine ⟨rfl, ?_⟩
 refine kp h fun hbP h => ?_
 conv => whnf
 exact ⟨g5, nls, g5, v7 + 1, _, ((l8 ++ ([92] : LI)) ++ ([(cJ.toNat : Int)] : LI)), _, rfl, hfg5, hpg5, hwg5.symm, LN, h, rfl⟩
 rintro _ ⟨lB, _, rfl, h, rfl⟩
 replace h := bA _ h
 conv => whnf
 refine ⟨LN, ?_⟩
 conv => whnf
 refine ⟨lB, rfl, ?_⟩
 exact kR [] (ND 0) (hQ _ (ss h))
def f441 : V → Option (Tp)
 | .mk k5 n6 s7 f9 => cond (k5 == 0) (some (Tp.mk 0 (⟨#[]⟩ : BA) 0 0 (⟨#[]⟩ : BA) [])) (cond (k5 == 5) ((f456 s7).bind fun s8 => some (Tp.mk 5 (⟨#[]⟩ : BA) 0 0 s8 [])) (some (Tp.mk k5 (⟨#[]⟩ : BA) n6 n6 (⟨#[]⟩ : BA) [])))
def C441 (O : Oracle TT) (m : V → Option (Tp)) : Prop :=
 ∀ k5 n6 s7 f8 (Q : Tp → Prop) (R : RR) (_ : ∀ k9 mA loB hiC pF psG, Q (Tp.mk k9 mA loB hiC pF psG) → R (.agg [ci k9, .str mA, ci loB, ci hiC, .str pF, .isl .part psG]) []) (_ : sat (m (V.mk k5 n6 s7 f8)) Q), O 441 [.agg [ci k5, ci n6, .str s7, .isl .fld f8]] [] R
def j441 : Fn TT := ⟨21, [.cell 2 6 true], (sr [qo 1 (.box 1 0),qo 2 (.alloc 2 zTp)] (.seq (sr [qo 3 (.fa 1 0),qo 4 (ld 3)] (.block 0 (sr [qo 6 (.bin .eql .num 4 (iC 0)),qm 5 6] (.cond 5 (sr [qo 7 (.build zTp []),qp (.store 2 7 6)] .ret) (sr [qo 9 (.bin .eql .num 4 (iC 5)),qm 8 9] (.cond 8 (sr [qo 10 (.fa 1 2),
 qo 11 (ld 10),qo 12 (.call 12 456 [11]),qo 13 (.build zTp [((0, 1), (iC 5)), ((4, 1), 12)]),qp (.store 2 13 6)] .ret) .skip)))))) (sr [qo 14 (.fa 1 0),qo 15 (ld 14),qo 16 (.fa 1 1),qo 17 (ld 16),qo 18 (.fa 1 1),qo 19 (ld 18),qo 20 (.build zTp [((0, 1), 15), ((2, 1), 17), ((3, 1), 19)]),qp (.store 2 20 6)] .ret)))⟩
theorem w441 {O : Oracle TT} (h456 : C456 O f456) : C441 (fun _ => vcF (S := SS) O j441) f441 := by
 intro k5 n6 s7 f8 Q R hQ h
 unfold f441 at h
 refine ⟨nle rfl, rfl, ?_⟩
 refine kc h ?_ ?_ <;> intro h
 refine kc h ?_ ?_ <;> intro h
 exact kR [] (ND 0) (hQ _ _ _ _ _ _ (ss h))
 refine kL [] (h456 _ _ _ ?_ (sb h))
 rintro s9 h
 exact kR [] (ND 0) (hQ _ _ _ _ _ _ (ss h))
 exact kR [] (ND 0) (hQ _ _ _ _ _ _ (ss h))
def f448_L2 (fuel : Nat) (kA : Int) (mB : BA) (loC : Int) (hiF : Int) (pG : BA) (psH : PT) (kI : Int) (mJ : BA) (loK : Int) (hiM : Int) (pN : BA) (psO : PT) (l7 : PT) (lP : LI) : PT → Nat → Option (Sum (Ln × Tp × Bool × LI) (Unit))
 | [], j5 => some (.inr ())
 | ((aY, .mk kZ m00 lo01 hi02 p03 ps04)) :: tl05, j5 => sbind (ο := Int × BA × Int × Int × BA × PT) ((f63 l7 (Tp.mk kZ m00 lo01 hi02 p03 ps04)).bind fun (.mk k06 m07 lo08 hi09 p0A ps0B) => some (.inr (k06, m07, lo08, hi09, p0A, ps0B))) (fun (v6, s0C, v0D, v0E, s0F, l0G) => sbind (ο := Bool) (cond (v6 == 1) (some (.inr true)) (cond (v6 == 2) (some (.inr true)) (cond (v6 == 4) (some (.inr true)) (cond (v6 == 5) (some (.inr true)) (some (.inr false)))))) (fun q0H => cond q0H (sbind (ο := Int × Int × BA × FV × LI) ((f42 fuel l7 (Tp.mk v6 s0C v0D v0E s0F l0G) (0 : Int) lP).bind fun ((.mk k0I n0J s0K f0L), l0M) => some (.inr (k0I, n0J, s0K, f0L, l0M))) (fun (vQ, vU, sV, lW, l0N) => sbind (ο := Int × BA × Int × Int × BA × Int × BA × Int × Int × BA × PT × PT) ((f438 (Tp.mk kI mJ loK hiM pN psO)).bind fun (.mk k0O m0P lo0Q hi0R p0S ps0T) => (f438 (Tp.mk kA mB loC hiF pG psH)).bind fun (.mk k0U m0V lo0W hi0X p0Y ps0Z) => some (.inr (k0O, m0P, lo0Q, hi0R, p0S, k0U, m0V, lo0W, hi0X, p0Y, ps0T, ps0Z))) (fun (v10, s11, v12, v13, s14, v15, s17, v1L, v18, s19, l8, l9) => (f441 (V.mk vQ vU sV lW)).bind fun (.mk k1A m1B lo1C hi1D p1E ps1F) => grdP ((0 : Int) ≤ ((j5 : Nat) : Int) ∧ ((j5 : Nat) : Int) < ((l8.length : Nat) : Int)) (getN l8 (0 + ((j5 : Nat) : Int).toNat) fun uu1G => match uu1G with | (a1H, .mk k1M m1N lo1O hi1P p1Q ps1R) => sbind (ο := PT) (grdP ((0 : Int) ≤ 0 ∧ 0 < ((l9.length : Nat) : Int)) (getN l9 (0 + (0 : Int).toNat) fun uu1I => match uu1I with | (a1J, .mk k1S m1T lo1U hi1V p1W ps1X) => some (.inr (l9.set (0 + (0 : Int).toNat) (a1J, (Tp.mk v10 s11 v12 v13 s14 (l8.set (0 + ((j5 : Nat) : Int).toNat) (a1H, (Tp.mk k1A m1B lo1C hi1D p1E ps1F))))))))) (fun l1K => lft (some ((Ln.mk 15 aY (⟨#[]⟩ : BA) [] 0 0 0 0 (V.mk vQ vU sV lW) [] []), (Tp.mk v15 s17 0 v18 s19 l1K), true, l0N))))))) (f448_L2 fuel kA mB loC hiF pG psH kI mJ loK hiM pN psO l7 lP tl05 (j5 + 1))))
def f448 (fuel : Nat) : Tp → Tp → PT → LI → Option (Ln × Tp × Bool × LI)
 | .mk k5 m6 lo7 hi8 p9 psA, .mk kE mF loG hiH pI psB, lJ, lC => sbind (ο := Unit) (f448_L2 fuel k5 m6 lo7 hi8 p9 psA kE mF loG hiH pI psB lJ lC psB 0) (fun () => some ((Ln.mk 0 (⟨#[]⟩ : BA) (⟨#[]⟩ : BA) [] 0 0 0 0 (V.mk 0 0 (⟨#[]⟩ : BA) []) [] []), (Tp.mk k5 m6 lo7 hi8 p9 psA), false, lC))
def C448 (O : Oracle TT) (m : Tp → Tp → PT → LI → Option (Ln × Tp × Bool × LI)) : Prop :=
 ∀ k6 m7 lo8 hi9 pA psB kC mF loG hiH pI psJ l5 lK (Q : (Ln × Tp × Bool × LI) → Prop) (R : RR) (_ : ∀ opM nmN toO nsP nQ loU hiV sepW kY nZ s00 f01 prs02 ks03 k04 m05 lo06 hi07 p08 ps09 q0A l0B, Q ((Ln.mk opM nmN toO nsP nQ loU hiV sepW (V.mk kY nZ s00 f01) prs02 ks03), (Tp.mk k04 m05 lo06 hi07 p08 ps09), q0A, l0B) → R (.tup [.agg [ci opM, .str nmN, .str toO, .isl .str nsP, ci nQ, ci loU, ci hiV, .int .u8 sepW, ci kY, ci nZ, .str s00, .isl .fld f01, .isl .two prs02, .isl .lens ks03], .agg [ci k04, .str m05, ci lo06, ci hi07, .str p08, .isl .part ps09], bD q0A]) [eV (.x 0) [.isl .dfn l5, .ptr (.x 1) 0 0], eV (.x 1) [.isl .int l0B]]) (_ : sat (m (Tp.mk k6 m7 lo8 hi9 pA psB) (Tp.mk kC mF loG hiH pI psJ) l5 lK) Q), O 448 [pX 0, .agg [ci k6, .str m7, ci lo8, ci hi9, .str pA, .isl .part psB], .agg [ci kC, .str mF, ci loG, ci hiH, .str pI, .isl .part psJ]] [eV (.x 0) [.isl .dfn l5, .ptr (.x 1) 0 0], eV (.x 1) [.isl .int lK]] R
def j448 : Fn TT := ⟨83, [.cell 6 14 true, .cell 7 6 true, .t 8], (sr [qo 4 (.box 4 1),qo 5 (.box 5 2),qo 6 (.alloc 6 zLn),qo 7 (.alloc 7 zTp),qm 8 bF] (.cut [4, 6, 7] [(.s 4), (.s 6), (.s 7), (.x 0), (.x 1)] (sr [qo 15 (.fa 5 5),qo 16 (ld 15),qo 17 (.len false 16),qo 18 (.mv (iC 0))] (.block 0
 (.loop (.keep [0, 4, 5, 6, 7, 16, 17, 18] [(.x 0), (.s 4), (.s 5), (.s 6), (.s 7), (.x 1)] (.aft (sr [qo 19 (.bin .lss .num 18 17)] (.seq (.cond 19 .skip (.exit 0)) (.seq (.block 1 (sr [qm 20 18,qo 21 (.idxA 16 18 7),qo 22 (.load 21 7 true),qo 10 (.alloc 10 zPt),qm 9 20,qp (.store 10 22 7)]
 (.cut [0, 4, 5, 6, 7, 9, 10, 11, 16, 17, 18] [(.x 0), (.s 4), (.s 5), (.s 6), (.s 7), (.s 10), (.s 11), (.x 1)] (.drw [] (.go 0 (.go 1 (.go 2 (.go 3 (.go 4 (.go 5 (.alt 6 (.go 7 (.go 8 .nil)) 7 (.go 6 (.go 8 .nil))))))))) [8] [0, 1, 2, 3, 4, 5] [qm 23 0,qo 24 (.nilck 23),qo 25 (.fa 24 0),qo 26 (ld 25),qo 27 (.fa 10 1),qo 28 (.load 27 6 true),qo 29 (.call 29 63 [26, 28]),
 qo 11 (.alloc 11 zTp),qp (.store 11 29 6)]) (.cut [0, 4, 5, 6, 7, 9, 10, 11, 16, 17, 18, 47] [(.x 0), (.s 4), (.s 5), (.s 6), (.s 7), (.s 10), (.s 11), (.x 1)] (.reg [qo 30 (.fa 11 0),qo 31 (ld 30),qo 32 (.bin .eql .num 31 (iC 1)),qm 33 32,qf 33 34 (.fa 11 0),qf 33 35 (ld 34),qf 33 36 (.bin .eql .num 35 (iC 2)),qo 37 (.pick 33 bT 36),qm 38 37,
 qf 38 39 (.fa 11 0),qf 38 40 (ld 39),qf 38 41 (.bin .eql .num 40 (iC 4)),qo 42 (.pick 38 bT 41),qm 43 42,qf 43 44 (.fa 11 0),qf 43 45 (ld 44),qf 43 46 (.bin .eql .num 45 (iC 5)),qo 47 (.pick 43 bT 46)]) (.cond 47 (.cut [4, 5, 6, 7, 9, 10, 12] [(.s 4), (.s 5), (.s 6), (.s 7), (.s 10), (.s 12), (.x 0), (.x 1)]
 (.drw [(.x 1)] (.go 0 (.go 1 (.go 2 (.go 3 (.go 4 (.go 5 (.go 6 (.go 7 (.go 8 (.alt 9 (.go 10 (.go 11 .nil)) 10 (.go 9 (.go 11 .nil)))))))))))) [11] [0, 1, 2, 3, 4, 5, 6, 7, 8] [qm 48 0,qo 49 (.nilck 48),qo 50 (.fa 49 0),qo 51 (ld 50),qo 52 (.load 11 6 true),qm 53 0,qo 54 (.nilck 53),qo 55 (.fa 54 1),qo 56 (ld 55),qo 57 (.call 57 42 [51, 52, 56, (iC 0)]),
 qo 12 (.alloc 12 zV),qp (.store 12 57 4)]) (.cut [6, 7, 9, 10, 12, 13, 14] [(.s 6), (.s 7), (.s 10), (.s 12), (.s 13), (.s 14), (.x 0), (.x 1), (.sub (.s 59) 0), (.sub (.s 61) 0)]
 (.drw [(.s 13)] (.go 0 (.go 2 (.alt3 1 (.alt3 3 (.alt 4 (.go 5 (.go 6 (.go 7 .nil))) 5 (.go 4 (.go 6 (.go 7 .nil)))) 4 (.alt 3 (.go 5 (.go 6 (.go 7 .nil))) 5 (.go 3 (.go 6 (.go 7 .nil)))) 5 (.alt 3 (.go 4 (.go 6 (.go 7 .nil))) 4 (.go 3 (.go 6 (.go 7 .nil))))) 4 (.alt 1 (.alt 3 (.go 5 (.go 6 (.go 7 .nil))) 5 (.go 3 (.go 6 (.go 7 .nil)))) 5 (.go 1 (.go 3 (.go 6 (.go 7 .nil))))) 5 (.alt 1 (.alt 3 (.go 4 (.go 6 (.go 7 .nil))) 4 (.go 3 (.go 6 (.go 7 .nil)))) 4 (.go 1 (.go 3 (.go 6 (.go 7 .nil)))))))) [7] [0, 2] [qo 58 (.load 5 6 true),
 qo 59 (.call 59 438 [58]),qo 60 (.load 4 6 true),qo 61 (.call 61 438 [60]),qo 13 (.alloc 13 zTp),qo 14 (.alloc 14 zTp),qp (.store 13 59 6),qp (.store 14 61 6)]) (.seq (.drw [] (oR 8) [7] [0, 1, 2, 3, 5, 6] [qo 62 (.fa 13 5),qo 63 (ld 62),qm 64 9,qo 65 (.load 12 4 true),qo 66 (.call 66 441 [65]),qo 67 (.idxA 63 64 7),qo 68 (.fa 67 1),qp (.store 68 66 6)])
 (.cut [6, 7, 10, 12, 14] [(.s 6), (.s 7), (.s 10), (.s 12), (.s 14), (.x 0), (.x 1), (.sub (.s 61) 0)] (.pre [.frz 63 0 .part, .frzc (.s 13) 5 .part] (.drw [] (.go 0 (.go 1 (.go 3 (.alt 2 (.go 4 (.go 5 (.go 6 (.go 7 .nil)))) 4 (.go 2 (.go 5 (.go 6 (.go 7 .nil)))))))) [4, 7] [0, 1, 3, 5, 6] [qo 69 (.fa 14 5),qo 70 (ld 69),qo 71 (.load 13 6 true),qo 72 (.fa 14 2),
 qp (.store 72 (iC 0) 1),qo 73 (.idxA 70 (iC 0) 7),qo 74 (.fa 73 1),qp (.store 74 71 6)])) (.seq (.drw [(.s 6)] (oR 8) [6] [0, 1, 2, 3, 4, 7] [qo 75 (.fa 10 0),qo 76 (ld 75),qo 77 (.load 12 4 true),qo 78 (.build zLn [((0, 1), (iC 15)), ((1, 1), 76), ((8, 4), 77)]),qo 79 (.load 14 6 true),qp (.store 6 78 14),qp (.store 7 79 6),qm 8 bT]) (.pre [.frzc (.s 7) 5 .part]
 .ret)))))) .skip))))) (.reg [qo 80 (.bin .add .num 18 (iC 1)),qm 18 80])))) [.keep [0, 4, 5, 6, 7, 16, 17, 18] [(.x 0), (.s 4), (.s 5), (.s 6), (.s 7), (.x 1)]]))))) (.seq (.drw [(.s 6)] (oR 5) [3] [0, 1, 4] [qo 81 (.build zLn []),qo 82 (.load 4 6 true),qp (.store 6 81 14),qp (.store 7 82 6),qm 8 bF]) .ret)))⟩
theorem w448 {O : Oracle TT} (fuel : Nat) (h42 : C42 O (f42 fuel)) (h63 : C63 O f63) (h438 : C438 O f438) (h441 : C441 O f441) : C448 (fun _ => vcF (S := SS) O j448) (f448 fuel) := by
 intro kJ mK loM hiN pO psP k02 m03 lo04 hi05 p06 ps6 l8 l07 Q R hQ h
 unfold f448 at h
 refine ⟨nle rfl, rfl, ?_⟩
 obtain ⟨RQ, h, aQ, bQ⟩ := sc h
 refine kX (fun σ => RQ (.inr ()) ∧ σ = ⟨[pT 4, pT 6, pT 7], [eV (.s 4) [ci kJ, .str mK, ci loM, ci hiN, .str pO, .isl .part psP], eV (.s 6) zLn, eV (.s 7) zTp, eV (.x 0) [.isl .dfn l8, .ptr (.x 1) 0 0], eV (.x 1) [.isl .int l07]]⟩) ?_ ?_
 intro hl24
 refine kX (fun σ n => ∃ (remA : PT) (j5 : Nat) (z : Int), n = remA.length ∧ ps6.drop j5 = remA ∧ z = ((j5 : Nat) : Int) ∧ sat (f448_L2 fuel kJ mK loM hiN pO psP k02 m03 lo04 hi05 p06 ps6 l8 l07 remA j5) RQ ∧ σ.keep [0, 4, 5, 6, 7, 16, 17, 18] [(.x 0), (.s 4), (.s 5), (.s 6), (.s 7), (.x 1)] = ⟨[(0, pX 0), pT 4, pT 5, pT 6, pT 7, (16, .c (.isl .part ps6)), (17, iD ((ps6.length : Nat) : Int)), (18, iD z)], [eV (.x 0) [.isl .dfn l8, .ptr (.x 1) 0 0], eV (.s 4) [ci kJ, .str mK, ci loM, ci hiN, .str pO, .isl .part psP], eV (.s 5) [ci k02, .str m03, ci lo04, ci hi05, .str p06, .isl .part ps6], eV (.s 6) zLn, eV (.s 7) zTp, eV (.x 1) [.isl .int l07]]⟩) ⟨_, ps6, 0, _, rfl, rfl, rfl, h, rfl⟩ ?_
 rintro σ n ⟨remA, j5, _, rfl, hremA, rfl, h, hσ⟩
 refine kk hσ ?_
 intro t08 (ht08 : t08 = decide (((j5 : Nat) : Int) < ((ps6.length : Nat) : Int)))
 cases t08
 obtain rfl := ll_nil hremA ht08
 rw [f448_L2] at h
 conv => whnf
 exact ⟨ss h, rfl⟩
 obtain ⟨x09, tl0T, rfl, hx09, htl0T⟩ := ll_cons hremA ht08
 obtain ⟨a0A, ⟨k0B, m0C, lo0D, hi0E, p0F, ps0G⟩⟩ := x09
 rw [f448_L2] at h
 conv => whnf
 refine ⟨lx_bd hx09, fun uu1D huu1D => ?_⟩
 obtain rfl := lx_eq hx09 huu1D
 obtain ⟨R0U, h, a0U, b0U⟩ := sc h
 refine kX (fun σ => ∃ v0V s0W v0X v0Y s0Z l10, R0U (.inr (v0V, s0W, v0X, v0Y, s0Z, l10)) ∧ σ = ⟨[(0, pX 0), pT 4, pT 5, pT 6, pT 7, (9, iD ((j5 : Nat) : Int)), pT 10, pT 11, (16, .c (.isl .part ps6)), (17, iD ((ps6.length : Nat) : Int)), (18, iD ((j5 : Nat) : Int))], [eV (.x 0) [.isl .dfn l8, .ptr (.x 1) 0 0], eV (.s 4) [ci kJ, .str mK, ci loM, ci hiN, .str pO, .isl .part psP], eV (.s 5) [ci k02, .str m03, ci lo04, ci hi05, .str p06, .isl .part ps6], eV (.s 6) zLn, eV (.s 7) zTp, eV (.s 10) [.str a0A, ci k0B, .str m0C, ci lo0D, ci hi0E, .str p0F, .isl .part ps0G], eV (.s 11) [ci v0V, .str s0W, ci v0X, ci v0Y, .str s0Z, .isl .part l10], eV (.x 1) [.isl .int l07]]⟩) ?_ ?_
 conv => whnf
 refine ⟨?_, ?_⟩
 refine kL [] (h63 _ _ _ _ _ _ _ _ _ ?_ (sb h))
 rintro k25 m26 lo27 hi28 p29 ps2A h
 conv => whnf
 exact ⟨k25, m26, lo27, hi28, p29, ps2A, ss h, rfl⟩
 refine kL [] (h63 _ _ _ _ _ _ _ _ _ ?_ (sb h))
 rintro k2B m2C lo2D hi2E p2F ps2G h
 conv => whnf
 exact ⟨k2B, m2C, lo2D, hi2E, p2F, ps2G, ss h, rfl⟩
 rintro _ ⟨v0V, s0W, v0X, v0Y, s0Z, l10, h, rfl⟩
 replace h := b0U _ h
 obtain ⟨R11, h, a11, b11⟩ := sc h
 refine kX (fun σ => ∃ q12, R11 (.inr q12) ∧ σ = ⟨[(0, pX 0), pT 4, pT 5, pT 6, pT 7, (9, iD ((j5 : Nat) : Int)), pT 10, pT 11, (16, .c (.isl .part ps6)), (17, iD ((ps6.length : Nat) : Int)), (18, iD ((j5 : Nat) : Int)), (47, bD q12)], [eV (.x 0) [.isl .dfn l8, .ptr (.x 1) 0 0], eV (.s 4) [ci kJ, .str mK, ci loM, ci hiN, .str pO, .isl .part psP], eV (.s 5) [ci k02, .str m03, ci lo04, ci hi05, .str p06, .isl .part ps6], eV (.s 6) zLn, eV (.s 7) zTp, eV (.s 10) [.str a0A, ci k0B, .str m0C, ci lo0D, ci hi0E, .str p0F, .isl .part ps0G], eV (.s 11) [ci v0V, .str s0W, ci v0X, ci v0Y, .str s0Z, .isl .part l10], eV (.x 1) [.isl .int l07]]⟩) ?_ ?_
 refine kc h ?_ ?_ <;> intro h
 refine kc h ?_ ?_ <;> intro h
 refine kc h ?_ ?_ <;> intro h
 refine kc h ?_ ?_ <;> intro h
 conv => whnf
 exact ⟨false, ss h, rfl⟩
 conv => whnf
 exact ⟨true, ss h, rfl⟩
 conv => whnf
 exact ⟨true, ss h, rfl⟩
 conv => whnf
 exact ⟨true, ss h, rfl⟩
 conv => whnf
 exact ⟨true, ss h, rfl⟩
 rintro _ ⟨q12, h, rfl⟩
 replace h := b11 _ h
 cases q12
 replace h := cf h
 conv => whnf
 exact ⟨tl0T.length, nls, tl0T, j5 + 1, _, rfl, htl0T, lx_wr hx09 hl24, h, rfl⟩
 replace h := ct h
 obtain ⟨R13, h, a13, b13⟩ := sc h
 refine kX (fun σ => ∃ v0H v0I s0J l0K l0L, R13 (.inr (v0H, v0I, s0J, l0K, l0L)) ∧ σ = ⟨[pT 4, pT 5, pT 6, pT 7, (9, iD ((j5 : Nat) : Int)), pT 10, pT 12], [eV (.s 4) [ci kJ, .str mK, ci loM, ci hiN, .str pO, .isl .part psP], eV (.s 5) [ci k02, .str m03, ci lo04, ci hi05, .str p06, .isl .part ps6], eV (.s 6) zLn, eV (.s 7) zTp, eV (.s 10) [.str a0A, ci k0B, .str m0C, ci lo0D, ci hi0E, .str p0F, .isl .part ps0G], eV (.s 12) [ci v0H, ci v0I, .str s0J, .isl .fld l0K], eV (.x 0) [.isl .dfn l8, .ptr (.x 1) 0 0], eV (.x 1) [.isl .int l0L]]⟩) ?_ ?_
 conv => whnf
 refine ⟨?_, ?_⟩
 refine kL [(.x 1)] (h42 _ _ _ _ _ _ _ _ _ _ _ ?_ (sb h))
 rintro k2H n2I s2J f2K l2L h
 conv => whnf
 exact ⟨k2H, n2I, s2J, f2K, l2L, ss h, rfl⟩
 refine kL [(.x 1)] (h42 _ _ _ _ _ _ _ _ _ _ _ ?_ (sb h))
 rintro k2M n2N s2O f2P l2Q h
 conv => whnf
 exact ⟨k2M, n2N, s2O, f2P, l2Q, ss h, rfl⟩
 rintro _ ⟨v0H, v0I, s0J, l0K, l0L, h, rfl⟩
 replace h := b13 _ h
 obtain ⟨R14, h, a14, b14⟩ := sc h
 refine kX (fun σ => ∃ (vB : Int) (sC : BA) (vG : Int) (vH : Int) (sI : BA) (v15 : Int) (s17 : BA) (v1C : Int) (v18 : Int) (s19 : BA) (l9 : PT) (lU : PT) (n1E : Nat) (n1F : Nat), n1E = l9.length ∧ n1F = lU.length ∧ R14 (.inr (vB, sC, vG, vH, sI, v15, s17, v1C, v18, s19, l9, lU)) ∧ σ = ⟨[pT 6, pT 7, (9, iD ((j5 : Nat) : Int)), pT 10, pT 12, pT 13, pT 14], [eV (.s 6) zLn, eV (.s 7) zTp, eV (.s 10) [.str a0A, ci k0B, .str m0C, ci lo0D, ci hi0E, .str p0F, .isl .part ps0G], eV (.s 12) [ci v0H, ci v0I, .str s0J, .isl .fld l0K], eV (.s 13) [ci vB, .str sC, ci vG, ci vH, .str sI, .osl (.sub (.s 59) 0) 0 n1E], eV (.s 14) [ci v15, .str s17, ci v1C, ci v18, .str s19, .osl (.sub (.s 61) 0) 0 n1F], eV (.x 0) [.isl .dfn l8, .ptr (.x 1) 0 0], eV (.x 1) [.isl .int l0L], (.sub (.s 59) 0, (eR .part l9)), (.sub (.s 61) 0, (eR .part lU))]⟩) ?_ ?_
 conv => whnf
 refine ⟨?_, ?_, ?_⟩
 refine kL [] (h438 _ _ _ _ _ _ _ _ ?_ (sb h))
 rintro kV mW loY hiZ p00 ps01 _ rfl h
 conv => whnf
 refine ⟨?_, ?_, ?_⟩
 refine kL [] (h438 _ _ _ _ _ _ _ _ ?_ (sb h))
 rintro k1G m1H lo1I hi1J p1K ps1L _ rfl h
 conv => whnf
 refine ⟨?_, ?_⟩
 conv => whnf
 exact ⟨kV, mW, loY, hiZ, p00, k1G, m1H, lo1I, hi1J, p1K, ps01, ps1L, _, _, LN, LN, ss h, rfl⟩
 conv => whnf
 exact ⟨kV, mW, loY, hiZ, p00, k1G, m1H, lo1I, hi1J, p1K, ps01, ps1L, _, _, LN, LN, ss h, rfl⟩
 conv => whnf
 refine ⟨?_, ?_⟩
 refine kL [] (h438 _ _ _ _ _ _ _ _ ?_ (sb h))
 rintro k2R m2S lo2T hi2U p2V ps2W _ rfl h
 conv => whnf
 exact ⟨kV, mW, loY, hiZ, p00, k2R, m2S, lo2T, hi2U, p2V, ps01, ps2W, _, _, LN, LN, ss h, rfl⟩
 refine kL [] (h438 _ _ _ _ _ _ _ _ ?_ (sb h))
 rintro k2X m2Y lo2Z hi30 p31 ps32 _ rfl h
 conv => whnf
 exact ⟨kV, mW, loY, hiZ, p00, k2X, m2Y, lo2Z, hi30, p31, ps01, ps32, _, _, LN, LN, ss h, rfl⟩
 conv => whnf
 refine ⟨?_, ?_⟩
 refine kL [] (h438 _ _ _ _ _ _ _ _ ?_ (sb h))
 rintro k33 m34 lo35 hi36 p37 ps38 _ rfl h
 conv => whnf
 exact ⟨kV, mW, loY, hiZ, p00, k33, m34, lo35, hi36, p37, ps01, ps38, _, _, LN, LN, ss h, rfl⟩
 refine kL [] (h438 _ _ _ _ _ _ _ _ ?_ (sb h))
 rintro k39 m3A lo3B hi3C p3D ps3E _ rfl h
 conv => whnf
 exact ⟨kV, mW, loY, hiZ, p00, k39, m3A, lo3B, hi3C, p3D, ps01, ps3E, _, _, LN, LN, ss h, rfl⟩
 conv => whnf
 refine ⟨?_, ?_⟩
 refine kL [] (h438 _ _ _ _ _ _ _ _ ?_ (sb h))
 rintro k1M m1N lo1O hi1P p1Q ps1R _ rfl h
 conv => whnf
 refine ⟨?_, ?_⟩
 refine kL [] (h438 _ _ _ _ _ _ _ _ ?_ (sb h))
 rintro k3F m3G lo3H hi3I p3J ps3K _ rfl h
 conv => whnf
 exact ⟨k1M, m1N, lo1O, hi1P, p1Q, k3F, m3G, lo3H, hi3I, p3J, ps1R, ps3K, _, _, LN, LN, ss h, rfl⟩
 refine kL [] (h438 _ _ _ _ _ _ _ _ ?_ (sb h))
 rintro k3L m3M lo3N hi3O p3P ps3Q _ rfl h
 conv => whnf
 exact ⟨k1M, m1N, lo1O, hi1P, p1Q, k3L, m3M, lo3N, hi3O, p3P, ps1R, ps3Q, _, _, LN, LN, ss h, rfl⟩
 refine kL [] (h438 _ _ _ _ _ _ _ _ ?_ (sb h))
 rintro k3R m3S lo3T hi3U p3V ps3W _ rfl h
 refine kL [] (h438 _ _ _ _ _ _ _ _ ?_ (sb h))
 rintro k3X m3Y lo3Z hi40 p41 ps42 _ rfl h
 conv => whnf
 exact ⟨k3R, m3S, lo3T, hi3U, p3V, k3X, m3Y, lo3Z, hi40, p41, ps3W, ps42, _, _, LN, LN, ss h, rfl⟩
 conv => whnf
 refine ⟨?_, ?_⟩
 refine kL [] (h438 _ _ _ _ _ _ _ _ ?_ (sb h))
 rintro k1S m1T lo1U hi1V p1W ps1X _ rfl h
 conv => whnf
 refine ⟨?_, ?_⟩
 refine kL [] (h438 _ _ _ _ _ _ _ _ ?_ (sb h))
 rintro k43 m44 lo45 hi46 p47 ps48 _ rfl h
 conv => whnf
 exact ⟨k1S, m1T, lo1U, hi1V, p1W, k43, m44, lo45, hi46, p47, ps1X, ps48, _, _, LN, LN, ss h, rfl⟩
 refine kL [] (h438 _ _ _ _ _ _ _ _ ?_ (sb h))
 rintro k49 m4A lo4B hi4C p4D ps4E _ rfl h
 conv => whnf
 exact ⟨k1S, m1T, lo1U, hi1V, p1W, k49, m4A, lo4B, hi4C, p4D, ps1X, ps4E, _, _, LN, LN, ss h, rfl⟩
 refine kL [] (h438 _ _ _ _ _ _ _ _ ?_ (sb h))
 rintro k4F m4G lo4H hi4I p4J ps4K _ rfl h
 refine kL [] (h438 _ _ _ _ _ _ _ _ ?_ (sb h))
 rintro k4L m4M lo4N hi4O p4P ps4Q _ rfl h
 conv => whnf
 exact ⟨k4F, m4G, lo4H, hi4I, p4J, k4L, m4M, lo4N, hi4O, p4P, ps4K, ps4Q, _, _, LN, LN, ss h, rfl⟩
 rintro _ ⟨vB, sC, vG, vH, sI, v15, s17, v1C, v18, s19, l9, lU, _, _, rfl, rfl, h, rfl⟩
 replace h := b14 _ h
 refine kL [] (h441 _ _ _ _ _ _ ?_ (sb h))
 rintro k0M m0N lo0O hi0P p0Q ps0R h
 refine kp h fun hb4R h => ?_
 refine kg (sat_getN h) fun uu1Y huu1Y h => ?_
 obtain ⟨a0S, ⟨k4S, m4T, lo4U, hi4V, p4W, ps4X⟩⟩ := uu1Y
 refine ⟨(a0S, (Tp.mk k0M m0N lo0O hi0P p0Q ps0R)), rfl, ?_⟩
 obtain ⟨R1A, h, a1A, b1A⟩ := sc h
 refine kX (fun σ => ∃ (l1B : PT) (n1Z : Nat), n1Z = l1B.length ∧ R1A (.inr l1B) ∧ σ = ⟨[pT 6, pT 7, pT 10, pT 12, pT 14], [eV (.s 6) zLn, eV (.s 7) zTp, eV (.s 10) [.str a0A, ci k0B, .str m0C, ci lo0D, ci hi0E, .str p0F, .isl .part ps0G], eV (.s 12) [ci v0H, ci v0I, .str s0J, .isl .fld l0K], eV (.s 14) [ci v15, .str s17, ci 0, ci v18, .str s19, .osl (.sub (.s 61) 0) 0 n1Z], eV (.x 0) [.isl .dfn l8, .ptr (.x 1) 0 0], eV (.x 1) [.isl .int l0L], (.sub (.s 61) 0, (eR .part l1B))]⟩) ?_ ?_
 conv => whnf
 refine ⟨LN, ?_⟩
 conv => whnf
 refine ⟨LN, ?_⟩
 conv => whnf
 refine ⟨?_, ?_⟩
 refine kp h fun hb4Y h => ?_
 refine kg (sat_getN h) fun uu20 huu20 h => ?_
 obtain ⟨a21, ⟨k4Z, m50, lo51, hi52, p53, ps54⟩⟩ := uu20
 refine ⟨(a21, (Tp.mk vB sC vG vH sI (l9.set (0 + ((j5 : Nat) : Int).toNat) (a0S, (Tp.mk k0M m0N lo0O hi0P p0Q ps0R))))), rfl, ?_⟩
 conv => whnf
 exact ⟨(lU.set (0 + (0 : Int).toNat) (a21, (Tp.mk vB sC vG vH sI (l9.set (0 + ((j5 : Nat) : Int).toNat) (a0S, (Tp.mk k0M m0N lo0O hi0P p0Q ps0R)))))), _, LN, ss h, rfl⟩
 refine kp h fun hb55 h => ?_
 refine kg (sat_getN h) fun uu22 huu22 h => ?_
 obtain ⟨a23, ⟨k56, m57, lo58, hi59, p5A, ps5B⟩⟩ := uu22
 refine ⟨(a23, (Tp.mk vB sC vG vH sI (l9.set (0 + ((j5 : Nat) : Int).toNat) (a0S, (Tp.mk k0M m0N lo0O hi0P p0Q ps0R))))), rfl, ?_⟩
 conv => whnf
 exact ⟨(lU.set (0 + (0 : Int).toNat) (a23, (Tp.mk vB sC vG vH sI (l9.set (0 + ((j5 : Nat) : Int).toNat) (a0S, (Tp.mk k0M m0N lo0O hi0P p0Q ps0R)))))), _, LN, ss h, rfl⟩
 rintro _ ⟨l1B, _, rfl, h, rfl⟩
 replace h := b1A _ h
 conv => whnf
 refine ⟨LN, ?_⟩
 replace h := sat_lft aQ h
 exact kR [] (ND 2) (hQ _ _ _ _ _ _ _ _ _ _ _ _ _ _ _ _ _ _ _ _ _ _ (ss h))
 rintro _ ⟨h, rfl⟩
 replace h := bQ _ h
 exact kR [] (ND 2) (hQ _ _ _ _ _ _ _ _ _ _ _ _ _ _ _ _ _ _ _ _ _ _ (ss h))
def f465 : (BA × Tp) → BA → Option (Bool)
 | (a5, .mk k7 m8 lo9 hiA pB psC), s6 => cond (a5.toList == s6.toList) (some true) (some false)
def C465 (O : Oracle TT) (m : (BA × Tp) → BA → Option (Bool)) : Prop :=
 ∀ a6 k7 m8 lo9 hiA pB psC s5 (Q : Bool → Prop) (R : RR) (_ : ∀ qF, Q qF → R (bD qF) [eV (.x 0) [.str s5]]) (_ : sat (m (a6, (Tp.mk k7 m8 lo9 hiA pB psC)) s5) Q), O 465 [.agg [.str a6, ci k7, .str m8, ci lo9, ci hiA, .str pB, .isl .part psC], pX 0] [eV (.x 0) [.str s5]] R
def j465 : Fn TT := ⟨8, [.t 3], (sr [qo 2 (.box 2 0),qm 3 bF] (sr [qo 4 (.fa 2 0),qo 5 (ld 4),qo 6 (ld 1),qo 7 (.bin .eql .str 5 6),qm 3 7] .ret))⟩
theorem w465 {O : Oracle TT} : C465 (fun _ => vcF (S := SS) O j465) f465 := by
 intro a5 k6 m7 lo8 hi9 pA psB sC Q R hQ h
 unfold f465 at h
 refine ⟨nle rfl, rfl, ?_⟩
 refine kc h ?_ ?_ <;> intro h
 exact kR [] (ND 1) (hQ _ (ss h))
 exact kR [] (ND 1) (hQ _ (ss h))
def f175a_L2 (s6 : BA) : PT → Nat → Option (Sum (Int) (Unit))
 | [], j5 => some (.inr ())
 | ((a7, .mk k8 m9 loA hiB pC psF)) :: tlG, j5 => (f465 (a7, (Tp.mk k8 m9 loA hiB pC psF)) s6).bind fun qH => cond qH (lft (some ((j5 : Nat) : Int))) (f175a_L2 s6 tlG (j5 + 1))
def f175a : PT → BA → Option (Int)
 | l3, s4 => sbind (ο := Unit) (f175a_L2 s4 l3 0) (fun () => some (-1))
def C175a (O : Oracle TT) (m : PT → BA → Option (Int)) : Prop :=
 ∀ l6 s5 (Q : Int → Prop) (R : RR) (_ : ∀ v7, Q v7 → R (iD v7) [eV (.x 0) [.str s5]]) (_ : sat (m l6 s5) Q), O 175 [.c (.isl .part l6), .c (.fn 465 [(.x 0)])] [eV (.x 0) [.str s5]] R
def j175a : Fn TT := ⟨19, [.t 4], (sr [qo 4 (.mv (iC 0))] (.cut [] [(.x 0)] (sr [qm 6 0,qo 7 (.len false 6),qo 8 (.mv (iC 0))] (.block 0 (.loop (.keep [0, 1, 7, 8] [(.x 0)] (.aft (sr [qo 9 (.bin .lss .num 8 7)] (.seq (.cond 9 .skip (.exit 0)) (.seq (.block 1 (sr [qm 10 8,qm 5 10] (sr [qm 11 1,qm 12 0,
 qm 13 5,qo 14 (.idxA 12 13 7),qo 15 (.load 14 7 true),qo 16 (.callv 16 11 [15])] (.cond 16 (sr [qm 17 5,qm 4 17] .ret) .skip)))) (.reg [qo 18 (.bin .add .num 8 (iC 1)),qm 8 18])))) [.keep [0, 1, 7, 8] [(.x 0)]]))))) (sr [qo 4 (.mv (iC (-1)))] .ret)))⟩
theorem w175a {O : Oracle TT} (h465 : C465 O f465) : C175a (fun _ => vcF (S := SS) O j175a) f175a := by
 intro l9 sG Q R hQ h
 unfold f175a at h
 refine ⟨nle rfl, rfl, ?_⟩
 obtain ⟨R6, h, a6, b6⟩ := sc h
 refine kX (fun σ => R6 (.inr ()) ∧ σ = ⟨[], [eV (.x 0) [.str sG]]⟩) ?_ ?_
 intro hlI
 refine kX (fun σ n => ∃ (rem5 : PT) (j8 : Nat) (z : Int), n = rem5.length ∧ l9.drop j8 = rem5 ∧ z = ((j8 : Nat) : Int) ∧ sat (f175a_L2 sG rem5 j8) R6 ∧ σ.keep [0, 1, 7, 8] [(.x 0)] = ⟨[(0, .c (.isl .part l9)), (1, .c (.fn 465 [(.x 0)])), (7, iD ((l9.length : Nat) : Int)), (8, iD z)], [eV (.x 0) [.str sG]]⟩) ⟨_, l9, 0, _, rfl, rfl, rfl, h, rfl⟩ ?_
 rintro σ n ⟨rem5, j8, _, rfl, hrem5, rfl, h, hσ⟩
 refine kk hσ ?_
 intro tA (htA : tA = decide (((j8 : Nat) : Int) < ((l9.length : Nat) : Int)))
 cases tA
 obtain rfl := ll_nil hrem5 htA
 rw [f175a_L2] at h
 conv => whnf
 exact ⟨ss h, rfl⟩
 obtain ⟨xB, tlC, rfl, hxB, htlC⟩ := ll_cons hrem5 htA
 obtain ⟨aK, ⟨kM, mN, loO, hiP, pQ, psU⟩⟩ := xB
 rw [f175a_L2] at h
 conv => whnf
 refine ⟨lx_bd hxB, fun uuH huuH => ?_⟩
 obtain rfl := lx_eq hxB huuH
 refine kL [(.x 0)] (h465 _ _ _ _ _ _ _ _ _ _ ?_ (sb h))
 rintro qJ h
 cases qJ
 replace h := cf h
 conv => whnf
 exact ⟨tlC.length, nls, tlC, j8 + 1, _, rfl, htlC, lx_wr hxB hlI, h, rfl⟩
 replace h := ct h
 replace h := sat_lft a6 h
 exact kR [] (ND 1) (hQ _ (ss h))
 rintro _ ⟨h, rfl⟩
 replace h := b6 _ h
 exact kR [] (ND 1) (hQ _ (ss h))
def f455 : Tp → BA → Option (Int)
 | .mk k8 m9 loA hiB pC ps5, s6 => (f175a ps5 s6).bind fun v7 => some v7
def C455 (O : Oracle TT) (m : Tp → BA → Option (Int)) : Prop :=
 ∀ k5 m6 lo7 hi8 p9 psA sB (Q : Int → Prop) (R : RR) (_ : ∀ vC, Q vC → R (iD vC) []) (_ : sat (m (Tp.mk k5 m6 lo7 hi8 p9 psA) sB) Q), O 455 [.agg [ci k5, .str m6, ci lo7, ci hi8, .str p9, .isl .part psA], sD sB] [] R
def j455 : Fn TT := ⟨9, [.t 4], (sr [qo 2 (.box 2 0),qo 3 (.box 3 1),qo 4 (.mv (iC 0))] (sr [qo 5 (.fa 2 5),qo 6 (ld 5),qo 7 (.mkf 465 [3]),qo 8 (.call 8 175 [6, 7]),qm 4 8] .ret))⟩
theorem w455 {O : Oracle TT} (h175a : C175a O f175a) : C455 (fun _ => vcF (S := SS) O j455) f455 := by
 intro k5 m6 lo7 hi8 p9 psA sB Q R hQ h
 unfold f455 at h
 refine ⟨nle rfl, rfl, ?_⟩
 refine kL [(.s 3)] (h175a _ _ _ _ ?_ (sb h))
 rintro vC h
 exact kR [] (ND 0) (hQ _ (ss h))
def f440_L2 (k7 : Int) (m8 : BA) (lo9 : Int) (hiA : Int) (pB : BA) (psC : PT) (v6 : Int) (lE : LI) : Nat → Int → Option (Sum (BA × LI) (Unit))
 | 0, v5 => some (.inr ())
 | gF + 1, v5 => grdP ((((⟨#[110]⟩ : BA).size + (strOfNums ([(wrap .u8 ((97 : Int) + (wrap .u8 (Int.tmod (wrap .i64 (v6 + v5)) 26))))] : LI)).size : Nat) : Int) ≤ 9223372036854775807) ((f455 (Tp.mk k7 m8 lo9 hiA pB psC) ((⟨#[110]⟩ : BA) ++ (strOfNums ([(wrap .u8 ((97 : Int) + (wrap .u8 (Int.tmod (wrap .i64 (v6 + v5)) 26))))] : LI)))).bind fun vG => cond (decide (vG < 0)) (lft (some (((⟨#[110]⟩ : BA) ++ (strOfNums ([(wrap .u8 ((97 : Int) + (wrap .u8 (Int.tmod (wrap .i64 (v6 + v5)) 26))))] : LI))), lE))) (f440_L2 k7 m8 lo9 hiA pB psC v6 lE gF (v5 + 1)))
def f440 : Tp → PT → LI → Option (BA × LI)
 | .mk k6 m7 lo8 hi9 pA psB, lF, lC => (f15 (26 : Int) lC).bind fun (vE, l5) => sbind (ο := Unit) (grdP ((26 : Int) ≤ 9223372036854775807) (f440_L2 k6 m7 lo8 hi9 pA psB vE l5 ((26 : Int) - 0).toNat 0)) (fun () => some ((⟨#[120]⟩ : BA), l5))
def C440 (O : Oracle TT) (m : Tp → PT → LI → Option (BA × LI)) : Prop :=
 ∀ k6 m7 lo8 hi9 pA psB l5 lC (Q : (BA × LI) → Prop) (R : RR) (_ : ∀ sF lG, Q (sF, lG) → R (sD sF) [eV (.x 0) [.isl .dfn l5, .ptr (.x 1) 0 0], eV (.x 1) [.isl .int lG]]) (_ : sat (m (Tp.mk k6 m7 lo8 hi9 pA psB) l5 lC) Q), O 440 [pX 0, .agg [ci k6, .str m7, ci lo8, ci hi9, .str pA, .isl .part psB]] [eV (.x 0) [.isl .dfn l5, .ptr (.x 1) 0 0], eV (.x 1) [.isl .int lC]] R
def j440 : Fn TT := ⟨31, [.t 4], (sr [qo 3 (.box 3 1),qm 4 sE] (sr [qm 8 0,qo 9 (.nilck 8),qo 10 (.fa 9 1),qo 11 (ld 10),qo 12 (.call 12 15 [11, (iC 26)]),qm 5 12] (.cut [] [(.x 0), (.x 1)] (sr [qo 13 (.mv (iC 0))] (.block 0 (.loop (.keep [3, 5, 13] [(.s 3), (.x 0), (.x 1)] (.aft (sr [qo 14 (.bin .lss .num 13 (iC 26))]
 (.seq (.cond 14 .skip (.exit 0)) (.seq (.block 1 (sr [qm 15 13,qm 6 15] (sr [qm 16 5,qm 17 6,qo 18 (.bin .add .num 16 17),qo 19 (.bin .rem .num 18 (iC 26)),qo 20 (.conv .u8 19),qo 21 (.bin .add .num (.c (.int .u8 97)) 20),qo 22 (.bsl .u8 [21]),qo 23 (.b2s 22),qo 24 (.bin .add .str (.c (.str (⟨#[110]⟩ : BA))) 23),qm 7 24] (.seq
 (.reg [qo 25 (.load 3 6 true),qm 26 7,qo 27 (.call 27 455 [25, 26]),qo 28 (.bin .lss .num 27 (iC 0))]) (.cond 28 (sr [qm 29 7,qm 4 29] .ret) .skip))))) (.reg [qo 30 (.bin .add .num 13 (iC 1)),qm 13 30])))) [.keep [3, 5, 13] [(.s 3), (.x 0), (.x 1)]]))))) (sr [qo 4 (.mv (.c (.str (⟨#[120]⟩ : BA))))] .ret))))⟩
theorem w440 {O : Oracle TT} (h15 : C15 O f15) (h455 : C455 O f455) : C440 (fun _ => vcF (S := SS) O j440) f440 := by
 intro kC mE loG hiH pI psJ lK lN Q R hQ h
 unfold f440 at h
 refine ⟨nle rfl, rfl, ?_⟩
 refine kL [(.x 1)] (h15 _ _ _ _ ?_ (sb h))
 rintro vA lB h
 obtain ⟨R8, h, a8, b8⟩ := sc h
 refine kX (fun σ => R8 (.inr ()) ∧ σ = ⟨[], [eV (.x 0) [.isl .dfn lK, .ptr (.x 1) 0 0], eV (.x 1) [.isl .int lB]]⟩) ?_ ?_
 obtain ⟨hNM, h⟩ := sat_grdP h
 refine kX (fun σ n => ∃ (f5 : Nat) (v6 : Int) (z : Int), f5 = n ∧ f5 = (26 - v6).toNat ∧ 0 ≤ v6 ∧ v6 = z ∧ sat (f440_L2 kC mE loG hiH pI psJ vA lB f5 v6) R8 ∧ σ.keep [3, 5, 13] [(.s 3), (.x 0), (.x 1)] = ⟨[pT 3, (5, iD vA), (13, iD z)], [eV (.s 3) [ci kC, .str mE, ci loG, ci hiH, .str pI, .isl .part psJ], eV (.x 0) [.isl .dfn lK, .ptr (.x 1) 0 0], eV (.x 1) [.isl .int lB]]⟩) ⟨_, _, 0, _, rfl, rfl, (by decide), rfl, h, rfl⟩ ?_
 rintro σ n ⟨f5, v6, _, rfl, hf5, hpf5, rfl, h, hσ⟩
 refine kk hσ ?_
 intro t9 (ht9 : t9 = decide (v6 < 26))
 cases t9
 obtain rfl := il_nil hf5 ht9
 rw [f440_L2] at h
 conv => whnf
 exact ⟨ss h, rfl⟩
 obtain ⟨g7, rfl, hwg7, hpg7, hfg7⟩ := il_cons hf5 hpf5 ht9 hNM
 rw [f440_L2] at h
 conv => whnf
 refine ⟨by decide, ?_⟩
 conv => whnf
 refine ⟨([(wrap .u8 ((97 : Int) + (wrap .u8 (Int.tmod (wrap .i64 (vA + v6)) 26))))] : LI), rfl, ?_⟩
 refine kp h fun hbO h => ?_
 refine kL [] (h455 _ _ _ _ _ _ _ _ _ ?_ (sb h))
 rintro vP h
 refine kc h ?_ ?_ <;> intro h
 conv => whnf
 exact ⟨g7, nls, g7, v6 + 1, _, rfl, hfg7, hpg7, hwg7.symm, h, rfl⟩
 replace h := sat_lft a8 h
 exact kR [] (ND 2) (hQ _ _ (ss h))
 rintro _ ⟨h, rfl⟩
 replace h := b8 _ h
 exact kR [] (ND 2) (hQ _ _ (ss h))
end Go.Clap
